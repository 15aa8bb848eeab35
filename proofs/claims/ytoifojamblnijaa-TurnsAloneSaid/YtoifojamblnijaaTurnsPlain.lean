/- Workers by turns, plain: what a step does to the cells and to the worker. -/
import Derived.Test.YtoifojamblnijaaCells
import Derived.Test.YtoifojamblnijaaRowT
namespace Go.Proofs.Ytoifojamblnijaa
set_option linter.unusedVariables false
set_option linter.unusedSimpArgs false
open Go.RowKit
structure TOp where
  kind : Int
  cell : Int
  a : Int
  b : Int
  kept : Bool
def TOp.cs (x : TOp) : List Value := [.int .i64 x.kind, .int .i64 x.cell, .int .u64 x.a, .int .u64 x.b, .bool x.kept]
theorem TOp.cs_len (x : TOp) : x.cs.length = 5 := rfl
theorem TOp.cs_one (x : TOp) : ∀ u ∈ x.cs, u.oneCell' = true := by intro u hu; simp [TOp.cs] at hu; rcases hu with rfl | rfl | rfl | rfl | rfl <;> rfl
def TOp.ok (x : TOp) : Prop := (0 ≤ x.a ∧ x.a ≤ 18446744073709551615) ∧ (0 ≤ x.b ∧ x.b ≤ 18446744073709551615)
structure Dn where
  who : Int
  idx : Int
  got : Int
def Dn.cs (x : Dn) : List Value := [.int .i64 x.who, .int .i64 x.idx, .int .u64 x.got]
theorem Dn.cs_len (x : Dn) : x.cs.length = 3 := rfl
theorem Dn.cs_one (x : Dn) : ∀ u ∈ x.cs, u.oneCell' = true := by intro u hu; simp [Dn.cs] at hu; rcases hu with rfl | rfl | rfl <;> rfl
structure Wk where
  prog : List TOp
  pos : Nat
  kept : Int
/-- the number that a step uses -/
def TOp.arg (o : TOp) (kept : Int) : Int := if o.kept then kept else o.a
def inl (l : List Int) (i : Int) : Prop := 0 ≤ i ∧ i < l.length
instance (l : List Int) (i : Int) : Decidable (inl l i) := by unfold inl; exact inferInstance
/-- what a step gets; what is kept; the cells behind it -/
def TOp.got (o : TOp) (kept : Int) (l : List Int) : Int :=
  if o.kind = 0 then celAt l o.cell
  else if o.kind = 1 then 0
  else if o.kind = 2 then (if inl l o.cell ∧ celAt l o.cell = o.arg kept then 1 else 0)
  else if o.kind = 3 then (if inl l o.cell then (celAt l o.cell + o.arg kept) % 18446744073709551616 else 0)
  else 0
def TOp.keep (o : TOp) (kept : Int) (l : List Int) : Int := if o.kind = 0 then celAt l o.cell else kept
def TOp.put (o : TOp) (kept : Int) (l : List Int) : List Int :=
  if o.kind = 1 then celSet l o.cell (o.arg kept)
  else if o.kind = 2 then (if inl l o.cell ∧ celAt l o.cell = o.arg kept then celSet l o.cell o.b else l)
  else if o.kind = 3 then celSet l o.cell ((celAt l o.cell + o.arg kept) % 18446744073709551616)
  else l
theorem TOp.put_length (o : TOp) (kept : Int) (l : List Int) : (o.put kept l).length = l.length := by
  unfold TOp.put; split
  · exact celSet_length _ _ _
  · split
    · split
      · exact celSet_length _ _ _
      · rfl
    · split
      · exact celSet_length _ _ _
      · rfl
theorem TOp.load {o : TOp} (h : o.kind = 0) (k : Int) (l : List Int) : o.got k l = celAt l o.cell ∧ o.keep k l = celAt l o.cell ∧ o.put k l = l := by
  simp [TOp.got, TOp.keep, TOp.put, h]
theorem TOp.store {o : TOp} (h : o.kind = 1) (k : Int) (l : List Int) : o.got k l = 0 ∧ o.keep k l = k ∧ o.put k l = celSet l o.cell (o.arg k) := by
  simp [TOp.got, TOp.keep, TOp.put, h]
theorem TOp.cas {o : TOp} (h : o.kind = 2) (k : Int) (l : List Int) : o.got k l = (if inl l o.cell ∧ celAt l o.cell = o.arg k then 1 else 0) ∧ o.keep k l = k ∧ o.put k l = (if inl l o.cell ∧ celAt l o.cell = o.arg k then celSet l o.cell o.b else l) := by
  simp [TOp.got, TOp.keep, TOp.put, h]
theorem TOp.add {o : TOp} (h : o.kind = 3) (k : Int) (l : List Int) : o.got k l = (if inl l o.cell then (celAt l o.cell + o.arg k) % 18446744073709551616 else 0) ∧ o.keep k l = k ∧ o.put k l = celSet l o.cell ((celAt l o.cell + o.arg k) % 18446744073709551616) := by
  simp [TOp.got, TOp.keep, TOp.put, h]
theorem TOp.none {o : TOp} (h0 : ¬ o.kind = 0) (h1 : ¬ o.kind = 1) (h2 : ¬ o.kind = 2) (h3 : ¬ o.kind = 3) (k : Int) (l : List Int) : o.got k l = 0 ∧ o.keep k l = k ∧ o.put k l = l := by
  simp [TOp.got, TOp.keep, TOp.put, h0, h1, h2, h3]
theorem celRng {w : World} {g h : Nat} {l : List Int} (hc : Cel w g h l) (i : Int) : 0 ≤ celAt l i ∧ celAt l i ≤ 18446744073709551615 := by
  unfold celAt
  split
  · rename_i h; exact (hc.at_ (k := i.toNat) (by omega)).2.2
  · omega
/-- the state of all: workers, cells -/
structure TSt where
  ws : List Wk
  l : List Int
/-- worker k does its next step, if it has one -/
def TSt.step (s : TSt) (k : Nat) : TSt × List Dn :=
  match s.ws[k]? with
  | none => (s, [])
  | some w => match w.prog[w.pos]? with
    | none => (s, [])
    | some o => (⟨s.ws.set k ⟨w.prog, w.pos + 1, o.keep w.kept s.l⟩, o.put w.kept s.l⟩, [⟨k, w.pos, o.got w.kept s.l⟩])
def TSt.runs (s : TSt) : List Nat → TSt × List Dn
  | [] => (s, [])
  | k :: r => ((s.step k).1.runs r |>.1, (s.step k).2 ++ ((s.step k).1.runs r).2)
theorem TSt.step_len (s : TSt) (k : Nat) : (s.step k).1.ws.length = s.ws.length ∧ (s.step k).1.l.length = s.l.length := by
  unfold TSt.step
  split
  · exact ⟨rfl, rfl⟩
  · split
    · exact ⟨rfl, rfl⟩
    · exact ⟨by simp, TOp.put_length _ _ _⟩
theorem TSt.runs_len (s : TSt) (r : List Nat) : (s.runs r).1.ws.length = s.ws.length ∧ (s.runs r).1.l.length = s.l.length := by
  induction r generalizing s with
  | nil => exact ⟨rfl, rfl⟩
  | cons k r ih =>
    have h1 := s.step_len k
    have h2 := ih (s.step k).1
    exact ⟨h2.1.trans h1.1, h2.2.trans h1.2⟩
theorem TSt.runs_append (s : TSt) (r q : List Nat) : s.runs (r ++ q) = (((s.runs r).1.runs q).1, (s.runs r).2 ++ ((s.runs r).1.runs q).2) := by
  induction r generalizing s with
  | nil => simp [TSt.runs]
  | cons k r ih => simp only [List.cons_append, TSt.runs, ih]; simp [List.append_assoc]
end Go.Proofs.Ytoifojamblnijaa
