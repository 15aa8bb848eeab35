/- Rows of programs that a law builds. -/
import Derived.Test.YtoifojamblnijaaTurns5
namespace Go.Proofs.Ytoifojamblnijaa
set_option linter.unusedVariables false
set_option linter.unusedSimpArgs false
open Go.RowKit
structure Hdr where
  A : Option Addr
  n : Nat
  cap : Nat
def Hdr.cs (x : Hdr) : List Value := [.slice x.A x.n x.cap]
theorem Hdr.cs_len (x : Hdr) : x.cs.length = 1 := rfl
theorem Hdr.cs_one (x : Hdr) : ∀ u ∈ x.cs, u.oneCell' = true := by intro u hu; simp [Hdr.cs] at hu; subst hu; rfl
theorem info_ops : (Try.prog.info? 25).map (fun i => (i.zero, i.size, i.bytes)) = some (some (.slice none 0 0), 1, 24) := by kernel_rfl
theorem info_op : (Try.prog.info? 27).map (fun i => (i.zero, i.size, i.bytes)) = some (some (.agg #[.int .i64 0, .int .i64 0, .int .u64 0, .int .u64 0, .bool false]), 5, 40) := by kernel_rfl
/-- a row of the call's own that holds programs -/
structure POwn (w : World) (base : Nat) (v : Value) (hs : List Hdr) (ps : List (List TOp)) : Prop where
  own : OwnT Hdr.cs 1 25 w base v hs
  len : hs.length = ps.length
  prg : ∀ (i : Nat) hd p, hs[i]? = some hd → ps[i]? = some p → hd.n = p.length ∧ hd.n ≤ hd.cap ∧ hd.cap ≤ maxLen ∧ PrgAt w hd.A hd.n p
theorem POwn.nil (w : World) (base : Nat) : POwn w base (.slice none 0 0) [] [] := ⟨OwnT.nil _ _ _ _ _, rfl, by simp⟩
theorem POwn.upd {S : Nat → Prop} {w w' : World} {base : Nat} {v : Value} {hs : List Hdr} {ps : List (List TOp)} (h : POwn w base v hs ps) (hu : Upd S w w') (h1 : ∀ b c, Blk w b 25 c → ¬ S b) (h2 : ∀ b c, Blk w b 27 c → ¬ S b) : POwn w' base v hs ps :=
  ⟨h.own.updne hu h1, h.len, fun i hd p a b => by
    obtain ⟨b1, b2, b3, b4⟩ := h.prg i hd p a b
    exact ⟨b1, b2, b3, b4.upd hu h2⟩⟩
theorem POwn.bel {w w' : World} {base : Nat} {v : Value} {hs : List Hdr} {ps : List (List TOp)} (h : POwn w base v hs ps) (hb : Below w.heap.size w w') : POwn w' base v hs ps :=
  h.upd (Upd.of_below hb (fun _ => False)) (fun _ _ _ => id) (fun _ _ _ => id)
theorem POwn.app {w w1 : World} {base : Nat} {v v1 : Value} {hs : List Hdr} {ps : List (List TOp)} {hd : Hdr} {p : List TOp} (h : POwn w base v hs ps) (own1 : OwnT Hdr.cs 1 25 w1 base v1 (hs ++ [hd])) (hg : w.grownBy w1 v.ownBlock)
    (h1 : hd.n = p.length) (h2 : hd.n ≤ hd.cap) (h3 : hd.cap ≤ maxLen) (h4 : PrgAt w hd.A hd.n p) : POwn w1 base v1 (hs ++ [hd]) (ps ++ [p]) := by
  have hu : Upd (fun g => v.ownBlock = some g) w w1 := Upd.of_grown hg (fun g h => h)
  have ho : ∀ b cs, Blk w b 27 cs → ¬ v.ownBlock = some b := fun b cs hb => h.own.ne hb (by decide)
  refine ⟨own1, by simp [h.len], fun i hd' p' a b => ?_⟩
  rcases Nat.lt_or_ge i hs.length with hi | hi
  · rw [List.getElem?_append_left hi] at a
    rw [List.getElem?_append_left (by rw [← h.len]; exact hi)] at b
    obtain ⟨b1, b2, b3, b4⟩ := h.prg i hd' p' a b
    exact ⟨b1, b2, b3, b4.upd hu ho⟩
  · rw [List.getElem?_append_right hi] at a
    rw [List.getElem?_append_right (by rw [← h.len]; exact hi), ← h.len] at b
    cases hj : i - hs.length with
    | zero =>
      rw [hj] at a b
      simp at a b
      subst a b
      exact ⟨h1, h2, h3, h4.upd hu ho⟩
    | succ j => rw [hj] at a; simp at a
theorem POwn.prgs {w : World} {base n c : Nat} {A : Option Addr} {hs : List Hdr} {ps : List (List TOp)} (h : POwn w base (.slice A n c) hs ps) (hn : ps.length = n) : PrgsAt w A n ps := by
  refine ⟨hn, fun h0 => ?_⟩
  have hl : hs.length = n := by rw [h.len, hn]
  rcases h.own.row.2 with ⟨hv, h1⟩ | ⟨g, cap, cur, hv, hg, hh, hnc, hcm, hcs, hx⟩
  · omega
  · simp only [Value.slice.injEq] at hv
    obtain ⟨rfl, _, _⟩ := hv
    refine ⟨g, 0, cur, rfl, hh, fun j p hj => ?_⟩
    have hjn : j < hs.length := by rw [hl, ← hn]; exact (List.getElem?_eq_some_iff.1 hj).1
    obtain ⟨b1, b2, b3, b4⟩ := h.prg j _ p (List.getElem?_eq_getElem hjn) hj
    refine ⟨_, _, by omega, b3, ?_, by rw [← b1]; exact b4⟩
    have hf := flat_at Hdr.cs_len hs j 0 _ (List.getElem?_eq_getElem hjn) (by omega)
    rw [← hx, List.getElem?_take] at hf
    split at hf
    · rw [← b1, Nat.zero_add]
      simpa [Hdr.cs] using hf
    · rename_i hh; omega
/-- an own row of operations is a program -/
theorem OwnT.prgAt {w : World} {base n c : Nat} {A : Option Addr} {ops : List TOp} (h : OwnT TOp.cs 5 27 w base (.slice A n c) ops) (hn : ops.length = n) (hok : ∀ x ∈ ops, x.ok) : PrgAt w A n ops := by
  refine ⟨hn, hok, fun h0 => ?_⟩
  rcases h.row.2 with ⟨hv, h1⟩ | ⟨g, cap, cur, hv, hg, hh, hnc, hcm, hcs, hx⟩
  · omega
  · simp only [Value.slice.injEq] at hv
    obtain ⟨rfl, _, _⟩ := hv
    refine ⟨g, 0, cur, rfl, hh, fun j x hj f u hu => ?_⟩
    have hf5 : f < 5 := (List.getElem?_eq_some_iff.1 hu).1
    have hjl := (List.getElem?_eq_some_iff.1 hj).1
    have hf := flat_at TOp.cs_len ops j f x hj hf5
    rw [← hx, List.getElem?_take, hu] at hf
    split at hf
    · rw [Nat.zero_add]; simpa using hf
    · cases hf
/-- a block of operations that was just laid is a program -/
theorem PrgAt.new (w : World) (ops : List TOp) (hok : ∀ x ∈ ops, x.ok) (cs : Array Value) (hcs : cs = (ops.flatMap TOp.cs).toArray) (n : Nat) (hn : ops.length = n) : PrgAt (w.alloc (.cells cs 27)) (some ⟨w.heap.size, 0, none⟩) n ops := by
  subst hcs
  refine ⟨hn, hok, fun _ => ⟨_, 0, _, rfl, Blk.new w _ _, fun j x hj f u hu => ?_⟩⟩
  have hf5 : f < 5 := (List.getElem?_eq_some_iff.1 hu).1
  have hf := flat_at TOp.cs_len ops j f x hj hf5
  rw [Nat.zero_add, List.getElem?_toArray, hf, hu]
end Go.Proofs.Ytoifojamblnijaa
