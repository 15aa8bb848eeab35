/- Contracts and plain facts. -/
import Derived.Test.YtbichbdcibchlaaGreatPf20
import Derived.Test.YtbichbdcibchlaaGreatPf15
import Derived.Test.YtbichbdcibchlaaGreatPf21
import Derived.Test.YtbichbdcibchlaaGreatPf09
namespace Go.Proofs.YtbichbdcibchlaaGreat
set_option linter.unusedVariables false
set_option linter.unusedSimpArgs false
set_option maxRecDepth 100000
set_option maxHeartbeats 16000000
open Go.RowKit
section
open Go.RowKit Go.Maps
structure LN (w W : World) (c : Cf) (gn pb fm np nf : Nat) (L : List Bd) : Prop where
 nm : NatM W c gn pb fm np nf L
 hg : w.heap.size ≤ gn
 hp : w.heap.size ≤ pb
 hf : w.heap.size ≤ fm
 bel : Below w.heap.size w W
section
variable {w W W' : World} {c : Cf} {gn pb fm np nf np' nf' : Nat} {L L' : List Bd}
theorem NatM.notU (h : NatM W c gn pb fm np nf L) {g : Nat} {cur : Array Value} {t : TypeId} {q : Nat × Nat} (hb : W.heap[g]? = some (.cells cur t q)) : ¬ (g = pb ∨ g = fm) := by
 rintro (e | e)
 ·obtain ⟨es, clock, h1, _⟩ := h.pl.own
  rw [e, h1] at hb; cases hb
 ·obtain ⟨D, ⟨es, clock, h1, _⟩, _⟩ := h.fl.ex
  rw [e, h1] at hb; cases hb
theorem NatM.ownU (h : NatM W c gn pb fm np nf L) {k : IntKind} {e : TypeId} {base : Nat} {v : Value} {l : List Int} (ho : Own k e W base v l) (hu : Upd (fun k => k = pb ∨ k = fm) W W') : Own k e W' base v l := by
 refine ho.upd hu (fun g hg => ?_)
 rcases ho.row.2 with ⟨rfl, _⟩ | ⟨g', cap, cur, rfl, _, hgg, _⟩
 ·simp [Value.ownBlock] at hg
 ·simp only [Value.ownBlock, Option.some.injEq] at hg
  subst hg
  exact h.notU hgg
theorem LN.bel_ (h : LN w W c gn pb fm np nf L) (hb : Below W.heap.size W W') : LN w W' c gn pb fm np nf L := ⟨h.nm.bel_ hb, h.hg, h.hp, h.hf, bel_after h.bel hb⟩
theorem LN.step (h : LN w W c gn pb fm np nf L) (hm : NatM W' c gn pb fm np' nf' L') (hu : Upd (fun k => k = pb ∨ k = fm) W W') : LN w W' c gn pb fm np' nf' L' :=
 ⟨hm, h.hg, h.hp, h.hf, h.bel.trans (hu.below h.bel.size (fun k hk hS => by
  have h1 := h.hp
  have h2 := h.hf
  rcases hS with e | e <;> omega))⟩
end
def StR (w W : World) (c : Cf) (gn pb fm np nf : Nat) (R : List Bd × Int × List Int) (e : Ending) (W' : World) : Prop :=
 ∃ v np' nf', e = .returned (.agg #[v, .int .i64 R.2.1]) ∧ Own .u8 5 W' W.heap.size v R.2.2 ∧ LN w W' c gn pb fm np' nf' R.1 ∧ np' ≤ np + 1 ∧ nf' ≤ nf + 1 ∧ Upd (fun k => k = pb ∨ k = fm) W W'
theorem LN.stp {w W : World} {c : Cf} {gn pb fm np nf : Nat} {L : List Bd} (h : LN w W c gn pb fm np nf L) (hc : c.ok) (hou : 0 ≤ c.ou ∧ c.ou ≤ 4294967295) (hn1 : np < 900000) (hn2 : nf < 900000) (ou : Bool) (xA : Option Addr) (xn xc : Nat) (ti po : Int) (l : List Int)
  (hr : Rd .u8 W W.heap.size xA xn l) (hlc : xn ≤ xc) (hcm : xc ≤ 9223372036854775807) (hl : xn ≤ 60000) :
  Calls Tryz.prog 10 #[.pointer (some ⟨gn, 0, none⟩), .agg (A9 ou xA xn xc ti po)] W (StR w W c gn pb fm np nf (stepP c L ou l ti po)) := by
 refine (Step_any c gn pb fm np nf L ou xA xn xc ti po l W h.nm hc hou hn1 hn2 hr hlc hcm hl).mono ?_
 rintro e W' ⟨v, np', nf', rfl, hO, hM, h1, h2, hu⟩
 exact ⟨v, np', nf', rfl, hO, h.step hM hu, h1, h2, hu⟩
theorem LN.made {w W W' : World} {c : Cf} {e : Ending} (hb : Below w.heap.size w W) (h : NewR W c e W') : ∃ gn pb fm, e = .returned (.tuple #[.pointer (some ⟨gn, 0, none⟩), .int .i64 0]) ∧ LN w W' c gn pb fm 0 0 [] := by
 obtain ⟨gn, pb, fm, rfl, hm, hb2, h1, h2, h3⟩ := h
 have := hb.size
 exact ⟨gn, pb, fm, rfl, hm, by omega, by omega, by omega, bel_after hb hb2⟩
theorem LN.bnd {w W : World} {c : Cf} {gn pb fm np nf : Nat} {L : List Bd} (h : LN w W c gn pb fm np nf L) (hc : c.ok) (hnp : np ≤ 1000000) : Calls Tryz.prog 12 #[.pointer (some ⟨gn, 0, none⟩)] W fun e W' => ∃ v, e = .returned v ∧ OwnT BdL 6 95 W' W.heap.size v L ∧ LN w W' c gn pb fm np nf L ∧ Below W.heap.size W W' := by
 refine (Bindings_any c gn pb fm np nf L W h.nm hc hnp).mono ?_
 rintro e W' ⟨v, rfl, hO, hM, hb⟩
 exact ⟨v, rfl, hO, h.bel_ hb, hb⟩
end
section
open Go.RowKit Go.Maps
end
section
open Go.RowKit Go.Maps
end
end Go.Proofs.YtbichbdcibchlaaGreat
