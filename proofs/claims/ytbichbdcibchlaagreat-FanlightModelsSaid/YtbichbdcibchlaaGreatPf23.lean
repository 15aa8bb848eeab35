/- Contracts and plain facts. -/
import Derived.Test.YtbichbdcibchlaaGreatPf22
import Derived.Test.YtbichbdcibchlaaGreatPf15
import Derived.Test.YtbichbdcibchlaaGreatPf21
import Derived.Test.YtbichbdcibchlaaGreatPf11
import Derived.Test.YtbichbdcibchlaaGreatPf19
import Derived.Deep.DeepCutAuto
import Derived.Deep.CutBlock
namespace Go.Proofs.YtbichbdcibchlaaGreat
set_option linter.unusedVariables false
set_option linter.unusedSimpArgs false
set_option maxRecDepth 100000
set_option maxHeartbeats 16000000
open Go.RowKit
theorem LN.updB {w W W' : World} {c : Cf} {gn pb fm np nf : Nat} {L : List Bd} {S : Nat → Prop} (h : LN w W c gn pb fm np nf L) (hu : Upd S W W') (hS : ∀ k, S k → w.heap.size ≤ k) (h1 : ¬ S gn) (h2 : ¬ S pb) (h3 : ¬ S fm) : LN w W' c gn pb fm np nf L :=
 ⟨⟨h.nm.obj.upd hu h1, h.nm.pl.upd hu h2, h.nm.fl.upd hu h3, h.nm.ne, h.nm.inv⟩, h.hg, h.hp, h.hf, h.bel.trans (hu.below h.bel.size (fun k hk hs => by have := hS k hs; omega))⟩
abbrev BkL := List (Nat × TypeId × Array Value)
abbrev OwL := List (Value × List Int)
structure Ev (w W : World) (c : Cf) (gn pb fm np nf : Nat) (L : List Bd) (bs : BkL) (os : OwL) : Prop where
 ln : LN w W c gn pb fm np nf L
 bs : ∀ x, x ∈ bs → Blk W x.1 x.2.1 x.2.2
 os : ∀ x, x ∈ os → Own .u8 5 W w.heap.size x.1 x.2
section
variable {w W W' : World} {c : Cf} {gn pb fm np nf : Nat} {L : List Bd} {bs : BkL} {os : OwL}
theorem Ev.bel (h : Ev w W c gn pb fm np nf L bs os) (hb : Below W.heap.size W W') : Ev w W' c gn pb fm np nf L bs os := ⟨h.ln.bel_ hb, fun x hx => (h.bs x hx).bel hb, fun x hx => (h.os x hx).below hb⟩
theorem Ev.blk (h : Ev w W c gn pb fm np nf L bs os) (i : Nat) {g : Nat} {t : TypeId} {cs : Array Value} (hi : bs[i]? = some (g, t, cs)) : Blk W g t cs := h.bs (g, t, cs) (List.mem_of_getElem? hi)
theorem Ev.own (h : Ev w W c gn pb fm np nf L bs os) (i : Nat) {v : Value} {l : List Int} (hi : os[i]? = some (v, l)) : Own .u8 5 W w.heap.size v l := h.os (v, l) (List.mem_of_getElem? hi)
theorem Ev.base (h : Ev w W c gn pb fm np nf L bs os) : w.heap.size ≤ W.heap.size := h.ln.bel.size
theorem Ev.row (h : Ev w W c gn pb fm np nf L bs os) (hb : Below W.heap.size W W') {v : Value} {l : List Int} (ho : Own .u8 5 W' W.heap.size v l) : Ev w W' c gn pb fm np nf L bs ((v, l) :: os) :=
 ⟨(h.bel hb).ln, (h.bel hb).bs, fun x hx => by
  rcases List.mem_cons.1 hx with rfl | hx
  ·exact ho.mono_ h.base
  ·exact (h.bel hb).os x hx⟩
theorem Ev.new0 (h : Ev w W c gn pb fm np nf L bs os) (t : TypeId) (cs : Array Value) : Ev w (W.alloc (.cells cs t)) c gn pb fm np nf L ((W.heap.size, t, cs) :: bs) os :=
 ⟨(h.bel (bel_alloc _ _)).ln, fun x hx => by
  rcases List.mem_cons.1 hx with rfl | hx
  ·exact Blk.new W t cs
  ·exact (h.bel (bel_alloc _ _)).bs x hx, (h.bel (bel_alloc _ _)).os⟩
theorem Ev.new (h : Ev w W c gn pb fm np nf L bs os) (t : TypeId) (z cs : Array Value) : Ev w ((W.alloc (.cells z t)).setRow W.heap.size cs) c gn pb fm np nf L ((W.heap.size, t, cs) :: bs) os := by
 have hb : Below W.heap.size W ((W.alloc (.cells z t)).setRow W.heap.size cs) := below_setRow (bel_alloc _ _) (Nat.le_refl _) _
 refine ⟨(h.bel hb).ln, fun x hx => ?_, (h.bel hb).os⟩
 rcases List.mem_cons.1 hx with rfl | hx
 ·exact (Blk.new W t z).setRow cs
 ·exact (h.bel hb).bs x hx
theorem Ev.far (h : Ev w W c gn pb fm np nf L bs os) {g : Nat} {t : TypeId} {old : Array Value} (hb : Blk W g t old) (hts : (bs.all fun x => x.2.1 != t) = true) : ∀ x, x ∈ bs → x.1 ≠ g := fun x hx e => by
 have h1 := h.bs x hx
 have h2 := List.all_eq_true.1 hts x hx
 have h3 : W.heap[g]? = some (.cells old t (0, 0)) := hb
 have h4 : W.heap[x.1]? = some (.cells x.2.2 x.2.1 (0, 0)) := h1
 rw [e, h3] at h4
 simp only [Option.some.injEq, Obj.cells.injEq] at h4
 rw [← h4.2.1] at h2
 simp at h2
theorem Ev.sub (h : Ev w W c gn pb fm np nf L bs os) {bs' : BkL} {os' : OwL} (h1 : ∀ x, x ∈ bs' → x ∈ bs) (h2 : ∀ x, x ∈ os' → x ∈ os) : Ev w W c gn pb fm np nf L bs' os' := ⟨h.ln, fun x hx => h.bs x (h1 x hx), fun x hx => h.os x (h2 x hx)⟩
theorem Ev.upd {np' nf' : Nat} {L' : List Bd} (h : Ev w W c gn pb fm np nf L bs os) (hl : LN w W' c gn pb fm np' nf' L') (hu : Upd (fun k => k = pb ∨ k = fm) W W') : Ev w W' c gn pb fm np' nf' L' bs os :=
 ⟨hl, fun x hx => h.ln.nm.keepB (h.bs x hx) hu, fun x hx => h.ln.nm.ownU (h.os x hx) hu⟩
theorem Ev.stp (h : Ev w W c gn pb fm np nf L bs os) (hc : c.ok) (hou : 0 ≤ c.ou ∧ c.ou ≤ 4294967295) (hn1 : np < 900000) (hn2 : nf < 900000) (ou : Bool) (xA : Option Addr) (xn xc : Nat) (ti po : Int) (l : List Int)
  (hr : Rd .u8 W W.heap.size xA xn l) (hlc : xn ≤ xc) (hcm : xc ≤ 9223372036854775807) (hl : xn ≤ 60000) {R : List Bd × Int × List Int} (hR : stepP c L ou l ti po = R) :
  Calls Tryz.prog 10 #[.pointer (some ⟨gn, 0, none⟩), .agg (A9 ou xA xn xc ti po)] W fun e W' => ∃ A n cp np' nf', e = .returned (.agg (A13 A n cp R.2.1)) ∧ R.2.2.length = n ∧ n ≤ cp ∧ cp ≤ 9223372036854775807 ∧ Ev w W' c gn pb fm np' nf' R.1 bs ((.slice A n cp, R.2.2) :: os) ∧ np' ≤ np + 1 ∧ nf' ≤ nf + 1 ∧ W.heap.size ≤ W'.heap.size ∧ Upd (fun k => k = pb ∨ k = fm) W W' := by
 refine (h.ln.stp hc hou hn1 hn2 ou xA xn xc ti po l hr hlc hcm hl).mono ?_
 rintro e W' ⟨v, np', nf', rfl, hO, hl', h1, h2, hu⟩
 rw [hR] at *
 obtain ⟨A, cp, rfl, h3, h4, _⟩ := hO.form rfl
 unfold maxLen at h4
 have h5 := h.upd hl' hu
 refine ⟨A, _, cp, np', nf', rfl, rfl, h3, by omega, ⟨h5.ln, h5.bs, fun x hx => ?_⟩, h1, h2, hu.size, hu⟩
 rcases List.mem_cons.1 hx with rfl | hx
 ·exact hO.mono_ h.base
 ·exact h5.os x hx
theorem Ev.bnd (h : Ev w W c gn pb fm np nf L bs os) (hc : c.ok) (hnp : np ≤ 1000000) : Calls Tryz.prog 12 #[.pointer (some ⟨gn, 0, none⟩)] W fun e W' => ∃ A cp, e = .returned (.slice A L.length cp) ∧ L.length ≤ cp ∧ OwnT BdL 6 95 W' W.heap.size (.slice A L.length cp) L ∧ Ev w W' c gn pb fm np nf L bs os ∧ Below W.heap.size W W' := by
 refine (h.ln.bnd hc hnp).mono ?_
 rintro e W' ⟨v, rfl, hO, hl, hb⟩
 obtain ⟨A, cp, rfl, h1, h2⟩ := hO.form rfl
 exact ⟨A, cp, rfl, h1, hO, h.bel hb, hb⟩
theorem Ev.rd (h : Ev w W c gn pb fm np nf L bs os) (i : Nat) {A : Option Addr} {n cp : Nat} {l : List Int} (hi : os[i]? = some (.slice A n cp, l)) (hn : l.length = n) : Rd .u8 W W.heap.size A n l := (h.own i hi).rdS hn
theorem Ev.b8 (h : Ev w W c gn pb fm np nf L bs os) (i : Nat) {v : Value} {l : List Int} (hi : os[i]? = some (v, l)) : Bytes8 l := fun x hx => inr_u8 ((h.own i hi).rng x hx)
end
theorem place39 {k : Nat} (hk : k < 3) {po : Int} (h : 1000 ≤ po ∧ po ≤ 1039) : 0 ≤ placeP (cfL 39) (carP k) po := by
 have hx := carP_kind hk po (cfL 39) (by show (1000 : Int) ≤ po ∧ po ≤ 1000 + 39; omega)
 have hn : (cfL 39).n = 40 := rfl
 have hl : (cfL 39).lo = 1000 := rfl
 rw [hx.1, hn, hl]
 omega
section
variable {k1 k2 : Nat} {s1 d1 a1 b1 s2 d2 a2 b2 : Int} {l1 l2 : List Int}
end
structure HI (L : List Bd) (F : List Fl) : Prop where
 len : L.length = F.length
 mem : ∀ (i : Nat) (f : Fl), F[i]? = some f → ∃ b, b ∈ L ∧ b.fl = f ∧ b.po = 1000 + (i : Int)
 bak : ∀ b, b ∈ L → ∃ i : Nat, F[i]? = some b.fl ∧ b.po = 1000 + (i : Int)
theorem HI.nil : HI [] [] := ⟨rfl, fun i f h => by simp at h, fun b h => by simp at h⟩
theorem HI.of {L : List Bd} {F : List Fl} (h : HI L F) {f : Fl} : f ∈ F ↔ ∃ b, ofB f L = some b := by
 constructor
 ·intro hf
  obtain ⟨i, hi⟩ := List.getElem?_of_mem hf
  obtain ⟨b, hb, hbf, _⟩ := h.mem i f hi
  cases hx : ofB f L with
  | some x => exact ⟨x, rfl⟩
  | none => exact absurd hbf (ofB_none hx b hb)
 ·rintro ⟨b, hb⟩
  obtain ⟨h1, h2⟩ := ofB_some hb
  obtain ⟨i, hi, _⟩ := h.bak b h1
  rw [← h2]
  exact List.mem_of_getElem? hi
section
variable {c : Cf} {L : List Bd} {F : List Fl}
theorem HI.seen (h : HI L F) (hi : LInv c L) {b b' : Bd} (hb : b ∈ L) (hf : b'.fl = b.fl) (hp : b'.po = b.po) : HI (putB c b' L) F := by
 have hk : keyB c b' = keyB c b := by unfold keyB; rw [hf, hp]
 obtain ⟨i, hib⟩ := List.getElem?_of_mem hb
 have hs := set_put (c := c) (b := b) (b' := b') hk hi.srt hib
 refine ⟨by rw [← hs, List.length_set]; exact h.len, fun j f hj => ?_, fun x hx => ?_⟩
 ·obtain ⟨x, hx, h1, h2⟩ := h.mem j f hj
  by_cases e : x = b
  ·subst e
   exact ⟨b', mem_putB.2 (.inl rfl), by rw [hf, h1], by rw [hp, h2]⟩
  ·refine ⟨x, mem_putB.2 (.inr ⟨hx, fun e2 => e (hi.key_inj hx hb (e2.trans hk))⟩), h1, h2⟩
 ·rcases mem_putB.1 hx with rfl | ⟨hx, _⟩
  ·rw [hf, hp]; exact h.bak b hb
  ·exact h.bak x hx
theorem HI.new (h : HI L F) {u : Fl} {tr se : Int} (hat : atB c (placeP c u.pr (1000 + (F.length : Int))) L = none) : HI (putB c ⟨u, 1000 + (F.length : Int), tr, se⟩ L) (F ++ [u]) := by
 have hk : keyB c ⟨u, 1000 + (F.length : Int), tr, se⟩ = placeP c u.pr (1000 + (F.length : Int)) := rfl
 have hno := fun y hy => atB_none hat y hy
 refine ⟨?_, fun j f hj => ?_, fun x hx => ?_⟩
 ·unfold putB
  rw [hk, cutB_none hno, insB_len, List.length_append, h.len]; rfl
 ·rcases Nat.lt_or_ge j F.length with hj2 | hj2
  ·rw [List.getElem?_append_left hj2] at hj
   obtain ⟨x, hx, h1, h2⟩ := h.mem j f hj
   exact ⟨x, mem_putB.2 (.inr ⟨hx, by rw [hk]; exact hno x hx⟩), h1, h2⟩
  ·rw [List.getElem?_append_right hj2] at hj
   have e0 : j - F.length = 0 := by
    have := (List.getElem?_eq_some_iff.1 hj).1
    simp at this; omega
   rw [e0] at hj
   simp only [List.getElem?_cons_zero, Option.some.injEq] at hj
   subst hj
   exact ⟨_, mem_putB.2 (.inl rfl), rfl, by show 1000 + (F.length : Int) = _; omega⟩
 ·rcases mem_putB.1 hx with rfl | ⟨hx, _⟩
  ·exact ⟨F.length, by simp, rfl⟩
  ·obtain ⟨i, h1, h2⟩ := h.bak x hx
   exact ⟨i, by rw [List.getElem?_append_left (List.getElem?_eq_some_iff.1 h1).1]; exact h1, h2⟩
theorem HI.free (h : HI L F) (hi : LInv c L) {u : Fl} (h0 : 0 ≤ placeP c u.pr (1000 + (F.length : Int))) : atB c (placeP c u.pr (1000 + (F.length : Int))) L = none := by
 cases hx : atB c (placeP c u.pr (1000 + (F.length : Int))) L with
 | none => rfl
 | some b =>
  obtain ⟨hb, hk⟩ := atB_some hx
  obtain ⟨i, h1, h2⟩ := h.bak b hb
  have h3 := (placeP_inj (show placeP c b.fl.pr b.po = _ from hk) (hi.ok b hb).key).2
  have := (List.getElem?_eq_some_iff.1 h1).1
  omega
end
def pG (F : List Fl) (f : Fl) : Option Value := if f ∈ F then some (.int .i64 (1000 + (F.idxOf f : Int))) else none
def fG (F : List Fl) (x : Int × Int) : Option Value := match F[(x.2 - 1000).toNat]? with | some f => if 1000 ≤ x.2 ∧ f.pr = x.1 then some (.agg f.cs) else none | none => none
theorem pG_snoc {F : List Fl} {u : Fl} (hu : u ∉ F) (g : Fl) : (if g = u then some (Value.int .i64 (1000 + (F.length : Int))) else pG F g) = pG (F ++ [u]) g := by
 unfold pG
 by_cases h : g = u
 ·subst h
  rw [if_pos rfl, if_pos (by simp), List.idxOf_append, if_neg hu]
  simp
 ·rw [if_neg h]
  by_cases hg : g ∈ F
  ·rw [if_pos hg, if_pos (by simp [hg]), List.idxOf_append, if_pos hg]
  ·rw [if_neg hg, if_neg (by simp [hg, h])]
theorem fG_snoc {F : List Fl} {u : Fl} (g : Int × Int) : (if g = (u.pr, 1000 + (F.length : Int)) then some (Value.agg u.cs) else fG F g) = fG (F ++ [u]) g := by
 unfold fG
 by_cases h : g = (u.pr, 1000 + (F.length : Int))
 ·subst h
  rw [if_pos rfl]
  simp only
  rw [show (1000 + (F.length : Int) - 1000).toNat = F.length by omega, List.getElem?_append_right (Nat.le_refl _), Nat.sub_self]
  simp only [List.getElem?_cons_zero]
  rw [if_pos ⟨by omega, trivial⟩]
 ·rw [if_neg h]
  rcases Nat.lt_trichotomy (g.2 - 1000).toNat F.length with h1 | h1 | h1
  ·rw [List.getElem?_append_left h1]
  ·rw [h1, List.getElem?_append_right (Nat.le_refl _), Nat.sub_self, List.getElem?_eq_none (Nat.le_refl _)]
   simp only [List.getElem?_cons_zero]
   rw [if_neg]
   rintro ⟨h2, h3⟩
   refine h ?_
   obtain ⟨g1, g2⟩ := g
   simp only at h1 h2 h3
   rw [h3]
   congr 1
   omega
  ·rw [List.getElem?_eq_none (by omega), List.getElem?_eq_none (by simp; omega)]
section
variable {c : Cf} {L : List Bd} {F : List Fl}
theorem HI.port (h : HI L F) (hi : LInv c L) {u : Fl} {b : Bd} (hb : ofB u L = some b) (hnd : F.Nodup) : pG F u = some (.int .i64 b.po) := by
 obtain ⟨h1, h2⟩ := ofB_some hb
 obtain ⟨i, h3, h4⟩ := h.bak b h1
 rw [h2] at h3
 unfold pG
 have hl := (List.getElem?_eq_some_iff.1 h3).1
 rw [if_pos (List.mem_of_getElem? h3)]
 have : F.idxOf u = i := by
  have e := (List.getElem?_eq_some_iff.1 h3).2
  rw [← e]
  exact hnd.idxOf_getElem i hl
 rw [this, h4]
theorem HI.who (h : HI L F) (hi : LInv c L) (p q : Int) : fG F (p, q) = (atB c (placeP c p q) L).map fun b => .agg b.fl.cs := by
 unfold fG
 simp only
 cases hx : atB c (placeP c p q) L with
 | some b =>
  obtain ⟨hb, hk⟩ := atB_some hx
  obtain ⟨e1, e2⟩ := placeP_inj (show placeP c b.fl.pr b.po = placeP c p q from hk) (hi.ok b hb).key
  obtain ⟨i, h1, h2⟩ := h.bak b hb
  rw [show (q - 1000).toNat = i by omega, h1]
  simp only
  rw [if_pos ⟨by omega, e1⟩]; rfl
 | none =>
  cases hf : F[(q - 1000).toNat]? with
  | none => rfl
  | some f =>
   simp only
   rw [if_neg]; rfl
   rintro ⟨h1, h2⟩
   obtain ⟨b, hb, h3, h4⟩ := h.mem _ f hf
   refine atB_none hx b hb ?_
   unfold keyB
   rw [h3, h2, h4, show (1000 + ((q - 1000).toNat : Int)) = q by omega]
end
theorem part_in {X Y : List Int} {h : Hd} {p : Pt} {x y : Int} (g : Again X Y h p false x y) : ∃ q : Pt, partI Y = (q, true) ∧ q.err = p.err ∧ (q.err = true → q.inner.src = x ∧ q.src = y) ∧ (q.err = false → q.dst = y) := by
 refine ⟨_, part_again g, ?_, ?_, ?_⟩
 ·unfold chP
  split
  ·rename_i he; simp [chPorts]
  ·rename_i he; simp [chPorts]
 ·unfold chP
  split
  ·intro _; simp [chPorts, chH]
  ·rename_i he
   intro h2
   simp [chPorts] at h2
   exact absurd h2 (by simpa using he)
 ·unfold chP
  split
  ·rename_i he
   intro h2
   simp [chPorts] at h2
   rw [h2] at he; cases he
  ·intro _; simp [chPorts]
theorem pG_none {F : List Fl} {u : Fl} (h : u ∉ F) : pG F u = none := by unfold pG; rw [if_neg h]
section
variable {k : Nat} {s d a b : Int} {l : List Int} {L : List Bd} {F : List Fl}
theorem fm_out (hs : 0 ≤ s ∧ s ≤ 4294967295) (hd : 0 ≤ d ∧ d ≤ 4294967295) (ha : 0 ≤ a ∧ a ≤ 65535) (hb : 0 ≤ b ∧ b ≤ 65535) (hl : Bytes8 l) (hn : l.length ≤ 40) (hk : k < 3) (h : HI L F) (hi : LInv (cfL 39) L) (hnd : F.Nodup) (hF : F.length < 40) (ti : Int) (hti : 0 ≤ ti ∧ ti ≤ 4294967295) :
  ∃ (L' : List Bd) (F' : List Fl) (po : Int), stepP (cfL 39) L true (frameL k s d a b 2 l) ti (1000 + (F.length : Int)) = (L', 0, rwL (frameL k s d a b 2 l) true 3221225985 po) ∧ HI L' F' ∧ F'.Nodup ∧ 1000 ≤ po ∧ po ≤ 1039 ∧
   ((F' = F ∧ pG F ⟨carP k, s, a⟩ = some (.int .i64 po)) ∨ (F' = F ++ [⟨carP k, s, a⟩] ∧ (⟨carP k, s, a⟩ : Fl) ∉ F ∧ po = 1000 + (F.length : Int))) := by
 cases hof : ofB ⟨carP k, s, a⟩ L with
 | some x =>
  obtain ⟨hx, hxf⟩ := ofB_some hof
  obtain ⟨i, h1, h2⟩ := h.bak x hx
  have h3 := (List.getElem?_eq_some_iff.1 h1).1
  refine ⟨_, F, x.po, step_old hs hd ha hb hl hn hk (cfL 39) L x ti _ hti hof, h.seen hi hx rfl rfl, hnd, by omega, by omega, .inl ⟨rfl, ?_⟩⟩
  exact h.port hi hof hnd
 | none =>
  have hu : (⟨carP k, s, a⟩ : Fl) ∉ F := fun hm => by
   obtain ⟨y, hy⟩ := h.of.1 hm
   rw [hof] at hy; cases hy
  have hpl := place39 hk (po := 1000 + (F.length : Int)) (by omega)
  have hat := h.free (u := ⟨carP k, s, a⟩) hi hpl
  refine ⟨_, F ++ [⟨carP k, s, a⟩], 1000 + (F.length : Int), step_new hs hd ha hb hl hn hk (cfL 39) L ti _ (fun _ => rfl) hti (by omega) hof hpl hat, h.new hat, ?_, by omega, by omega, .inr ⟨rfl, hu, rfl⟩⟩
  rw [List.nodup_append]
  exact ⟨hnd, by simp, fun x hx y hy e => hu (by rw [List.mem_singleton] at hy; rw [← hy, ← e]; exact hx)⟩
end
def InT (F : List Fl) (w : Fl × Int) (E : Int) (X : List Int) : Prop :=
 (E ≠ 0 ∧ (w.2 ≠ 0 ∨ fG F (w.1.pr, w.1.po) = none)) ∨
 (E = 0 ∧ w.2 = 0 ∧ X.length ≤ 1500 ∧ ∃ f : Fl, fG F (w.1.pr, w.1.po) = some (.agg f.cs) ∧ ∃ q : Pt, partI X = (q, true) ∧ (q.err = true → q.inner.src = f.ad ∧ q.src = f.po) ∧ (q.err = false → q.dst = f.po))
theorem fm_in {l : List Int} {L : List Bd} {F : List Fl} (h8 : Bytes8 l) (h : HI L F) (hi : LInv (cfL 39) L) : ∃ (L' : List Bd) (E : Int) (X : List Int), stepP (cfL 39) L false l 30 0 = (L', E, X) ∧ HI L' F ∧ InT F (whoP 3221225985 false l) E X := by
 unfold stepP
 rw [if_neg (by omega), show (cfL 39).ou = 3221225985 from rfl]
 by_cases h2 : (whoP 3221225985 false l).2 = 0
 ·rw [if_neg (fun e => e h2), if_neg (by simp)]
  have hrd := whoP_rdE h2
  have hrw : rwE l = 0 := by rw [rwE_rdE]; exact hrd
  unfold inS
  have hw := h.who hi (whoP 3221225985 false l).1.pr (whoP 3221225985 false l).1.po
  cases hat : atB (cfL 39) (placeP (cfL 39) (whoP 3221225985 false l).1.pr (whoP 3221225985 false l).1.po) L with
  | none =>
   rw [hat] at hw
   exact ⟨L, 7, [], rfl, h, .inl ⟨by omega, .inr hw⟩⟩
  | some b =>
   rw [hat] at hw
   obtain ⟨hb, hk⟩ := atB_some hat
   obtain ⟨r1, r2, r3⟩ := (hi.ok b hb).rng
   have hA := rw_again h8 hrw false (inr_u32 r2) (inr_u16 r3)
   obtain ⟨h1, h3⟩ := rw_ok hrw
   obtain ⟨_, m, _, hm, _, _, _, hm2, _⟩ := got_pre h8 h1 h3
   have hln := hA.len
   obtain ⟨q, hq, _, hq1, hq2⟩ := part_in hA
   refine ⟨_, _, _, rfl, ?_, .inr ⟨hrw, h2, by omega, b.fl, hw, q, hq, hq1, hq2⟩⟩
   split
   ·exact h
   ·exact h.seen hi hb rfl rfl
 ·rw [if_pos h2]
  exact ⟨L, _, [], rfl, h, .inl ⟨h2, .inl h2⟩⟩
theorem fG_some {F : List Fl} {x : Int × Int} {v : Value} (h : fG F x = some v) : ∃ f : Fl, v = .agg f.cs := by
 unfold fG at h
 split at h
 ·rename_i f _
  split at h
  ·exact ⟨f, (Option.some.inj h).symm⟩
  ·cases h
 ·cases h
theorem in_tell {F : List Fl} {w : Fl × Int} {E : Int} {X : List Int} (h : InT F w E X) : ∃ (f : Fl) (th : Bool), (fG F (w.1.pr, w.1.po)).getD (.agg Z2) = .agg f.cs ∧ (fG F (w.1.pr, w.1.po)).isSome = th ∧
  ((E ≠ 0 ∧ (w.2 ≠ 0 ∨ th = false)) ∨ (E = 0 ∧ w.2 = 0 ∧ th = true ∧ X.length ≤ 1500 ∧ ∃ q : Pt, partI X = (q, true) ∧ (q.err = true → q.inner.src = f.ad ∧ q.src = f.po) ∧ (q.err = false → q.dst = f.po))) := by
 rcases h with ⟨h1, h2⟩ | ⟨h1, h2, h3, f, h4, h5⟩
 ·cases hG : fG F (w.1.pr, w.1.po) with
  | none => exact ⟨⟨0, 0, 0⟩, false, rfl, rfl, .inl ⟨h1, .inr rfl⟩⟩
  | some v =>
   obtain ⟨f, rfl⟩ := fG_some hG
   rw [hG] at h2
   refine ⟨f, true, rfl, rfl, .inl ⟨h1, .inl ?_⟩⟩
   rcases h2 with h2 | h2
   ·exact h2
   ·cases h2
 ·rw [h4]
  exact ⟨f, true, rfl, rfl, .inr ⟨h1, h2, rfl, h3, h5⟩⟩
section
open Go.RowKit Go.Maps
theorem zeroRf (w : World) : (zeroValue 43).run Tryz.prog w = .ok (.agg Z2) w := by kernel_rfl
theorem pr_flow : KSpec Tryz.prog 57 35 43 (.agg Z2) prV prOk litP :=
 ⟨kpr, fun f h => keyOf_pr h, fun f g hf hg h => litP_inj hf hg h, Tryz.underlying35, zeroRf⟩
theorem KmS.notCells {P : Program} {K : TypeId} {α : Type} {ok : α → Prop} {lit : α → Lit} {W : World} {fb n s : Nat} {G : α → Option Value} (h : KmS P K ok lit W fb n G s) {g : Nat} {cs : Array Value} {t : TypeId} {q : Nat × Nat} (hb : W.heap[g]? = some (.cells cs t q)) : g ≠ fb := fun e => by
 obtain ⟨D, ⟨es, clock, h1, _⟩, _⟩ := h.ex
 rw [e, h1] at hb
 cases hb
section
variable {w W W' : World} {c : Cf} {gn pb fm np nf : Nat} {L : List Bd} {bs : BkL} {os : OwL}
theorem Ev.updM (h : Ev w W c gn pb fm np nf L bs os) {j : Nat} (hj : ∀ g cs t q, W.heap[g]? = some (.cells cs t q) → g ≠ j) (hb : w.heap.size ≤ j) (h1 : pb ≠ j) (h2 : fm ≠ j) (hu : Upd (fun k => k = j) W W') : Ev w W' c gn pb fm np nf L bs os :=
 ⟨h.ln.updB hu (fun k e => by omega) (fun e => hj _ _ _ _ h.ln.nm.obj e) h1 h2, fun x hx => (h.bs x hx).upd hu (fun e => hj _ _ _ _ (h.bs x hx) e), fun x hx => (h.os x hx).upd hu (fun g hg e => by
  rcases (h.os x hx).row.2 with ⟨h3, _⟩ | ⟨g', cap, cur, h3, _, hgg, _⟩
  ·rw [h3] at hg; simp [Value.ownBlock] at hg
  ·rw [h3] at hg
   simp only [Value.ownBlock, Option.some.injEq] at hg
   subst hg
   exact hj _ _ _ _ hgg e)⟩
theorem Ev.upd1 (h : Ev w W c gn pb fm np nf L bs os) {g : Nat} {t : TypeId} {old cs : Array Value} (hb : Blk W g t old) (hbs : ∀ x, x ∈ bs → x.1 ≠ g) (ht : 5 ≠ t) (ht2 : 68 ≠ t) (hg : w.heap.size ≤ g) (hu : Upd (fun k => k = g) W W') (hn : Blk W' g t cs) : Ev w W' c gn pb fm np nf L ((g, t, cs) :: bs) os := by
 refine ⟨h.ln.updB hu (fun k e => by omega) (fun e => h.ln.nm.obj.ne_ hb ht2 e) (fun e => h.ln.nm.pl.notBlk hb e.symm) (fun e => h.ln.nm.fl.notBlk hb e.symm), fun x hx => ?_, fun x hx => (h.os x hx).updne hb ht hu⟩
 rcases List.mem_cons.1 hx with rfl | hx
 ·exact hn
 ·exact (h.bs x hx).upd hu (hbs x hx)
end
structure Fm (w W : World) (gn pb fm np nf : Nat) (L : List Bd) (pm qm n1 n2 : Nat) (F : List Fl) (bs : BkL) (os : OwL) : Prop where
 ev : Ev w W (cfL 39) gn pb fm np nf L bs os
 kp : KmS Tryz.prog 43 Fl.rng litF W pm n1 (pG F) F.length
 kq : KmS Tryz.prog 57 prOk litP W qm n2 (fG F) F.length
 hp : w.heap.size ≤ pm
 hq : w.heap.size ≤ qm
 d : pm ≠ qm ∧ pb ≠ pm ∧ fm ≠ pm ∧ pb ≠ qm ∧ fm ≠ qm
section
variable {w W W' : World} {gn pb fm np nf np' nf' pm qm n1 n2 : Nat} {L L' : List Bd} {F : List Fl} {bs : BkL} {os os' : OwL}
theorem Fm.bel (h : Fm w W gn pb fm np nf L pm qm n1 n2 F bs os) (hb : Below W.heap.size W W') : Fm w W' gn pb fm np nf L pm qm n1 n2 F bs os := ⟨h.ev.bel hb, h.kp.bel hb, h.kq.bel hb, h.hp, h.hq, h.d⟩
theorem Fm.drew (h : Fm w W gn pb fm np nf L pm qm n1 n2 F bs os) : Fm w W.drew gn pb fm np nf L pm qm n1 n2 F bs os := h.bel (Below.refl _ _).drew
theorem Fm.row (h : Fm w W gn pb fm np nf L pm qm n1 n2 F bs os) (hb : Below W.heap.size W W') {v : Value} {l : List Int} (ho : Own .u8 5 W' W.heap.size v l) : Fm w W' gn pb fm np nf L pm qm n1 n2 F bs ((v, l) :: os) := ⟨h.ev.row hb ho, h.kp.bel hb, h.kq.bel hb, h.hp, h.hq, h.d⟩
theorem Fm.new (h : Fm w W gn pb fm np nf L pm qm n1 n2 F bs os) (t : TypeId) (z cs : Array Value) : Fm w ((W.alloc (.cells z t)).setRow W.heap.size cs) gn pb fm np nf L pm qm n1 n2 F ((W.heap.size, t, cs) :: bs) os := by
 have hb : Below W.heap.size W ((W.alloc (.cells z t)).setRow W.heap.size cs) := below_setRow (bel_alloc _ _) (Nat.le_refl _) _
 exact ⟨h.ev.new t z cs, h.kp.bel hb, h.kq.bel hb, h.hp, h.hq, h.d⟩
theorem Fm.sub (h : Fm w W gn pb fm np nf L pm qm n1 n2 F bs os) {bs' : BkL} {os' : OwL} (h1 : ∀ x, x ∈ bs' → x ∈ bs) (h2 : ∀ x, x ∈ os' → x ∈ os) : Fm w W gn pb fm np nf L pm qm n1 n2 F bs' os' := ⟨h.ev.sub h1 h2, h.kp, h.kq, h.hp, h.hq, h.d⟩
theorem Fm.upd1 (h : Fm w W gn pb fm np nf L pm qm n1 n2 F bs os) {g : Nat} {t : TypeId} {old cs : Array Value} (hb : Blk W g t old) (hbs : (bs.all fun x => x.2.1 != t) = true) (ht : 5 ≠ t) (ht2 : 68 ≠ t) (hg : w.heap.size ≤ g) (hu : Upd (fun k => k = g) W W') (hn : Blk W' g t cs) : Fm w W' gn pb fm np nf L pm qm n1 n2 F ((g, t, cs) :: bs) os :=
 ⟨h.ev.upd1 hb (h.ev.far hb hbs) ht ht2 hg hu hn, h.kp.upd hu (fun e => h.kp.notBlk hb e.symm), h.kq.upd hu (fun e => h.kq.notBlk hb e.symm), h.hp, h.hq, h.d⟩
theorem Fm.step (h : Fm w W gn pb fm np nf L pm qm n1 n2 F bs os) (he : Ev w W' (cfL 39) gn pb fm np' nf' L' bs os') (hu : Upd (fun k => k = pb ∨ k = fm) W W') : Fm w W' gn pb fm np' nf' L' pm qm n1 n2 F bs os' := by
 obtain ⟨d1, d2, d3, d4, d5⟩ := h.d
 exact ⟨he, h.kp.upd hu (by omega), h.kq.upd hu (by omega), h.hp, h.hq, h.d⟩
theorem Fm.put (h : Fm w W gn pb fm np nf L pm qm n1 n2 F bs os) (hn1 : n1 < 1000000) (hn2 : n2 < 1000000) {u : Fl} (hu : u.rng) (hF : u ∉ F) (hp : prOk (u.pr, 1000 + (F.length : Int))) : ∃ W1 W2,
  (Instr.mapUpdate 34 (.map (some pm)) (.agg u.cs) (.int .i64 (1000 + (F.length : Int)))).run Tryz.prog W = .ok () W1 ∧
  (Instr.mapUpdate 35 (.map (some qm)) (prV (u.pr, 1000 + (F.length : Int))) (.agg u.cs)).run Tryz.prog W1 = .ok () W2 ∧
  Fm w W2 gn pb fm np nf L pm qm (n1 + 1) (n2 + 1) (F ++ [u]) bs os ∧ (∀ g t cs, Blk W g t cs → Blk W1 g t cs ∧ Blk W2 g t cs) := by
 obtain ⟨d1, d2, d3, d4, d5⟩ := h.d
 obtain ⟨W1, r1, k1, u1⟩ := h.kp.put rflow_int hn1 hu (pG_none hF) (.int .i64 (1000 + (F.length : Int)))
 have q1 := h.kq.upd u1 (fun e => d1 e.symm)
 have e1 := h.ev.updM (fun g cs t q hb => h.kp.notCells hb) h.hp d2 d3 u1
 have hno : fG F (u.pr, 1000 + (F.length : Int)) = none := by
  unfold fG
  simp only
  rw [show (1000 + (F.length : Int) - 1000).toNat = F.length by omega, List.getElem?_eq_none (Nat.le_refl _)]
 obtain ⟨W2, r2, k2, u2⟩ := q1.put pr_flow hn2 hp hno (.agg u.cs)
 have e2 := e1.updM (fun g cs t q hb => q1.notCells hb) h.hq d4 d5 u2
 refine ⟨W1, W2, r1, r2, ⟨e2, ?_, ?_, h.hp, h.hq, h.d⟩, fun g t cs hb => ?_⟩
 ·rw [List.length_append]
  exact (k1.upd u2 d1).ext (fun f _ => pG_snoc hF f)
 ·rw [List.length_append]
  exact k2.ext (fun g _ => fG_snoc g)
 ·have b1 := hb.upd u1 (fun e => h.kp.notBlk hb e)
  exact ⟨b1, b1.upd u2 (fun e => q1.notBlk b1 e)⟩
end
end
section
open Go.RowKit Go.Maps
def frm (v : Nat → Value) : List Value := (List.range 247).map v
theorem frm_lit (v : Nat → Value) : frm v = v 0 :: v 1 :: v 2 :: v 3 :: v 4 :: v 5 :: v 6 :: v 7 :: v 8 :: v 9 :: v 10 :: v 11 :: v 12 :: v 13 :: v 14 :: v 15 :: v 16 :: v 17 :: v 18 :: v 19 :: v 20 :: v 21 :: v 22 :: v 23 :: v 24 :: v 25 :: v 26 :: v 27 :: v 28 :: v 29 :: v 30 :: v 31 :: v 32 :: v 33 :: v 34 :: v 35 :: v 36 :: v 37 :: v 38 :: v 39 :: v 40 :: v 41 :: v 42 :: v 43 :: v 44 :: v 45 :: v 46 :: v 47 :: v 48 :: v 49 :: v 50 :: v 51 :: v 52 :: v 53 :: v 54 :: v 55 :: v 56 :: v 57 :: v 58 :: v 59 :: v 60 :: v 61 :: v 62 :: v 63 :: v 64 :: v 65 :: v 66 :: v 67 :: v 68 :: v 69 :: v 70 :: v 71 :: v 72 :: v 73 :: v 74 :: v 75 :: v 76 :: v 77 :: v 78 :: v 79 :: v 80 :: v 81 :: v 82 :: v 83 :: v 84 :: v 85 :: v 86 :: v 87 :: v 88 :: v 89 :: v 90 :: v 91 :: v 92 :: v 93 :: v 94 :: v 95 :: v 96 :: v 97 :: v 98 :: v 99 :: v 100 :: v 101 :: v 102 :: v 103 :: v 104 :: v 105 :: v 106 :: v 107 :: v 108 :: v 109 :: v 110 :: v 111 :: v 112 :: v 113 :: v 114 :: v 115 :: v 116 :: v 117 :: v 118 :: v 119 :: v 120 :: v 121 :: v 122 :: v 123 :: v 124 :: v 125 :: v 126 :: v 127 :: v 128 :: v 129 :: v 130 :: v 131 :: v 132 :: v 133 :: v 134 :: v 135 :: v 136 :: v 137 :: v 138 :: v 139 :: v 140 :: v 141 :: v 142 :: v 143 :: v 144 :: v 145 :: v 146 :: v 147 :: v 148 :: v 149 :: v 150 :: v 151 :: v 152 :: v 153 :: v 154 :: v 155 :: v 156 :: v 157 :: v 158 :: v 159 :: v 160 :: v 161 :: v 162 :: v 163 :: v 164 :: v 165 :: v 166 :: v 167 :: v 168 :: v 169 :: v 170 :: v 171 :: v 172 :: v 173 :: v 174 :: v 175 :: v 176 :: v 177 :: v 178 :: v 179 :: v 180 :: v 181 :: v 182 :: v 183 :: v 184 :: v 185 :: v 186 :: v 187 :: v 188 :: v 189 :: v 190 :: v 191 :: v 192 :: v 193 :: v 194 :: v 195 :: v 196 :: v 197 :: v 198 :: v 199 :: v 200 :: v 201 :: v 202 :: v 203 :: v 204 :: v 205 :: v 206 :: v 207 :: v 208 :: v 209 :: v 210 :: v 211 :: v 212 :: v 213 :: v 214 :: v 215 :: v 216 :: v 217 :: v 218 :: v 219 :: v 220 :: v 221 :: v 222 :: v 223 :: v 224 :: v 225 :: v 226 :: v 227 :: v 228 :: v 229 :: v 230 :: v 231 :: v 232 :: v 233 :: v 234 :: v 235 :: v 236 :: v 237 :: v 238 :: v 239 :: v 240 :: v 241 :: v 242 :: v 243 :: v 244 :: v 245 :: v 246 :: [] := by kernel_rfl
theorem frm_self {l : List Value} (h : l.length = 247) : l = frm (fun i => l.getD i undef) := by
 apply List.ext_getElem
 ·simp [frm, h]
 ·intro i h1 h2
  simp [frm, List.getD_eq_getElem?_getD, List.getElem?_eq_getElem h1]
theorem frm_meet {l : List Value} {d : List Deferred} {R : (Nat → Value) → Prop} (h : l.length = 247) (hR : R (fun i => l.getD i undef)) : ∃ v, (⟨l.toArray, d⟩ : Act) = ⟨(frm v).toArray, d⟩ ∧ R v := ⟨_, by rw [← frm_self h], hR⟩
theorem Fm.new0 {w W : World} {gn pb fm np nf pm qm n1 n2 : Nat} {L : List Bd} {F : List Fl} {bs : BkL} {os : OwL} (h : Fm w W gn pb fm np nf L pm qm n1 n2 F bs os) (t : TypeId) (cs : Array Value) : Fm w (W.alloc (.cells cs t)) gn pb fm np nf L pm qm n1 n2 F ((W.heap.size, t, cs) :: bs) os :=
 ⟨h.ev.new0 t cs, h.kp.bel (bel_alloc _ _), h.kq.bel (bel_alloc _ _), h.hp, h.hq, h.d⟩
structure Cm (A : Option Addr) (n ca : Nat) (B : Option Addr) (m cb : Nat) (gc gn pm qm : Nat) (v : Nat → Value) : Prop where
 v0 : v 0 = .slice A n ca
 v1 : v 1 = .slice B m cb
 v5 : v 5 = .pointer (some ⟨gc, 0, none⟩)
 v6 : v 6 = .pointer (some ⟨gn, 0, none⟩)
 v8 : v 8 = .map (some pm)
 v9 : v 9 = .map (some qm)
structure Fi (w W : World) (gn pb fm pm qm gc k : Nat) (F : List Fl) : Prop where
 ex : ∃ (np nf n1 n2 : Nat) (L : List Bd), Fm w W gn pb fm np nf L pm qm n1 n2 F [(gc, 25, Z8)] [] ∧ HI L F ∧ F.Nodup ∧ F.length ≤ k ∧ np ≤ k ∧ nf ≤ k ∧ n1 ≤ k ∧ n2 ≤ k
theorem msn_size : (Tryz.prog.info? 38).map (·.size) = some 9 := by kernel_rfl
theorem man_size : (Tryz.prog.info? 47).map (·.size) = some 2 := by kernel_rfl
theorem mrf_size : (Tryz.prog.info? 43).map (·.size) = some 3 := by kernel_rfl
theorem tm3 {j : Nat} (h : j < 3) : (IntKind.u64.wrap (j : Int)).tmod 7 = (j : Int) := by
 rcases (by omega : j = 0 ∨ j = 1 ∨ j = 2) with rfl | rfl | rfl <;> rfl
theorem Places39 (w : World) : Calls Tryz.prog 13 #[.agg Z8] w fun e w' => e = .returned (.int .i64 120) ∧ Below w.heap.size w w' := by
 have kw : ∀ W, Calls Tryz.prog 33 #[.agg Z8] W fun e w' => e = .returned (.int .i64 40) ∧ Below W.heap.size W w' := fun W => Ports_ok (cfL 39) W (cfL_ok (by omega))
 replace kw := Lib.hid kw
 go_enter Tryz.func13, Tryz.ntmps13
 go_upto_region 1 with fail
 have bx := Blk.new w 31 Z8
 have bel := bel_alloc w (.cells Z8 31)
 generalize w.alloc (.cells Z8 31) = W at *
 go_wp2_with (refine wpList_ldRow rfl rfl rfl bx Tryz.underlying31 cf_size ?_)
 refine (kw.out _).mono ?_
 rintro e w2 ⟨rfl, hb⟩
 replace bel := bel_after bel hb
 go_wp2_with fail
 go_ret
 exact ⟨rfl, bel⟩
theorem wpList_lenX {P : Program} {w : World} {t : TypeId} {mv v : Value} (hr : ∀ ty, (Builtin.len_ #[t] ty #[mv]).run P w = .ok v w) : ∀ (ops : Array Oper) (rest : List Oper) (o : Oper) (a : Act) (Q : Exit → Act → World → Prop),
  (∃ m, o.op = .call { callee := .builtin .len, args := #[m], argTypes := #[t] } ∧ a.eval m = mv ∧ Region.wanted o (yielded ops a.tmps) = true) → wpList P ops Q rest (a.put o.dst v) w → wpList P ops Q (o :: rest) a w :=
 fun ops rest o a Q ⟨m, ho, hm, hg⟩ h => by
  refine wpList_step fun K hK => ?_
  rw [if_pos hg]
  unfold Oper.wp execOp
  simp only [ho, resolve, invoke, builtin, Sem.run_bind, Sem.run_pure, Result.andThen_ok, List.map_toArray, List.map_cons, List.map_nil, hm, hr]
  exact hK _ _ h
end
end Go.Proofs.YtbichbdcibchlaaGreat
