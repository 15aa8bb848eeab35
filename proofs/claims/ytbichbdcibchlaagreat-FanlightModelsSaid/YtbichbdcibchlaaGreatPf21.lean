/- Contracts and plain facts. -/
import Derived.Test.YtbichbdcibchlaaGreatPf17
import Derived.Test.YtbichbdcibchlaaGreatPf15
import Derived.Test.YtbichbdcibchlaaGreatPf16
namespace Go.Proofs.YtbichbdcibchlaaGreat
set_option linter.unusedVariables false
set_option linter.unusedSimpArgs false
set_option maxRecDepth 100000
set_option maxHeartbeats 16000000
open Go.RowKit
section
variable {k : Nat} {s d a b f : Int} {l : List Int}
theorem gotP_err : (gotP k a b f).err = false := by
 unfold gotP
 repeat' split
 all_goals rfl
theorem gotP_src : (gotP k a b f).src = a := by
 unfold gotP
 repeat' split
 all_goals rfl
theorem carP_kind (hk : k < 3) (po : Int) (c : Cf) (h : c.lo ≤ po ∧ po ≤ c.hi) : placeP c (carP k) po = kindP (carP k) * c.n + po - c.lo ∧ 0 ≤ kindP (carP k) ∧ kindP (carP k) ≤ 2 := by
 have h3 : k = 0 ∨ k = 1 ∨ k = 2 := by omega
 have hkp : 0 ≤ kindP (carP k) ∧ kindP (carP k) ≤ 2 := by rcases h3 with rfl | rfl | rfl <;> decide
 refine ⟨?_, hkp⟩
 unfold placeP
 rw [if_neg (by omega)]
theorem kindP_inj {p q : Int} (h : kindP p = kindP q) (h0 : 0 ≤ kindP p) : p = q := by
 unfold kindP at h h0
 repeat' split at h
 all_goals first | omega | (simp at h0; omega)
theorem placeP_inj {c : Cf} {p q x y : Int} (h : placeP c p x = placeP c q y) (h0 : 0 ≤ placeP c p x) : p = q ∧ x = y := by
 have hp := kindP_bd p
 have hq := kindP_bd q
 unfold placeP at h h0
 split at h
 ·rename_i h1; rw [if_pos h1] at h0; omega
 rename_i h1
 rw [if_neg h1] at h0
 split at h
 ·omega
 rename_i h2
 have e3 : kindP p = 0 ∨ kindP p = 1 ∨ kindP p = 2 := by omega
 have e4 : kindP q = 0 ∨ kindP q = 1 ∨ kindP q = 2 := by omega
 have hk : kindP p = kindP q := by
  have hn : c.n = c.hi - c.lo + 1 := rfl
  rcases e3 with e3 | e3 | e3 <;> rcases e4 with e4 | e4 | e4 <;> rw [e3, e4] at h ⊢ <;> omega
 refine ⟨kindP_inj hk (by omega), ?_⟩
 rw [hk] at h
 omega
theorem frame_hd (hs : 0 ≤ s ∧ s ≤ 4294967295) (hd : 0 ≤ d ∧ d ≤ 4294967295) (hn : l.length ≤ 40) : hdOf (frameL k s d a b f l) = ⟨20, (frameL k s d a b f l).length, 64, carP k, s, d⟩ := (frame_get hs hd hn).2
section
variable (hs : 0 ≤ s ∧ s ≤ 4294967295) (hd : 0 ≤ d ∧ d ≤ 4294967295) (ha : 0 ≤ a ∧ a ≤ 65535) (hb : 0 ≤ b ∧ b ≤ 65535) (hl : Bytes8 l) (hn : l.length ≤ 40) (hk : k < 4)
include hs hd ha hb hl hn hk
theorem frame_rw2 : rwE (frameL k s d a b f l) = 0 ∧ (getR (hdOf (frameL k s d a b f l)) (frameL k s d a b f l)).2 = gotP k a b f := by
 have h1 := (frame_get (k := k) (a := a) (b := b) (f := f) hs hd hn).1
 have h2 := frame_got (k := k) (f := f) hs hd ha hb hl hk
 have h3 := frame_hd (k := k) (a := a) (b := b) (f := f) hs hd hn
 refine ⟨?_, ?_⟩
 ·unfold rwE; rw [if_neg (by simp [h1]), h3, h2]
 ·rw [h3, h2]
theorem frame_rd : rdE (frameL k s d a b f l) = 0 ∧ rdH (frameL k s d a b f l) = ⟨20, (frameL k s d a b f l).length, 64, carP k, s, d⟩ ∧ rdP (frameL k s d a b f l) = gotP k a b f := by
 have h1 := (frame_get (k := k) (a := a) (b := b) (f := f) hs hd hn).1
 have h2 := frame_got (k := k) (f := f) hs hd ha hb hl hk
 have h3 := frame_hd (k := k) (a := a) (b := b) (f := f) hs hd hn
 have e : rdE (frameL k s d a b f l) = 0 := by unfold rdE; rw [if_pos h1, h3, h2]
 refine ⟨e, ?_, ?_⟩
 ·unfold rdH; rw [if_pos e, h3]
 ·unfold rdP; rw [if_pos e, h3, h2]
theorem frame_who (ou : Int) : whoP ou true (frameL k s d a b f l) = (⟨carP k, s, a⟩, 0) := by
 obtain ⟨h1, h2, h3⟩ := frame_rd (f := f) hs hd ha hb hl hn hk
 unfold whoP insF
 rw [if_neg (by simp [h1]), if_pos rfl, h2, h3, if_neg (by simp [gotP_err]), gotP_src]
theorem frame_begins (h : k < 3) (hf : k = 1 → f = 2) : begP true (frameL k s d a b f l) = true := by
 obtain ⟨h1, h2, h3⟩ := frame_rd (f := f) hs hd ha hb hl hn hk
 unfold begP
 rw [h1, h3, gotP_err]
 have h3 : k = 0 ∨ k = 1 ∨ k = 2 := by omega
 rcases h3 with rfl | rfl | rfl
 ·rfl
 ·rw [hf rfl]
  show (true && ((0 : Int) == 0) && !false && beginsS 6 0 2) = true
  decide +kernel
 ·rfl
theorem frame_again (out : Bool) {ou po : Int} (h8 : Bytes8 (frameL k s d a b f l)) (hou : 0 ≤ ou ∧ ou ≤ 4294967295) (hpo : 0 ≤ po ∧ po ≤ 65535) : Again (frameL k s d a b f l) (rwL (frameL k s d a b f l) out ou po) ⟨20, (frameL k s d a b f l).length, 64, carP k, s, d⟩ (gotP k a b f) out ou po := by
 obtain ⟨h1, h2⟩ := frame_rw2 (f := f) hs hd ha hb hl hn hk
 have h3 := frame_hd (k := k) (a := a) (b := b) (f := f) hs hd hn
 have := rw_again h8 h1 out hou hpo
 rw [h2, h3] at this
 exact this
end
theorem part_again {X Y : List Int} {h : Hd} {p : Pt} {out : Bool} {x y : Int} (g : Again X Y h p out x y) : partI Y = (chP p out x y, true) := by
 unfold partI
 rw [if_pos g.getE]
 have e : hdIf Y 0 = hdOf Y := rfl
 rw [e, g.part]; rfl
theorem chP_plain {p : Pt} (h : p.err = false) (out : Bool) (x y : Int) : chP p out x y = chPorts p (p.proto == 1) out y := by unfold chP; rw [if_neg (by simp [h])]
theorem chP_src {p : Pt} (h : p.err = false) (x y : Int) : (chP p true x y).src = y ∧ (chP p true x y).err = false := by
 rw [chP_plain h]
 unfold chPorts
 exact ⟨by simp, h⟩
theorem part_src {X Y : List Int} {h : Hd} {p : Pt} {x y : Int} (g : Again X Y h p true x y) (he : p.err = false) : ∃ q : Pt, partI Y = (q, true) ∧ q.src = y ∧ q.err = false := ⟨_, part_again g, chP_src he x y⟩
theorem nxt_first (hk : k < 3) (hf : k = 1 → f = 2) : nxt (carP k) 0 true (fb (gotP k a b f).flags 4) (fb (gotP k a b f).flags 1) (fb (gotP k a b f).flags 2) (fb (gotP k a b f).flags 16) = 0 := by
 have h3 : k = 0 ∨ k = 1 ∨ k = 2 := by omega
 rcases h3 with rfl | rfl | rfl
 ·rfl
 ·rw [hf rfl]
  show nxt 6 0 true (fb 2 4) (fb 2 1) (fb 2 2) (fb 2 16) = 0
  decide +kernel
 ·rfl
section
variable (hs : 0 ≤ s ∧ s ≤ 4294967295) (hd : 0 ≤ d ∧ d ≤ 4294967295) (ha : 0 ≤ a ∧ a ≤ 65535) (hb : 0 ≤ b ∧ b ≤ 65535) (hl : Bytes8 l) (hn : l.length ≤ 40) (hk : k < 3)
include hs hd ha hb hl hn hk
theorem step_new (c : Cf) (L : List Bd) (ti po : Int) (hf : k = 1 → f = 2) (hti : 0 ≤ ti ∧ ti ≤ 4294967295) (hpo : 0 ≤ po) (hno : ofB ⟨carP k, s, a⟩ L = none) (hpl : 0 ≤ placeP c (carP k) po) (hat : atB c (placeP c (carP k) po) L = none) :
  stepP c L true (frameL k s d a b f l) ti po = (putB c ⟨⟨carP k, s, a⟩, po, 0, ti⟩ L, 0, rwL (frameL k s d a b f l) true c.ou po) := by
 have h1 := frame_who (f := f) hs hd ha hb hl hn (by omega : k < 4) c.ou
 have h2 := frame_begins (f := f) hs hd ha hb hl hn (by omega : k < 4) hk hf
 obtain ⟨_, _, h3⟩ := frame_rd (f := f) hs hd ha hb hl hn (by omega : k < 4)
 obtain ⟨h4, _⟩ := frame_rw2 (f := f) hs hd ha hb hl hn (by omega : k < 4)
 unfold stepP outS
 rw [if_neg (by omega), h1, if_neg (by simp), if_pos rfl, hno, h2, h3, h4]
 simp only
 rw [if_neg (by simp), if_neg (by omega), if_neg (by omega), if_neg (by rw [hat]; simp; omega), nxt_first hk hf]
theorem step_old (c : Cf) (L : List Bd) (x : Bd) (ti po : Int) (hti : 0 ≤ ti ∧ ti ≤ 4294967295) (hof : ofB ⟨carP k, s, a⟩ L = some x) :
  stepP c L true (frameL k s d a b f l) ti po = (putB c (seenB x (gotP k a b f) true ti) L, 0, rwL (frameL k s d a b f l) true c.ou x.po) := by
 have h1 := frame_who (f := f) hs hd ha hb hl hn (by omega : k < 4) c.ou
 obtain ⟨_, _, h3⟩ := frame_rd (f := f) hs hd ha hb hl hn (by omega : k < 4)
 obtain ⟨h4, _⟩ := frame_rw2 (f := f) hs hd ha hb hl hn (by omega : k < 4)
 unfold stepP outS
 rw [if_neg (by omega), h1, if_neg (by simp), if_pos rfl, hof, h3, h4]
 simp only
 rw [if_neg (by simp [gotP_err])]
end
end
theorem rwE_rdE (l : List Int) : rwE l = rdE l := by
 unfold rwE rdE
 by_cases h : getE l = 0
 ·rw [if_neg (by simp [h]), if_pos h]
 ·rw [if_pos h, if_neg h]
theorem whoP_rdE {o : Int} {ou : Bool} {l : List Int} (h : (whoP o ou l).2 = 0) : rdE l = 0 := by
 unfold whoP at h
 by_cases hE : rdE l = 0
 ·exact hE
 ·rw [if_pos hE] at h
  exact h
section
variable {c : Cf} {b b' : Bd}
end
section
variable {k : Nat} {s d a b f : Int} {l : List Int}
section
variable (hs : 0 ≤ s ∧ s ≤ 4294967295) (hd : 0 ≤ d ∧ d ≤ 4294967295) (ha : 0 ≤ a ∧ a ≤ 65535) (hb : 0 ≤ b ∧ b ≤ 65535) (hl : Bytes8 l) (hn : l.length ≤ 40) (hk : k < 4)
include hs hd ha hb hl hn hk
end
end
theorem insB_len {c : Cf} {b : Bd} : ∀ L : List Bd, (insB c b L).length = L.length + 1
 | [] => rfl
 | y :: L => by
  rw [insB]
  split
  ·rfl
  ·rw [List.length_cons, insB_len L]; rfl
theorem set_put {c : Cf} {b b' : Bd} (hk : keyB c b' = keyB c b) : ∀ {L : List Bd} {i : Nat}, L.Pairwise (fun a b => keyB c a < keyB c b) → L[i]? = some b → L.set i b' = putB c b' L
 | [], i, _, h => by simp at h
 | y :: L, 0, hs, h => by
  simp only [List.getElem?_cons_zero, Option.some.injEq] at h
  subst h
  rw [List.pairwise_cons] at hs
  unfold putB
  have h1 : cutB c (keyB c b') (y :: L) = L := by
   unfold cutB
   rw [List.filter_cons, if_neg (by simp [hk]), List.filter_eq_self]
   intro z hz
   have := hs.1 z hz
   simp; omega
  rw [h1, List.set_cons_zero]
  cases L with
  | nil => rfl
  | cons z L =>
   have := hs.1 z (by simp)
   rw [insB, if_pos (by omega)]
 | y :: L, i + 1, hs, h => by
  simp only [List.getElem?_cons_succ] at h
  rw [List.pairwise_cons] at hs
  have hlt := hs.1 b (List.mem_of_getElem? h)
  have ih := set_put hk hs.2 h
  unfold putB at ih ⊢
  have h1 : cutB c (keyB c b') (y :: L) = y :: cutB c (keyB c b') L := by
   unfold cutB
   rw [List.filter_cons, if_pos (by simp; omega)]
  rw [h1, insB, if_neg (by omega), List.set_cons_succ, ih]
end Go.Proofs.YtbichbdcibchlaaGreat
