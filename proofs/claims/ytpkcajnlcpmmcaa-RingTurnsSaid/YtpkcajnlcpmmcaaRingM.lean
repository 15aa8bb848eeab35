/- A ring as a queue, in memory; the walk of the law's waits. -/
import Derived.Test.YtpkcajnlcpmmcaaRingQ
namespace Go.Proofs.Ytpkcajnlcpmmcaa
set_option linter.unusedVariables false
set_option linter.unusedSimpArgs false
open Go.RowKit
theorem PtrDone.upd {S : Nat → Prop} {W W' : World} {P : Option Addr} (h : PtrDone W P) (hu : Upd S W W') (hS : ∀ pb sp, StpAt W pb sp → ¬ S pb) : PtrDone W' P := by
  rcases h with rfl | ⟨pb, sp, rfl, hs, hd⟩
  · exact .inl rfl
  · exact .inr ⟨pb, sp, rfl, Blk.upd hs hu (hS pb sp hs), hd⟩
structure QM (w : World) (b g h k : Nat) (q : List Int) (got : Nat) (P G : Option Addr) (r : Rg) (W : World) : Prop where
  rg : RgAt W b g h P G r
  hp : PtrDone W P
  hg : PtrDone W G
  qi : QInv r q got
  n : r.n = k
  bel : Below w.heap.size w W
  hb : w.heap.size ≤ b
  hh : w.heap.size ≤ h
theorem QM.bel' {w W W' : World} {b g h k : Nat} {q : List Int} {got : Nat} {P G : Option Addr} {r : Rg} (m : QM w b g h k q got P G r W) (hb : Below W.heap.size W W') : QM w b g h k q got P G r W' :=
  ⟨m.rg.bel hb, m.hp.upd (Upd.of_below hb (fun _ => False)) (fun _ _ _ => id), m.hg.upd (Upd.of_below hb (fun _ => False)) (fun _ _ _ => id), m.qi, m.n, bel_after m.bel hb, m.hb, m.hh⟩
/-- how the pointer of the other side is kept -/
theorem keepPtr {W W1 W2 : World} {b g h nb : Nat} {P G G0 : Option Addr} {r r' : Rg} {s' : Stp} (rg : RgAt W b g h P G r) (hG : PtrDone W G0) (hnb : W.heap.size ≤ nb) (up1 : Upd (fun x => x = b) W W1) (up2 : Upd (fun x => x = b ∨ x = h ∨ x = nb) W1 W2) : PtrDone W2 G0 := by
  have hu : Upd (fun x => x = b ∨ x = h ∨ x = nb) W W2 := (up1.mono fun k _ e => .inl e).trans up2
  refine hG.upd hu (fun pb sp hs => ?_)
  have hlt : pb < W.heap.size := Blk.lt hs
  obtain ⟨h1, h2, h3⟩ := rg.nes hs
  rintro (e | e | e) <;> omega
theorem QM.put {w W W1 W2 : World} {b g h k nb : Nat} {q : List Int} {got : Nat} {P G : Option Addr} {r : Rg} {v : Int} (m : QM w b g h k q got P G r W) (hnb : W.heap.size ≤ nb) (up1 : Upd (fun x => x = b) W W1)
    (rs : RS W1 b g h nb (some ⟨nb, 0, none⟩) G (Rg.runF 3 r ⟨false, 0, v, 11, false⟩).1 (Rg.runF 3 r ⟨false, 0, v, 11, false⟩).2 W2) (hd : (Rg.runF 3 r ⟨false, 0, v, 11, false⟩).2.done = true) (hbig : got + q.length + 1 ≤ 1000000) :
    (q.length = k ∧ (Rg.runF 3 r ⟨false, 0, v, 11, false⟩).2.fin = 9 ∧ ∃ r', QM w b g h k q got (some ⟨nb, 0, none⟩) G r' W2) ∨ (q.length < k ∧ (Rg.runF 3 r ⟨false, 0, v, 11, false⟩).2.fin = 0 ∧ ∃ r', QM w b g h k (q ++ [v]) got (some ⟨nb, 0, none⟩) G r' W2) := by
  have hwW := m.bel.size
  have hb := m.hb
  have hh := m.hh
  have hG : PtrDone W2 G := keepPtr (r' := r) (s' := ⟨false, 0, v, 11, false⟩) m.rg m.hg hnb up1 rs.upd
  have hP : PtrDone W2 (some ⟨nb, 0, none⟩) := .inr ⟨nb, _, rfl, rs.st, hd⟩
  have hbel : Below w.heap.size w W2 := (m.bel.trans (up1.below hwW (fun x hx e => by subst e; omega))).trans (rs.upd.below (Nat.le_trans hwW up1.size) (fun x hx e => by rcases e with e | e | e <;> omega))
  have hle := m.qi.le
  rw [m.n] at hle
  rcases Nat.lt_or_ge q.length k with hlt | hge
  · right
    obtain ⟨r', h1, h2, h3⟩ := put_fits m.qi v (by rw [m.n]; exact hlt) hbig
    rw [h1] at rs ⊢
    exact ⟨hlt, rfl, r', rs.rg, hP, hG, h2, by rw [h3, m.n], hbel, hb, hh⟩
  · left
    have hf : q.length = k := by omega
    have h1 := put_full m.qi v (by rw [m.n]; exact hf)
    rw [h1] at rs ⊢
    exact ⟨hf, rfl, r, rs.rg, hP, hG, m.qi, m.n, hbel, hb, hh⟩
theorem QM.get {w W W1 W2 : World} {b g h k nb : Nat} {q : List Int} {got : Nat} {P G : Option Addr} {r : Rg} (m : QM w b g h k q got P G r W) (hnb : W.heap.size ≤ nb) (up1 : Upd (fun x => x = b) W W1)
    (rs : RS W1 b g h nb P (some ⟨nb, 0, none⟩) (Rg.runF 3 r ⟨true, 0, 0, 11, false⟩).1 (Rg.runF 3 r ⟨true, 0, 0, 11, false⟩).2 W2) (hd : (Rg.runF 3 r ⟨true, 0, 0, 11, false⟩).2.done = true) :
    (q = [] ∧ (Rg.runF 3 r ⟨true, 0, 0, 11, false⟩).2.fin = 7 ∧ ∃ r', QM w b g h k q got P (some ⟨nb, 0, none⟩) r' W2) ∨
      (∃ x t, q = x :: t ∧ (Rg.runF 3 r ⟨true, 0, 0, 11, false⟩).2.fin = 0 ∧ (Rg.runF 3 r ⟨true, 0, 0, 11, false⟩).2.val = x ∧ ∃ r', QM w b g h k t (got + 1) P (some ⟨nb, 0, none⟩) r' W2) := by
  have hwW := m.bel.size
  have hb := m.hb
  have hh := m.hh
  have hP : PtrDone W2 P := keepPtr (r' := r) (s' := ⟨false, 0, 0, 11, false⟩) m.rg m.hp hnb up1 rs.upd
  have hG : PtrDone W2 (some ⟨nb, 0, none⟩) := .inr ⟨nb, _, rfl, rs.st, hd⟩
  have hbel : Below w.heap.size w W2 := (m.bel.trans (up1.below hwW (fun x hx e => by subst e; omega))).trans (rs.upd.below (Nat.le_trans hwW up1.size) (fun x hx e => by rcases e with e | e | e <;> omega))
  have hqi := m.qi
  cases q with
  | nil =>
    left
    have h1 := get_none hqi
    rw [h1] at rs ⊢
    exact ⟨rfl, rfl, r, rs.rg, hP, hG, hqi, m.n, hbel, hb, hh⟩
  | cons x t =>
    right
    obtain ⟨r', h1, h2, h3⟩ := get_one hqi
    rw [h1] at rs ⊢
    exact ⟨x, t, rfl, rfl, rfl, r', rs.rg, hP, hG, h2, by rw [h3, m.n], hbel, hb, hh⟩
end Go.Proofs.Ytpkcajnlcpmmcaa
