/- The ring and the document's, their steps, the law's rows of them: in memory. -/
import Derived.Test.YtpkcajnlcpmmcaaRingT5
import Derived.Test.YtpkcajnlcpmmcaaFrame
import Derived.Deep.CutBlock
import Derived.Deep.Cut
import Derived.RegionTactic
import Derived.Outline
namespace Go.Proofs.Ytpkcajnlcpmmcaa
set_option linter.unusedVariables false
set_option linter.unusedSimpArgs false
open Go.RowKit
/-- a step and the document's: none yet, or alike -/
def StOk (W : World) (P D : Option Addr) (x : Option Stp) : Prop :=
  (x = none ∧ P = none ∧ D = none) ∨ ∃ pb qb s, x = some s ∧ P = some ⟨pb, 0, none⟩ ∧ D = some ⟨qb, 0, none⟩ ∧ StpAt W pb s ∧ FStpAt W qb s
section
variable {W W' : World} {P D : Option Addr} {x : Option Stp}
theorem StOk.tyP (h : StOk W P D x) (a : Addr) (ha : P = some a) : ∃ cs, Blk W a.block 63 cs := by
  rcases h with ⟨_, rfl, _⟩ | ⟨pb, qb, s, _, rfl, _, h1, _⟩
  · cases ha
  · cases ha; exact ⟨_, h1⟩
theorem StOk.tyD (h : StOk W P D x) (a : Addr) (ha : D = some a) : ∃ cs, Blk W a.block 55 cs := by
  rcases h with ⟨_, _, rfl⟩ | ⟨pb, qb, s, _, _, rfl, _, h2⟩
  · cases ha
  · cases ha; exact ⟨_, h2⟩
theorem StOk.upd {S : Nat → Prop} (h : StOk W P D x) (hu : Upd S W W') (hP : ∀ a, P = some a → ¬ S a.block) (hD : ∀ a, D = some a → ¬ S a.block) : StOk W' P D x := by
  rcases h with h | ⟨pb, qb, s, rfl, rfl, rfl, h1, h2⟩
  · exact .inl h
  · exact .inr ⟨pb, qb, s, rfl, rfl, rfl, Blk.upd h1 hu (hP _ rfl), Blk.upd h2 hu (hD _ rfl)⟩
theorem StOk.bel (h : StOk W P D x) (hb : Below W.heap.size W W') : StOk W' P D x := h.upd (Upd.of_below hb (fun _ => False)) (fun _ _ => id) (fun _ _ => id)
end
def Ge (n : Nat) (P : Option Addr) : Prop := ∀ a, P = some a → n ≤ a.block
def Ne (P Q : Option Addr) : Prop := ∀ a a', P = some a → Q = some a' → a.block ≠ a'.block
structure TM (w0 : World) (b g h rb lb sx dx k : Nat) (P G D0 D1 : Option Addr) (r : Rg) (M : List Int) (nx hd : Nat) (ps gs : Option Stp) (W : World) : Prop where
  rg : RgAt W b g h P G r
  rf : RfAt W rb lb D0 D1 r M
  bs : Blk W sx 51 #[.pointer P, .pointer G]
  bd : Blk W dx 48 #[.pointer D0, .pointer D1]
  sp : StOk W P D0 ps
  sg : StOk W G D1 gs
  ne : Ne P G
  ned : Ne D0 D1
  ti : TI k r nx hd ps gs
  bel : Below w0.heap.size w0 W
  hb : w0.heap.size ≤ b ∧ w0.heap.size ≤ h ∧ w0.heap.size ≤ rb ∧ w0.heap.size ≤ lb ∧ w0.heap.size ≤ sx ∧ w0.heap.size ≤ dx
  hp : Ge w0.heap.size P ∧ Ge w0.heap.size G ∧ Ge w0.heap.size D0 ∧ Ge w0.heap.size D1
section
variable {w0 W W' W1 W2 : World} {b g h rb lb sx dx k nx hd : Nat} {P G D0 D1 : Option Addr} {r : Rg} {M : List Int} {ps gs : Option Stp}
theorem TM.bel' (m : TM w0 b g h rb lb sx dx k P G D0 D1 r M nx hd ps gs W) (hb : Below W.heap.size W W') : TM w0 b g h rb lb sx dx k P G D0 D1 r M nx hd ps gs W' :=
  ⟨m.rg.bel hb, m.rf.bel hb, m.bs.bel hb, m.bd.bel hb, m.sp.bel hb, m.sg.bel hb, m.ne, m.ned, m.ti, bel_after m.bel hb, m.hb, m.hp⟩
theorem TM.drew (m : TM w0 b g h rb lb sx dx k P G D0 D1 r M nx hd ps gs W) : TM w0 b g h rb lb sx dx k P G D0 D1 r M nx hd ps gs W.drew := m.bel' (Below.refl _ _).drew
/-- what the law's own stores of the two pointers need -/
theorem TM.put (m : TM w0 b g h rb lb sx dx k P G D0 D1 r M nx hd ps gs W) (hl : live ps = none) (v : Int) (hv : inr .u64 v) {nb nq : Nat} (hnb : W.heap.size ≤ nb) (rg : RgAt W1 b g h (some ⟨nb, 0, none⟩) G r) (st : StpAt W1 nb ⟨false, 0, v, 11, false⟩) (up : Upd (fun x => x = b) W W1)
    (hnq : W1.heap.size ≤ nq) (rf : RfAt W2 rb lb (some ⟨nq, 0, none⟩) D1 r M) (fs : FStpAt W2 nq ⟨false, 0, v, 11, false⟩) (up2 : Upd (fun x => x = rb) W1 W2) :
    TM w0 b g h rb lb sx dx k (some ⟨nb, 0, none⟩) G (some ⟨nq, 0, none⟩) D1 r M nx hd (some ⟨false, 0, v, 11, false⟩) gs ((W2.setCell ⟨sx, 0, none⟩ (.pointer (some ⟨nb, 0, none⟩))).setCell ⟨dx, 0, none⟩ (.pointer (some ⟨nq, 0, none⟩))) := by
  obtain ⟨h1, h2, h3, h4, h5, h6⟩ := m.hb
  obtain ⟨p1, p2, p3, p4⟩ := m.hp
  have hsz := m.bel.size
  have u1 := up.size
  -- all in W2
  have st2 : StpAt W2 nb ⟨false, 0, v, 11, false⟩ := Blk.upd st up2 (fun e => by subst e; exact Blk.ne_ st (m.rf.upd up (m.rf.obj.ne_ m.rg.obj (by decide)) (m.rf.row.ne_ m.rg.obj (by decide))).obj (by decide) rfl)
  have rf1 := m.rf.upd up (m.rf.obj.ne_ m.rg.obj (by decide)) (m.rf.row.ne_ m.rg.obj (by decide))
  obtain ⟨_, _, _, hgo⟩ := rg.cel.obj
  have rg2 := rg.upd up2 (rg.obj.ne_ rf1.obj (by decide)) (hgo.ne_ rf1.obj (by decide)) (rg.cel.row.ne_ rf1.obj (by decide))
  have bs2 := (m.bs.upd up (m.bs.ne_ m.rg.obj (by decide))).upd up2 ((m.bs.upd up (m.bs.ne_ m.rg.obj (by decide))).ne_ rf1.obj (by decide))
  have bd2 := (m.bd.upd up (m.bd.ne_ m.rg.obj (by decide))).upd up2 ((m.bd.upd up (m.bd.ne_ m.rg.obj (by decide))).ne_ rf1.obj (by decide))
  have sg1 := m.sg.upd up (fun a ha => by obtain ⟨cs, hc⟩ := m.sg.tyP a ha; exact hc.ne_ m.rg.obj (by decide)) (fun a ha => by obtain ⟨cs, hc⟩ := m.sg.tyD a ha; exact hc.ne_ m.rg.obj (by decide))
  have sg2 := sg1.upd up2 (fun a ha => by obtain ⟨cs, hc⟩ := sg1.tyP a ha; exact hc.ne_ rf1.obj (by decide)) (fun a ha => by obtain ⟨cs, hc⟩ := sg1.tyD a ha; exact hc.ne_ rf1.obj (by decide))
  -- the stores
  have us := Upd.one W2 sx 0 (.pointer (some ⟨nb, 0, none⟩))
  obtain ⟨_, _, _, hg2⟩ := rg2.cel.obj
  have ud := Upd.one (W2.setCell ⟨sx, 0, none⟩ (.pointer (some ⟨nb, 0, none⟩))) dx 0 (.pointer (some ⟨nq, 0, none⟩))
  have usd : Upd (fun x => x = sx ∨ x = dx) W2 ((W2.setCell ⟨sx, 0, none⟩ (.pointer (some ⟨nb, 0, none⟩))).setCell ⟨dx, 0, none⟩ (.pointer (some ⟨nq, 0, none⟩))) := (us.mono (fun _ _ e => .inl e)).trans (ud.mono (fun _ _ e => .inr e))
  have nn : ∀ {x : Nat} {t : TypeId} {cs : Array Value}, Blk W2 x t cs → t ≠ 51 → t ≠ 48 → ¬ (x = sx ∨ x = dx) := fun hx e1 e2 e => e.elim (hx.ne_ bs2 e1) (hx.ne_ bd2 e2)
  have hsd : sx ≠ dx := bs2.ne_ bd2 (by decide)
  refine ⟨rg2.upd usd (nn rg2.obj (by decide) (by decide)) (nn hg2 (by decide) (by decide)) (nn rg2.cel.row (by decide) (by decide)), rf.upd usd (nn rf.obj (by decide) (by decide)) (nn rf.row (by decide) (by decide)), (bs2.set_ 0 _).upd ud hsd, (bd2.upd us (Ne.symm hsd)).set_ 0 _, ?_, ?_, ?_, ?_, m.ti.put hl v hv, ?_, m.hb, ?_⟩
  · exact .inr ⟨nb, nq, _, rfl, rfl, rfl, Blk.upd st2 usd (nn st2 (by decide) (by decide)), Blk.upd fs usd (nn fs (by decide) (by decide))⟩
  · exact sg2.upd usd (fun a ha => by obtain ⟨cs, hc⟩ := sg2.tyP a ha; exact nn hc (by decide) (by decide)) (fun a ha => by obtain ⟨cs, hc⟩ := sg2.tyD a ha; exact nn hc (by decide) (by decide))
  · intro a a' ha ha'
    cases ha
    obtain ⟨cs, hc⟩ := m.sg.tyP a' ha'
    have := hc.lt
    simp only; omega
  · intro a a' ha ha'
    cases ha
    obtain ⟨cs, hc⟩ := sg1.tyD a' ha'
    have := hc.lt
    simp only; omega
  · have b1 : Below w0.heap.size w0 W1 := m.bel.trans (up.below hsz (fun x hx e => by omega))
    have b2 : Below w0.heap.size w0 W2 := b1.trans (up2.below b1.size (fun x hx e => by omega))
    exact b2.trans (usd.below b2.size (fun x hx e => by omega))
  · exact ⟨fun a ha => by cases ha; simp only; omega, p2, fun a ha => by cases ha; simp only; omega, p4⟩
theorem TM.get (m : TM w0 b g h rb lb sx dx k P G D0 D1 r M nx hd ps gs W) (hl : live gs = none) {nb nq : Nat} (hnb : W.heap.size ≤ nb) (rg : RgAt W1 b g h P (some ⟨nb, 0, none⟩) r) (st : StpAt W1 nb ⟨true, 0, 0, 11, false⟩) (up : Upd (fun x => x = b) W W1)
    (hnq : W1.heap.size ≤ nq) (rf : RfAt W2 rb lb D0 (some ⟨nq, 0, none⟩) r M) (fs : FStpAt W2 nq ⟨true, 0, 0, 11, false⟩) (up2 : Upd (fun x => x = rb) W1 W2) :
    TM w0 b g h rb lb sx dx k P (some ⟨nb, 0, none⟩) D0 (some ⟨nq, 0, none⟩) r M nx hd ps (some ⟨true, 0, 0, 11, false⟩) ((W2.setCell ⟨sx, 1, none⟩ (.pointer (some ⟨nb, 0, none⟩))).setCell ⟨dx, 1, none⟩ (.pointer (some ⟨nq, 0, none⟩))) := by
  obtain ⟨h1, h2, h3, h4, h5, h6⟩ := m.hb
  obtain ⟨p1, p2, p3, p4⟩ := m.hp
  have hsz := m.bel.size
  have u1 := up.size
  have rf1 := m.rf.upd up (m.rf.obj.ne_ m.rg.obj (by decide)) (m.rf.row.ne_ m.rg.obj (by decide))
  have st2 : StpAt W2 nb ⟨true, 0, 0, 11, false⟩ := Blk.upd st up2 (fun e => by subst e; exact Blk.ne_ st rf1.obj (by decide) rfl)
  obtain ⟨_, _, _, hgo⟩ := rg.cel.obj
  have rg2 := rg.upd up2 (rg.obj.ne_ rf1.obj (by decide)) (hgo.ne_ rf1.obj (by decide)) (rg.cel.row.ne_ rf1.obj (by decide))
  have bs2 := (m.bs.upd up (m.bs.ne_ m.rg.obj (by decide))).upd up2 ((m.bs.upd up (m.bs.ne_ m.rg.obj (by decide))).ne_ rf1.obj (by decide))
  have bd2 := (m.bd.upd up (m.bd.ne_ m.rg.obj (by decide))).upd up2 ((m.bd.upd up (m.bd.ne_ m.rg.obj (by decide))).ne_ rf1.obj (by decide))
  have sg1 := m.sp.upd up (fun a ha => by obtain ⟨cs, hc⟩ := m.sp.tyP a ha; exact hc.ne_ m.rg.obj (by decide)) (fun a ha => by obtain ⟨cs, hc⟩ := m.sp.tyD a ha; exact hc.ne_ m.rg.obj (by decide))
  have sg2 := sg1.upd up2 (fun a ha => by obtain ⟨cs, hc⟩ := sg1.tyP a ha; exact hc.ne_ rf1.obj (by decide)) (fun a ha => by obtain ⟨cs, hc⟩ := sg1.tyD a ha; exact hc.ne_ rf1.obj (by decide))
  have us := Upd.one W2 sx 1 (.pointer (some ⟨nb, 0, none⟩))
  obtain ⟨_, _, _, hg2⟩ := rg2.cel.obj
  have ud := Upd.one (W2.setCell ⟨sx, 1, none⟩ (.pointer (some ⟨nb, 0, none⟩))) dx 1 (.pointer (some ⟨nq, 0, none⟩))
  have usd : Upd (fun x => x = sx ∨ x = dx) W2 ((W2.setCell ⟨sx, 1, none⟩ (.pointer (some ⟨nb, 0, none⟩))).setCell ⟨dx, 1, none⟩ (.pointer (some ⟨nq, 0, none⟩))) := (us.mono (fun _ _ e => .inl e)).trans (ud.mono (fun _ _ e => .inr e))
  have nn : ∀ {x : Nat} {t : TypeId} {cs : Array Value}, Blk W2 x t cs → t ≠ 51 → t ≠ 48 → ¬ (x = sx ∨ x = dx) := fun hx e1 e2 e => e.elim (hx.ne_ bs2 e1) (hx.ne_ bd2 e2)
  have hsd : sx ≠ dx := bs2.ne_ bd2 (by decide)
  refine ⟨rg2.upd usd (nn rg2.obj (by decide) (by decide)) (nn hg2 (by decide) (by decide)) (nn rg2.cel.row (by decide) (by decide)), rf.upd usd (nn rf.obj (by decide) (by decide)) (nn rf.row (by decide) (by decide)), (bs2.set_ 1 _).upd ud hsd, (bd2.upd us (Ne.symm hsd)).set_ 1 _, ?_, ?_, ?_, ?_, m.ti.get hl, ?_, m.hb, ?_⟩
  · exact sg2.upd usd (fun a ha => by obtain ⟨cs, hc⟩ := sg2.tyP a ha; exact nn hc (by decide) (by decide)) (fun a ha => by obtain ⟨cs, hc⟩ := sg2.tyD a ha; exact nn hc (by decide) (by decide))
  · exact .inr ⟨nb, nq, _, rfl, rfl, rfl, Blk.upd st2 usd (nn st2 (by decide) (by decide)), Blk.upd fs usd (nn fs (by decide) (by decide))⟩
  · intro a a' ha ha'
    cases ha'
    obtain ⟨cs, hc⟩ := m.sp.tyP a ha
    have := hc.lt
    simp only; omega
  · intro a a' ha ha'
    cases ha'
    obtain ⟨cs, hc⟩ := sg1.tyD a ha
    have := hc.lt
    simp only; omega
  · have b1 : Below w0.heap.size w0 W1 := m.bel.trans (up.below hsz (fun x hx e => by omega))
    have b2 : Below w0.heap.size w0 W2 := b1.trans (up2.below b1.size (fun x hx e => by omega))
    exact b2.trans (usd.below b2.size (fun x hx e => by omega))
  · exact ⟨p1, fun a ha => by cases ha; simp only; omega, p3, fun a ha => by cases ha; simp only; omega⟩
/-- behind the ring's Do of a step -/
theorem TM.midP {s s' : Stp} {pb qb : Nat} {r' : Rg} (m : TM w0 b g h rb lb sx dx k (some ⟨pb, 0, none⟩) G (some ⟨qb, 0, none⟩) D1 r M nx hd (some s) gs W) (st : StpAt W pb s) (fs : FStpAt W qb s) (rs : RS W b g h pb (some ⟨pb, 0, none⟩) G r' s' W1) :
    RfAt W1 rb lb (some ⟨qb, 0, none⟩) D1 r M ∧ FStpAt W1 qb s := by
  have nn : ∀ {x : Nat} {t : TypeId} {cs : Array Value}, Blk W x t cs → t ≠ 61 → t ≠ 90 → t ≠ 63 → ¬ (x = b ∨ x = h ∨ x = pb) := fun hx e1 e2 e3 e => e.elim (hx.ne_ m.rg.obj e1) (fun e => e.elim (hx.ne_ m.rg.cel.row e2) (hx.ne_ st e3))
  exact ⟨m.rf.upd rs.upd (nn m.rf.obj (by decide) (by decide) (by decide)) (nn m.rf.row (by decide) (by decide) (by decide)), Blk.upd fs rs.upd (nn fs (by decide) (by decide) (by decide))⟩
theorem TM.doP {s s' : Stp} {pb qb hd' : Nat} {r' : Rg} {M' : List Int} (m : TM w0 b g h rb lb sx dx k (some ⟨pb, 0, none⟩) G (some ⟨qb, 0, none⟩) D1 r M nx hd (some s) gs W) (st : StpAt W pb s) (fs : FStpAt W qb s) (rs : RS W b g h pb (some ⟨pb, 0, none⟩) G r' s' W1)
    (rf : RF W1 rb lb qb (some ⟨qb, 0, none⟩) D1 r' M' s' W2) (ti : TI k r' nx hd' (some s') gs) :
    TM w0 b g h rb lb sx dx k (some ⟨pb, 0, none⟩) G (some ⟨qb, 0, none⟩) D1 r' M' nx hd' (some s') gs W2 := by
  obtain ⟨h1, h2, h3, h4, h5, h6⟩ := m.hb
  obtain ⟨p1, p2, p3, p4⟩ := m.hp
  have hpb : w0.heap.size ≤ pb := p1 _ rfl
  have hqb : w0.heap.size ≤ qb := p3 _ rfl
  obtain ⟨rf1, fs1⟩ := m.midP st fs rs
  have nn : ∀ {x : Nat} {t : TypeId} {cs : Array Value}, Blk W x t cs → t ≠ 61 → t ≠ 90 → t ≠ 63 → ¬ (x = b ∨ x = h ∨ x = pb) := fun hx e1 e2 e3 e => e.elim (hx.ne_ m.rg.obj e1) (fun e => e.elim (hx.ne_ m.rg.cel.row e2) (hx.ne_ st e3))
  have bs1 := m.bs.upd rs.upd (nn m.bs (by decide) (by decide) (by decide))
  have bd1 := m.bd.upd rs.upd (nn m.bd (by decide) (by decide) (by decide))
  have sg1 := m.sg.upd rs.upd (fun a ha => by
    obtain ⟨cs, hc⟩ := m.sg.tyP a ha
    rintro (e | e | e)
    · exact hc.ne_ m.rg.obj (by decide) e
    · exact hc.ne_ m.rg.cel.row (by decide) e
    · exact m.ne _ _ rfl ha e.symm) (fun a ha => by obtain ⟨cs, hc⟩ := m.sg.tyD a ha; exact nn hc (by decide) (by decide) (by decide))
  have n2 : ∀ {x : Nat} {t : TypeId} {cs : Array Value}, Blk W1 x t cs → t ≠ 50 → t ≠ 23 → t ≠ 55 → ¬ (x = rb ∨ x = lb ∨ x = qb) := fun hx e1 e2 e3 e => e.elim (hx.ne_ rf1.obj e1) (fun e => e.elim (hx.ne_ rf1.row e2) (hx.ne_ fs1 e3))
  obtain ⟨_, _, _, hgo⟩ := rs.rg.cel.obj
  refine ⟨rs.rg.upd rf.upd (n2 rs.rg.obj (by decide) (by decide) (by decide)) (n2 hgo (by decide) (by decide) (by decide)) (n2 rs.rg.cel.row (by decide) (by decide) (by decide)), rf.rf, bs1.upd rf.upd (n2 bs1 (by decide) (by decide) (by decide)), bd1.upd rf.upd (n2 bd1 (by decide) (by decide) (by decide)), .inr ⟨pb, qb, s', rfl, rfl, rfl, Blk.upd rs.st rf.upd (n2 rs.st (by decide) (by decide) (by decide)), rf.st⟩, ?_, m.ne, m.ned, ti, ?_, m.hb, m.hp⟩
  · refine sg1.upd rf.upd (fun a ha => by obtain ⟨cs, hc⟩ := sg1.tyP a ha; exact n2 hc (by decide) (by decide) (by decide)) (fun a ha => ?_)
    obtain ⟨cs, hc⟩ := sg1.tyD a ha
    rintro (e | e | e)
    · exact hc.ne_ rf1.obj (by decide) e
    · exact hc.ne_ rf1.row (by decide) e
    · exact m.ned _ _ rfl ha e.symm
  · have b1 : Below w0.heap.size w0 W1 := m.bel.trans (rs.upd.below m.bel.size (fun x hx e => by omega))
    exact b1.trans (rf.upd.below b1.size (fun x hx e => by omega))
theorem TM.midG {s s' : Stp} {pb qb : Nat} {r' : Rg} (m : TM w0 b g h rb lb sx dx k P (some ⟨pb, 0, none⟩) D0 (some ⟨qb, 0, none⟩) r M nx hd ps (some s) W) (st : StpAt W pb s) (fs : FStpAt W qb s) (rs : RS W b g h pb P (some ⟨pb, 0, none⟩) r' s' W1) :
    RfAt W1 rb lb D0 (some ⟨qb, 0, none⟩) r M ∧ FStpAt W1 qb s := by
  have nn : ∀ {x : Nat} {t : TypeId} {cs : Array Value}, Blk W x t cs → t ≠ 61 → t ≠ 90 → t ≠ 63 → ¬ (x = b ∨ x = h ∨ x = pb) := fun hx e1 e2 e3 e => e.elim (hx.ne_ m.rg.obj e1) (fun e => e.elim (hx.ne_ m.rg.cel.row e2) (hx.ne_ st e3))
  exact ⟨m.rf.upd rs.upd (nn m.rf.obj (by decide) (by decide) (by decide)) (nn m.rf.row (by decide) (by decide) (by decide)), Blk.upd fs rs.upd (nn fs (by decide) (by decide) (by decide))⟩
theorem TM.doG {s s' : Stp} {pb qb nx' : Nat} {r' : Rg} {M' : List Int} (m : TM w0 b g h rb lb sx dx k P (some ⟨pb, 0, none⟩) D0 (some ⟨qb, 0, none⟩) r M nx hd ps (some s) W) (st : StpAt W pb s) (fs : FStpAt W qb s) (rs : RS W b g h pb P (some ⟨pb, 0, none⟩) r' s' W1)
    (rf : RF W1 rb lb qb D0 (some ⟨qb, 0, none⟩) r' M' s' W2) (ti : TI k r' nx' hd ps (some s')) :
    TM w0 b g h rb lb sx dx k P (some ⟨pb, 0, none⟩) D0 (some ⟨qb, 0, none⟩) r' M' nx' hd ps (some s') W2 := by
  obtain ⟨h1, h2, h3, h4, h5, h6⟩ := m.hb
  obtain ⟨p1, p2, p3, p4⟩ := m.hp
  have hpb : w0.heap.size ≤ pb := p2 _ rfl
  have hqb : w0.heap.size ≤ qb := p4 _ rfl
  obtain ⟨rf1, fs1⟩ := m.midG st fs rs
  have nn : ∀ {x : Nat} {t : TypeId} {cs : Array Value}, Blk W x t cs → t ≠ 61 → t ≠ 90 → t ≠ 63 → ¬ (x = b ∨ x = h ∨ x = pb) := fun hx e1 e2 e3 e => e.elim (hx.ne_ m.rg.obj e1) (fun e => e.elim (hx.ne_ m.rg.cel.row e2) (hx.ne_ st e3))
  have bs1 := m.bs.upd rs.upd (nn m.bs (by decide) (by decide) (by decide))
  have bd1 := m.bd.upd rs.upd (nn m.bd (by decide) (by decide) (by decide))
  have sg1 := m.sp.upd rs.upd (fun a ha => by
    obtain ⟨cs, hc⟩ := m.sp.tyP a ha
    rintro (e | e | e)
    · exact hc.ne_ m.rg.obj (by decide) e
    · exact hc.ne_ m.rg.cel.row (by decide) e
    · exact m.ne _ _ ha rfl e) (fun a ha => by obtain ⟨cs, hc⟩ := m.sp.tyD a ha; exact nn hc (by decide) (by decide) (by decide))
  have n2 : ∀ {x : Nat} {t : TypeId} {cs : Array Value}, Blk W1 x t cs → t ≠ 50 → t ≠ 23 → t ≠ 55 → ¬ (x = rb ∨ x = lb ∨ x = qb) := fun hx e1 e2 e3 e => e.elim (hx.ne_ rf1.obj e1) (fun e => e.elim (hx.ne_ rf1.row e2) (hx.ne_ fs1 e3))
  obtain ⟨_, _, _, hgo⟩ := rs.rg.cel.obj
  refine ⟨rs.rg.upd rf.upd (n2 rs.rg.obj (by decide) (by decide) (by decide)) (n2 hgo (by decide) (by decide) (by decide)) (n2 rs.rg.cel.row (by decide) (by decide) (by decide)), rf.rf, bs1.upd rf.upd (n2 bs1 (by decide) (by decide) (by decide)), bd1.upd rf.upd (n2 bd1 (by decide) (by decide) (by decide)), ?_, .inr ⟨pb, qb, s', rfl, rfl, rfl, Blk.upd rs.st rf.upd (n2 rs.st (by decide) (by decide) (by decide)), rf.st⟩, m.ne, m.ned, ti, ?_, m.hb, m.hp⟩
  · refine sg1.upd rf.upd (fun a ha => by obtain ⟨cs, hc⟩ := sg1.tyP a ha; exact n2 hc (by decide) (by decide) (by decide)) (fun a ha => ?_)
    obtain ⟨cs, hc⟩ := sg1.tyD a ha
    rintro (e | e | e)
    · exact hc.ne_ rf1.obj (by decide) e
    · exact hc.ne_ rf1.row (by decide) e
    · exact m.ned _ _ ha rfl e
  · have b1 : Below w0.heap.size w0 W1 := m.bel.trans (rs.upd.below m.bel.size (fun x hx e => by omega))
    exact b1.trans (rf.upd.below b1.size (fun x hx e => by omega))
end
/-- a frame of so many slots, by a function -/
def frm (v : Nat → Value) : List Value := (List.range 217).map v
set_option maxRecDepth 100000 in
theorem frm_lit (v : Nat → Value) : frm v = v 0 :: v 1 :: v 2 :: v 3 :: v 4 :: v 5 :: v 6 :: v 7 :: v 8 :: v 9 :: v 10 :: v 11 :: v 12 :: v 13 :: v 14 :: v 15 :: v 16 :: v 17 :: v 18 :: v 19 :: v 20 :: v 21 :: v 22 :: v 23 :: v 24 :: v 25 :: v 26 :: v 27 :: v 28 :: v 29 :: v 30 :: v 31 :: v 32 :: v 33 :: v 34 :: v 35 :: v 36 :: v 37 :: v 38 :: v 39 :: v 40 :: v 41 :: v 42 :: v 43 :: v 44 :: v 45 :: v 46 :: v 47 :: v 48 :: v 49 :: v 50 :: v 51 :: v 52 :: v 53 :: v 54 :: v 55 :: v 56 :: v 57 :: v 58 :: v 59 :: v 60 :: v 61 :: v 62 :: v 63 :: v 64 :: v 65 :: v 66 :: v 67 :: v 68 :: v 69 :: v 70 :: v 71 :: v 72 :: v 73 :: v 74 :: v 75 :: v 76 :: v 77 :: v 78 :: v 79 :: v 80 :: v 81 :: v 82 :: v 83 :: v 84 :: v 85 :: v 86 :: v 87 :: v 88 :: v 89 :: v 90 :: v 91 :: v 92 :: v 93 :: v 94 :: v 95 :: v 96 :: v 97 :: v 98 :: v 99 :: v 100 :: v 101 :: v 102 :: v 103 :: v 104 :: v 105 :: v 106 :: v 107 :: v 108 :: v 109 :: v 110 :: v 111 :: v 112 :: v 113 :: v 114 :: v 115 :: v 116 :: v 117 :: v 118 :: v 119 :: v 120 :: v 121 :: v 122 :: v 123 :: v 124 :: v 125 :: v 126 :: v 127 :: v 128 :: v 129 :: v 130 :: v 131 :: v 132 :: v 133 :: v 134 :: v 135 :: v 136 :: v 137 :: v 138 :: v 139 :: v 140 :: v 141 :: v 142 :: v 143 :: v 144 :: v 145 :: v 146 :: v 147 :: v 148 :: v 149 :: v 150 :: v 151 :: v 152 :: v 153 :: v 154 :: v 155 :: v 156 :: v 157 :: v 158 :: v 159 :: v 160 :: v 161 :: v 162 :: v 163 :: v 164 :: v 165 :: v 166 :: v 167 :: v 168 :: v 169 :: v 170 :: v 171 :: v 172 :: v 173 :: v 174 :: v 175 :: v 176 :: v 177 :: v 178 :: v 179 :: v 180 :: v 181 :: v 182 :: v 183 :: v 184 :: v 185 :: v 186 :: v 187 :: v 188 :: v 189 :: v 190 :: v 191 :: v 192 :: v 193 :: v 194 :: v 195 :: v 196 :: v 197 :: v 198 :: v 199 :: v 200 :: v 201 :: v 202 :: v 203 :: v 204 :: v 205 :: v 206 :: v 207 :: v 208 :: v 209 :: v 210 :: v 211 :: v 212 :: v 213 :: v 214 :: v 215 :: v 216 :: [] := by kernel_rfl
theorem frm_self {l : List Value} (h : l.length = 217) : l = frm (fun i => l.getD i undef) := by
  apply List.ext_getElem
  · simp [frm, h]
  · intro i h1 h2
    simp [frm, List.getD_eq_getElem?_getD, List.getElem?_eq_getElem h1]
theorem frm_meet {l : List Value} {d : List Deferred} {R : (Nat → Value) → Prop} (h : l.length = 217) (hR : R (fun i => l.getD i undef)) : ∃ v, (⟨l.toArray, d⟩ : Act) = ⟨(frm v).toArray, d⟩ ∧ R v := ⟨_, by rw [← frm_self h], hR⟩
/-- what the frame keeps all along -/
structure Com (n : Nat) (A : Option Addr) (m cap b rb sx dx i : Nat) (v : Nat → Value) : Prop where
  v0 : v 0 = .int .i64 n
  v1 : v 1 = .slice A m cap
  v7 : v 7 = .pointer (some ⟨b, 0, none⟩)
  v8 : v 8 = .int .i64 0
  v9 : v 9 = .pointer (some ⟨rb, 0, none⟩)
  v10 : v 10 = .pointer (some ⟨sx, 0, none⟩)
  v11 : v 11 = .pointer (some ⟨dx, 0, none⟩)
  v12 : v 12 = .int .i64 i
end Go.Proofs.Ytpkcajnlcpmmcaa
