/- A ring with a Put and a Get in flight, in memory. -/
import Derived.Test.YtpkcajnlcpmmcaaRingO
import Derived.Test.YtpkcajnlcpmmcaaRing5
import Derived.Test.YtpkcajnlcpmmcaaFrame
namespace Go.Proofs.Ytpkcajnlcpmmcaa
set_option linter.unusedVariables false
set_option linter.unusedSimpArgs false
open Go.RowKit
/-- the ring's pointer to a step: done, or in flight -/
def PtrOk (w W : World) (P : Option Addr) (sp : Option Stp) : Prop :=
  (sp = none ∧ PtrDone W P) ∨ ∃ s pb, sp = some s ∧ P = some ⟨pb, 0, none⟩ ∧ w.heap.size ≤ pb ∧ StpAt W pb s
def pv (sp : Option Stp) (P : Option Addr) : Option Addr := match sp with | none => none | some _ => P
theorem PtrOk.upd {S : Nat → Prop} {w W W' : World} {P : Option Addr} {sp : Option Stp} (h : PtrOk w W P sp) (hu : Upd S W W') (hS : ∀ pb s, P = some ⟨pb, 0, none⟩ → StpAt W pb s → ¬ S pb) : PtrOk w W' P sp := by
  rcases h with ⟨rfl, hd⟩ | ⟨s, pb, rfl, rfl, h1, h2⟩
  · left
    refine ⟨rfl, ?_⟩
    rcases hd with rfl | ⟨pb, s, rfl, hs, hd⟩
    · exact .inl rfl
    · exact .inr ⟨pb, s, rfl, Blk.upd hs hu (hS pb s rfl hs), hd⟩
  · exact .inr ⟨s, pb, rfl, rfl, h1, Blk.upd h2 hu (hS pb s rfl h2)⟩
theorem PtrOk.lt {w W : World} {P : Option Addr} {sp : Option Stp} (h : PtrOk w W P sp) (a : Addr) (ha : P = some a) : a.block < W.heap.size := by
  rcases h with ⟨rfl, hd⟩ | ⟨s, pb, rfl, rfl, h1, h2⟩
  · rcases hd with rfl | ⟨pb, s, rfl, hs, hd⟩
    · simp at ha
    · simp only [Option.some.injEq] at ha; subst ha; exact Blk.lt hs
  · simp only [Option.some.injEq] at ha; subst ha; exact Blk.lt h2
structure OM (w : World) (b g h k : Nat) (P G : Option Addr) (r : Rg) (va : Value) (was : List Int) (nx hd : Nat) (sp sg : Option Stp) (W : World) : Prop where
  rg : RgAt W b g h P G r
  oi : OInv k r was nx hd sp sg
  own : Own .u64 23 W w.heap.size va was
  hp : PtrOk w W P sp
  hg : PtrOk w W G sg
  ne : ∀ a a', P = some a → G = some a' → a.block ≠ a'.block
  bel : Below w.heap.size w W
  hb : w.heap.size ≤ b
  hh : w.heap.size ≤ h
theorem Own.keepS {kd : IntKind} {e : TypeId} {w w' : World} {base : Nat} {v : Value} {l : List Int} {S : Nat → Prop} (ho : Own kd e w base v l) (hu : Upd S w w') (hS : ∀ g c, Blk w g e c → ¬ S g) : Own kd e w' base v l := by
  refine ⟨⟨ho.row.1, ?_⟩, ho.rng⟩
  rcases ho.row.2 with hn | ⟨g, cap, cur, rfl, hb, hgg, rest⟩
  · exact .inl hn
  · exact .inr ⟨g, cap, cur, rfl, hb, (hu.block g (Array.getElem?_eq_some_iff.1 hgg).1 (hS g cur hgg)).trans hgg, rest⟩
theorem OM.bel' {w W W' : World} {b g h k : Nat} {P G : Option Addr} {r : Rg} {va : Value} {was : List Int} {nx hd : Nat} {sp sg : Option Stp} (m : OM w b g h k P G r va was nx hd sp sg W) (hb : Below W.heap.size W W') : OM w b g h k P G r va was nx hd sp sg W' :=
  ⟨m.rg.bel hb, m.oi, m.own.below hb, m.hp.upd (Upd.of_below hb (fun _ => False)) (fun _ _ _ _ => id), m.hg.upd (Upd.of_below hb (fun _ => False)) (fun _ _ _ _ => id), m.ne, bel_after m.bel hb, m.hb, m.hh⟩
structure OMb (w : World) (b g h : Nat) (P G : Option Addr) (r : Rg) (va : Value) (was : List Int) (sg : Option Stp) (W : World) : Prop where
  rg : RgAt W b g h P G r
  own : Own .u64 23 W w.heap.size va was
  hg : PtrOk w W G sg
  ne : ∀ a a', P = some a → G = some a' → a.block ≠ a'.block
  bel : Below w.heap.size w W
  hb : w.heap.size ≤ b
  hh : w.heap.size ≤ h
theorem OMb.alloc {w W : World} {b g h : Nat} {P G : Option Addr} {r : Rg} {va : Value} {was : List Int} {sg : Option Stp} (m : OMb w b g h P G r va was sg W) (o : Obj) : OMb w b g h P G r va was sg (W.alloc o) :=
  ⟨m.rg.bel (bel_alloc _ _), m.own.alloc _, m.hg.upd (Upd.of_below (bel_alloc _ _) (fun _ => False)) (fun _ _ _ _ => id), m.ne, m.bel.alloc m.bel.size _, m.hb, m.hh⟩
/-- a row that was appended to -/
theorem OMb.app {w W W' : World} {b g h k : Nat} {P G : Option Addr} {r : Rg} {va va' : Value} {was was' : List Int} {nx hd : Nat} {sg sp' : Option Stp} (m : OMb w b g h P G r va was sg W) (hg : W.grownBy W' va.ownBlock) (own : Own .u64 23 W' w.heap.size va' was') (oi : OInv k r was' nx hd sp' sg) (hp : PtrOk w W P sp') : OM w b g h k P G r va' was' nx hd sp' sg W' := by
  have hu : Upd (fun x => va.ownBlock = some x) W W' := Upd.of_grown hg (fun g h => h)
  have hn : ∀ t x c, Blk W x t c → 23 ≠ t → ¬ va.ownBlock = some x := by
    intro t x c hb hne hv
    rcases m.own.row.2 with ⟨rfl, _⟩ | ⟨g', cap, cur, rfl, _, hh, _⟩
    · simp [Value.ownBlock] at hv
    · simp only [Value.ownBlock, Option.some.injEq] at hv
      have h' : Blk W g' 23 cur := hh
      exact h'.ne_ hb hne hv
  obtain ⟨o1, o2, o3, ho⟩ := m.rg.cel.obj
  refine ⟨m.rg.upd hu (hn _ _ _ m.rg.obj (by decide)) (hn _ _ _ ho (by decide)) (hn _ _ _ m.rg.cel.row (by decide)), oi, own, hp.upd hu (fun pb s _ hs => hn _ _ _ hs (by decide)), m.hg.upd hu (fun pb s _ hs => hn _ _ _ hs (by decide)), m.ne, m.bel.grown hg m.bel.size (fun x hx => (m.own.lt x hx).1), m.hb, m.hh⟩
theorem OM.newP {w W W' : World} {b g h k nb : Nat} {P G : Option Addr} {r : Rg} {va : Value} {was : List Int} {nx hd : Nat} {sp sg : Option Stp} (m : OM w b g h k P G r va was nx hd sp sg W) (hnb : W.heap.size ≤ nb) (rg : RgAt W' b g h (some ⟨nb, 0, none⟩) G r)
    (up : Upd (fun x => x = b) W W') : OMb w b g h (some ⟨nb, 0, none⟩) G r va was sg W' := by
  have hb := m.hb
  refine ⟨rg, m.own.keepS up (fun x c hx e => by subst e; exact hx.ne_ m.rg.obj (by decide) rfl), m.hg.upd up (fun x sx hx hsx e => (m.rg.nes hsx).1 e.symm), fun a a' ha ha' => ?_, m.bel.trans (up.below m.bel.size (fun x hx e => by subst e; omega)), hb, m.hh⟩
  simp only [Option.some.injEq] at ha
  subst ha
  have := m.hg.lt a' ha'
  simp only
  omega
theorem OM.newG {w W W' : World} {b g h k nb : Nat} {P G : Option Addr} {r : Rg} {va : Value} {was : List Int} {nx hd : Nat} {sp : Option Stp} (m : OM w b g h k P G r va was nx hd sp none W) (hnb : W.heap.size ≤ nb) (rg : RgAt W' b g h P (some ⟨nb, 0, none⟩) r)
    (st : StpAt W' nb ⟨true, 0, 0, 11, false⟩) (up : Upd (fun x => x = b) W W') : OM w b g h k P (some ⟨nb, 0, none⟩) r va was nx hd sp (some ⟨true, 0, 0, 11, false⟩) W' := by
  have hb := m.hb
  have hbs := m.bel.size
  refine ⟨rg, m.oi.get, m.own.keepS up (fun x c hx e => by subst e; exact hx.ne_ m.rg.obj (by decide) rfl), m.hp.upd up (fun x sx hx hsx e => (m.rg.nes hsx).1 e.symm), .inr ⟨_, nb, rfl, rfl, by omega, st⟩, fun a a' ha ha' => ?_, m.bel.trans (up.below m.bel.size (fun x hx e => by subst e; omega)), hb, m.hh⟩
  simp only [Option.some.injEq] at ha'
  subst ha'
  have := m.hp.lt a ha
  simp only
  omega
/-- a step of the Put was done -/
theorem OM.stepP {w W W' : World} {b g h k pb : Nat} {G : Option Addr} {r r' : Rg} {s s' : Stp} {va va' : Value} {was was' : List Int} {nx hd nx' hd' : Nat} {sg sp' : Option Stp} (m : OM w b g h k (some ⟨pb, 0, none⟩) G r va was nx hd (some s) sg W)
    (rs : RS W b g h pb (some ⟨pb, 0, none⟩) G r' s' W') (oi : OInv k r' was' nx' hd' sp' sg) (hpb : w.heap.size ≤ pb) (hs' : (sp' = none ∧ s'.done = true) ∨ sp' = some s') (hw : Own .u64 23 W' w.heap.size va was → Own .u64 23 W' w.heap.size va' was') :
    OM w b g h k (some ⟨pb, 0, none⟩) G r' va' was' nx' hd' sp' sg W' := by
  have hb := m.hb
  have hh := m.hh
  have st : ∃ s0, StpAt W pb s0 := by
    rcases m.hp with ⟨h1, _⟩ | ⟨s0, pb0, h1, h2, h3, h4⟩
    · simp at h1
    · simp only [Option.some.injEq, Addr.mk.injEq, and_true] at h2; subst h2; exact ⟨s0, h4⟩
  obtain ⟨s0, st⟩ := st
  have own' : Own .u64 23 W' w.heap.size va was := m.own.keepS rs.upd (fun x c hx => by
    rintro (e | e | e)
    · subst e; exact hx.ne_ m.rg.obj (by decide) rfl
    · subst e; exact hx.ne_ m.rg.cel.row (by decide) rfl
    · subst e; exact hx.ne_ st (by decide) rfl)
  refine ⟨rs.rg, oi, hw own', ?_, m.hg.upd rs.upd (fun x sx hx hsx => ?_), m.ne, m.bel.trans (rs.upd.below m.bel.size (fun x hx e => by rcases e with e | e | e <;> omega)), hb, hh⟩
  · rcases hs' with ⟨h1, h2⟩ | h1
    · exact .inl ⟨h1, .inr ⟨pb, s', rfl, rs.st, h2⟩⟩
    · exact .inr ⟨s', pb, h1, rfl, hpb, rs.st⟩
  · obtain ⟨n1, n2, n3⟩ := m.rg.nes hsx
    rintro (e | e | e)
    · exact n1 e.symm
    · exact n3 e.symm
    · exact m.ne _ _ rfl hx e.symm
theorem OM.stepG {w W W' : World} {b g h k pb : Nat} {P : Option Addr} {r r' : Rg} {s s' : Stp} {va : Value} {was : List Int} {nx hd nx' hd' : Nat} {sp sg' : Option Stp} (m : OM w b g h k P (some ⟨pb, 0, none⟩) r va was nx hd sp (some s) W)
    (rs : RS W b g h pb P (some ⟨pb, 0, none⟩) r' s' W') (oi : OInv k r' was nx' hd' sp sg') (hpb : w.heap.size ≤ pb) (hs' : (sg' = none ∧ s'.done = true) ∨ sg' = some s') :
    OM w b g h k P (some ⟨pb, 0, none⟩) r' va was nx' hd' sp sg' W' := by
  have hb := m.hb
  have hh := m.hh
  have st : ∃ s0, StpAt W pb s0 := by
    rcases m.hg with ⟨h1, _⟩ | ⟨s0, pb0, h1, h2, h3, h4⟩
    · simp at h1
    · simp only [Option.some.injEq, Addr.mk.injEq, and_true] at h2; subst h2; exact ⟨s0, h4⟩
  obtain ⟨s0, st⟩ := st
  have own' : Own .u64 23 W' w.heap.size va was := m.own.keepS rs.upd (fun x c hx => by
    rintro (e | e | e)
    · subst e; exact hx.ne_ m.rg.obj (by decide) rfl
    · subst e; exact hx.ne_ m.rg.cel.row (by decide) rfl
    · subst e; exact hx.ne_ st (by decide) rfl)
  refine ⟨rs.rg, oi, own', m.hp.upd rs.upd (fun x sx hx hsx => ?_), ?_, m.ne, m.bel.trans (rs.upd.below m.bel.size (fun x hx e => by rcases e with e | e | e <;> omega)), hb, hh⟩
  · obtain ⟨n1, n2, n3⟩ := m.rg.nes hsx
    rintro (e | e | e)
    · exact n1 e.symm
    · exact n3 e.symm
    · exact m.ne _ _ hx rfl e
  · rcases hs' with ⟨h1, h2⟩ | h1
    · exact .inl ⟨h1, .inr ⟨pb, s', rfl, rs.st, h2⟩⟩
    · exact .inr ⟨s', pb, h1, rfl, hpb, rs.st⟩
end Go.Proofs.Ytpkcajnlcpmmcaa
