/- Package, document, and the law's rows beside them, in memory. -/
import Derived.Test.YtfcldnojmmhekaaEpTurnsG
import Derived.Test.YtfcldnojmmhekaaFrame
import Derived.Deep.CutBlock
import Derived.Deep.Cut
import Derived.RegionTactic
import Derived.Outline
namespace Go.Proofs.Ytfcldnojmmhekaa
set_option linter.unusedVariables false
set_option linter.unusedSimpArgs false
open Go.RowKit
def pkT (t : TypeId) : Bool := t == 104 || t == 68 || t == 72 || t == 74 || t == 30
def dcT (t : TypeId) : Bool := t == 59 || t == 3 || t == 76 || t == 78 || t == 80
def lwT (t : TypeId) : Bool := t == 48 || t == 4
theorem ne_of {f : TypeId → Bool} {t u : TypeId} (h : f t = true) (hu : f u = false) : t ≠ u := fun e => by rw [e, hu] at h; cases h
theorem pk_other {t : TypeId} (h : dcT t = true) : otherT t = true := by
  simp only [dcT, Bool.or_eq_true, beq_iff_eq] at h
  rcases h with (((rfl | rfl) | rfl) | rfl) | rfl <;> decide
theorem lw_other {t : TypeId} (h : lwT t = true) : otherT t = true := by
  simp only [lwT, Bool.or_eq_true, beq_iff_eq] at h
  rcases h with rfl | rfl <;> decide
structure MM (w0 : World) (b g h gr n lb eb pb stb gb sb db : Nat) (E1 : Nat) (pin1 : List Nat) (G1 : List (List Th)) (hs : List Value) (ps : List (Option (Nat × Es))) (E2 : Nat) (pin2 : List Nat) (rs : List Rs) (G2 : List (List Th)) (dhs : List Value) (shs : List Value) (sn : List (List Bool)) (pd : List Bool) (W : World) : Prop where
  el : EL w0 b g h gr n (cellsL E1 pin1) hs G1 W
  sl : SL W w0.heap.size lb ps
  re : RE w0.heap.size eb pb stb gb n E2 pin2 rs dhs G2 W
  sv : GvT bcs 1 4 48 W w0.heap.size sb shs sn
  bd : Blk W db 4 (pd.map Value.bool).toArray
  dn : ∀ v ∈ shs, v.ownBlock ≠ some db
  lo : w0.heap.size ≤ lb ∧ w0.heap.size ≤ eb ∧ w0.heap.size ≤ pb ∧ w0.heap.size ≤ stb ∧ w0.heap.size ≤ gb ∧ w0.heap.size ≤ sb ∧ w0.heap.size ≤ db
section
variable {w0 W W' : World} {b g h gr n lb eb pb stb gb sb db E1 E2 E1' E2' : Nat} {pin1 pin2 pin1' pin2' : List Nat} {G1 G2 G1' G2' : List (List Th)} {hs dhs shs hs' dhs' shs' : List Value} {ps ps' : List (Option (Nat × Es))} {rs rs' : List Rs} {sn sn' : List (List Bool)} {pd pd' : List Bool} {S : Nat → Prop}
theorem MM.bel' (m : MM w0 b g h gr n lb eb pb stb gb sb db E1 pin1 G1 hs ps E2 pin2 rs G2 dhs shs sn pd W) (hb : Below W.heap.size W W') : MM w0 b g h gr n lb eb pb stb gb sb db E1 pin1 G1 hs ps E2 pin2 rs G2 dhs shs sn pd W' :=
  ⟨m.el.bel' hb, m.sl.bel hb, m.re.bel hb, m.sv.bel hb, m.bd.bel hb, m.dn, m.lo⟩
theorem MM.drew (m : MM w0 b g h gr n lb eb pb stb gb sb db E1 pin1 G1 hs ps E2 pin2 rs G2 dhs shs sn pd W) : MM w0 b g h gr n lb eb pb stb gb sb db E1 pin1 G1 hs ps E2 pin2 rs G2 dhs shs sn pd W.drew := m.bel' (Below.refl _ _).drew
theorem MM.dbS (m : MM w0 b g h gr n lb eb pb stb gb sb db E1 pin1 G1 hs ps E2 pin2 rs G2 dhs shs sn pd W) : ¬ GvS sb shs db := fun h => by
  rcases h with h | ⟨v, hv, h⟩
  · exact m.sv.blk.ne_ m.bd (by decide) h.symm
  · exact m.dn v hv h
/-- the package's turn -/
theorem MM.pk (m : MM w0 b g h gr n lb eb pb stb gb sb db E1 pin1 G1 hs ps E2 pin2 rs G2 dhs shs sn pd W) (el : EL w0 b g h gr n (cellsL E1' pin1') hs' G1' W') (sl : SL W' w0.heap.size lb ps') (up : Upd S W W') (hS : ∀ x, S x → ∃ t cs, Blk W x t cs ∧ pkT t = true) :
    MM w0 b g h gr n lb eb pb stb gb sb db E1' pin1' G1' hs' ps' E2 pin2 rs G2 dhs shs sn pd W' :=
  ⟨el, sl, m.re.other up (fun x hx => by obtain ⟨t, cs, hb, ht⟩ := hS x hx; exact ⟨t, cs, hb, ne_of ht (by decide), ne_of ht (by decide), ne_of ht (by decide), ne_of ht (by decide), ne_of ht (by decide)⟩),
    m.sv.other up (fun x hx => by obtain ⟨t, cs, hb, ht⟩ := hS x hx; exact ⟨t, cs, hb, ne_of ht (by decide), ne_of ht (by decide)⟩),
    m.bd.upd up (fun hx => by obtain ⟨t, cs, hb, ht⟩ := hS _ hx; exact hb.ne_ m.bd (ne_of ht (by decide)) rfl), m.dn, m.lo⟩
/-- the document's -/
theorem MM.dc (m : MM w0 b g h gr n lb eb pb stb gb sb db E1 pin1 G1 hs ps E2 pin2 rs G2 dhs shs sn pd W) (re : RE w0.heap.size eb pb stb gb n E2' pin2' rs' dhs' G2' W') (up : Upd S W W') (hS : ∀ x, S x → w0.heap.size ≤ x ∧ ∃ t cs, Blk W x t cs ∧ dcT t = true) :
    MM w0 b g h gr n lb eb pb stb gb sb db E1 pin1 G1 hs ps E2' pin2' rs' G2' dhs' shs sn pd W' :=
  ⟨m.el.other up (fun x hx => by obtain ⟨h1, t, cs, hb, ht⟩ := hS x hx; exact ⟨h1, t, cs, hb, pk_other ht⟩), m.sl.other up (fun x hx => by obtain ⟨h1, t, cs, hb, ht⟩ := hS x hx; exact ⟨t, cs, hb, ne_of ht (by decide), ne_of ht (by decide)⟩), re,
    m.sv.other up (fun x hx => by obtain ⟨_, t, cs, hb, ht⟩ := hS x hx; exact ⟨t, cs, hb, ne_of ht (by decide), ne_of ht (by decide)⟩),
    m.bd.upd up (fun hx => by obtain ⟨_, t, cs, hb, ht⟩ := hS _ hx; exact hb.ne_ m.bd (ne_of ht (by decide)) rfl), m.dn, m.lo⟩
/-- the law's rows -/
theorem MM.lw (m : MM w0 b g h gr n lb eb pb stb gb sb db E1 pin1 G1 hs ps E2 pin2 rs G2 dhs shs sn pd W) (sv : GvT bcs 1 4 48 W' w0.heap.size sb shs' sn') (hdb : Blk W' db 4 (pd'.map Value.bool).toArray) (dn : ∀ v ∈ shs', v.ownBlock ≠ some db) (up : Upd S W W') (hS : ∀ x, S x → w0.heap.size ≤ x ∧ ∃ t cs, Blk W x t cs ∧ lwT t = true) :
    MM w0 b g h gr n lb eb pb stb gb sb db E1 pin1 G1 hs ps E2 pin2 rs G2 dhs shs' sn' pd' W' :=
  ⟨m.el.other up (fun x hx => by obtain ⟨h1, t, cs, hb, ht⟩ := hS x hx; exact ⟨h1, t, cs, hb, lw_other ht⟩), m.sl.other up (fun x hx => by obtain ⟨h1, t, cs, hb, ht⟩ := hS x hx; exact ⟨t, cs, hb, ne_of ht (by decide), ne_of ht (by decide)⟩),
    m.re.other up (fun x hx => by obtain ⟨_, t, cs, hb, ht⟩ := hS x hx; exact ⟨t, cs, hb, ne_of ht (by decide), ne_of ht (by decide), ne_of ht (by decide), ne_of ht (by decide), ne_of ht (by decide)⟩), sv, hdb, dn, m.lo⟩
theorem MM.slot (m : MM w0 b g h gr n lb eb pb stb gb sb db E1 pin1 G1 hs ps E2 pin2 rs G2 dhs shs sn pd W) (sl : SL W' w0.heap.size lb ps') (up : Upd (fun x => x = lb) W W') : MM w0 b g h gr n lb eb pb stb gb sb db E1 pin1 G1 hs ps' E2 pin2 rs G2 dhs shs sn pd W' :=
  m.pk (m.el.slot m.sl m.lo.1 up) sl up (fun x hx => by subst hx; exact ⟨_, _, m.sl.blk, by decide⟩)
theorem MM.step (m : MM w0 b g h gr n lb eb pb stb gb sb db E1 pin1 G1 hs ps E2 pin2 rs G2 dhs shs sn pd W) {k sb' : Nat} {s s' : Es} (hk : ps[k]? = some (some (sb', s))) (es : ES W b g h gr n sb' s' (cellsL E1' pin1') W') : MM w0 b g h gr n lb eb pb stb gb sb db E1' pin1' G1 hs (ps.set k (some (sb', s'))) E2 pin2 rs G2 dhs shs sn pd W' := by
  obtain ⟨st, hsb⟩ := m.sl.st k sb' s hk
  exact m.pk (m.el.step st hsb es) (m.sl.does hk m.el.eg.ep es) es.upd (fun x hx => by
    rcases hx with rfl | rfl
    · exact ⟨_, _, m.el.eg.ep.cel.row, by decide⟩
    · exact ⟨_, _, st, by decide⟩)
theorem MM.gvp (m : MM w0 b g h gr n lb eb pb stb gb sb db E1 pin1 G1 hs ps E2 pin2 rs G2 dhs shs sn pd W) {x : Nat} (hx : GvS gr hs x) : ∃ t cs, Blk W x t cs ∧ pkT t = true := by
  obtain ⟨t, cs, hb, ht⟩ := m.el.eg.gv.ty hx
  rcases ht with rfl | rfl
  · exact ⟨_, cs, hb, by decide⟩
  · exact ⟨_, cs, hb, by decide⟩
theorem MM.gave (m : MM w0 b g h gr n lb eb pb stb gb sb db E1 pin1 G1 hs ps E2 pin2 rs G2 dhs shs sn pd W) (eg : EG w0.heap.size b g h gr n (cellsL E1 pin1) hs' G1' W') (up : Upd (GvS gr hs) W W') : MM w0 b g h gr n lb eb pb stb gb sb db E1 pin1 G1' hs' ps E2 pin2 rs G2 dhs shs sn pd W' :=
  m.pk (m.el.gave eg up) (m.sl.other up (fun x hx => by
    obtain ⟨t, cs, hb, ht⟩ := m.el.eg.gv.ty hx
    rcases ht with rfl | rfl
    · exact ⟨_, cs, hb, by decide, by decide⟩
    · exact ⟨_, cs, hb, by decide, by decide⟩)) up (fun x hx => m.gvp hx)
theorem MM.unpin (m : MM w0 b g h gr n lb eb pb stb gb sb db E1 pin1 G1 hs ps E2 pin2 rs G2 dhs shs sn pd W) {k : Nat} (hk : k < pin1.length) (ep : EpAt W' b g h gr n (celSet (cellsL E1 pin1) (1 + (k : Int)) 0)) (up : Upd (fun y => y = h) W W') : MM w0 b g h gr n lb eb pb stb gb sb db E1 (pin1.set k 0) G1 hs ps E2 pin2 rs G2 dhs shs sn pd W' := by
  have he : celSet (cellsL E1 pin1) (1 + (k : Int)) 0 = cellsL E1 (pin1.set k 0) := cells_setP hk 0
  rw [he] at ep
  exact m.pk (m.el.unpin ep up) (m.sl.other up (fun x hx => by subst hx; exact ⟨_, _, m.el.eg.ep.cel.row, by decide, by decide⟩)) up (fun x hx => by subst hx; exact ⟨_, _, m.el.eg.ep.cel.row, by decide⟩)
theorem MM.reS (m : MM w0 b g h gr n lb eb pb stb gb sb db E1 pin1 G1 hs ps E2 pin2 rs G2 dhs shs sn pd W) {x : Nat} (hx : ReS eb pb stb x) : w0.heap.size ≤ x ∧ ∃ t cs, Blk W x t cs ∧ dcT t = true := by
  obtain ⟨h1, h2, h3, h4, h5, h6, h7⟩ := m.lo
  rcases hx with rfl | rfl | rfl
  · exact ⟨h2, _, _, m.re.obj, by decide⟩
  · exact ⟨h3, _, _, m.re.pins, by decide⟩
  · exact ⟨h4, _, _, m.re.sts, by decide⟩
theorem MM.rdo (m : MM w0 b g h gr n lb eb pb stb gb sb db E1 pin1 G1 hs ps E2 pin2 rs G2 dhs shs sn pd W) (re : RE w0.heap.size eb pb stb gb n E2' pin2' rs' dhs G2 W') (up : Upd (ReS eb pb stb) W W') : MM w0 b g h gr n lb eb pb stb gb sb db E1 pin1 G1 hs ps E2' pin2' rs' G2 dhs shs sn pd W' := m.dc re up (fun x hx => m.reS hx)
theorem MM.rgave (m : MM w0 b g h gr n lb eb pb stb gb sb db E1 pin1 G1 hs ps E2 pin2 rs G2 dhs shs sn pd W) (re : RE w0.heap.size eb pb stb gb n E2 pin2 rs dhs' G2' W') (up : Upd (GvS gb dhs) W W') : MM w0 b g h gr n lb eb pb stb gb sb db E1 pin1 G1 hs ps E2 pin2 rs G2' dhs' shs sn pd W' :=
  m.dc re up (fun x hx => ⟨m.re.gv.lt m.lo.2.2.2.2.1 hx, by
    obtain ⟨t, cs, hb, ht⟩ := m.re.gv.ty hx
    rcases ht with rfl | rfl
    · exact ⟨_, cs, hb, by decide⟩
    · exact ⟨_, cs, hb, by decide⟩⟩)
theorem MM.svS (m : MM w0 b g h gr n lb eb pb stb gb sb db E1 pin1 G1 hs ps E2 pin2 rs G2 dhs shs sn pd W) {x : Nat} (hx : GvS sb shs x) : w0.heap.size ≤ x ∧ ∃ t cs, Blk W x t cs ∧ lwT t = true :=
  ⟨m.sv.lt m.lo.2.2.2.2.2.1 hx, by
    obtain ⟨t, cs, hb, ht⟩ := m.sv.ty hx
    rcases ht with rfl | rfl
    · exact ⟨_, cs, hb, by decide⟩
    · exact ⟨_, cs, hb, by decide⟩⟩
theorem MM.clr (m : MM w0 b g h gr n lb eb pb stb gb sb db E1 pin1 G1 hs ps E2 pin2 rs G2 dhs shs sn pd W) {k : Nat} (sv : GvT bcs 1 4 48 W' w0.heap.size sb shs (clr k sn)) (up : Upd (GvS sb shs) W W') : MM w0 b g h gr n lb eb pb stb gb sb db E1 pin1 G1 hs ps E2 pin2 rs G2 dhs shs (Go.Proofs.Ytfcldnojmmhekaa.clr k sn) pd W' :=
  m.lw sv (m.bd.upd up m.dbS) m.dn up (fun x hx => m.svS hx)
/-- who is pinned, stored -/
theorem MM.setpd (m : MM w0 b g h gr n lb eb pb stb gb sb db E1 pin1 G1 hs ps E2 pin2 rs G2 dhs shs sn pd W) (k : Nat) (v : Bool) : MM w0 b g h gr n lb eb pb stb gb sb db E1 pin1 G1 hs ps E2 pin2 rs G2 dhs shs sn (pd.set k v) (W.setCell ⟨db, k, none⟩ (.bool v)) := by
  have up := Upd.one W db k (.bool v)
  refine m.lw (m.sv.upd up (fun x hx => by subst hx; exact m.dbS)) ?_ m.dn up (fun x hx => by subst hx; exact ⟨m.lo.2.2.2.2.2.2, _, _, m.bd, by decide⟩)
  have := m.bd.set_ k (.bool v)
  rw [List.map_set]; simpa using this
theorem MM.pdc (m : MM w0 b g h gr n lb eb pb stb gb sb db E1 pin1 G1 hs ps E2 pin2 rs G2 dhs shs sn pd W) {k : Nat} {v : Bool} (hv : pd[k]? = some v) : W.cell? ⟨db, k, none⟩ = some (.bool v) := by
  rw [m.bd.cell]; simp [hv]
/-- a row of truths in its place -/
theorem MM.putsn (m : MM w0 b g h gr n lb eb pb stb gb sb db E1 pin1 G1 hs ps E2 pin2 rs G2 dhs shs sn pd W) {i : Nat} {v v' : Value} {r : List Bool} (hv : shs[i]? = some v) (hb : Below W.heap.size W W') (ho : OwnT bcs 1 4 W' w0.heap.size v' r) (hnew : ∀ x, v'.ownBlock = some x → W.heap.size ≤ x) :
    MM w0 b g h gr n lb eb pb stb gb sb db E1 pin1 G1 hs ps E2 pin2 rs G2 dhs (shs.set i v') (sn.set i r) pd (W'.setCell ⟨sb, i, none⟩ v') := by
  have m2 := m.bel' hb
  obtain ⟨gv, up⟩ := m.sv.put (by decide) hv (m.sv.blk.bel hb) (Upd.of_below hb _) ho (.inr hnew)
  have u1 := Upd.one W' sb i v'
  refine m2.lw gv (m2.bd.upd u1 (m2.bd.ne_ m2.sv.blk (by decide))) (fun u hu => ?_) u1 (fun x hx => by subst hx; exact ⟨m.lo.2.2.2.2.2.1, _, _, m2.sv.blk, by decide⟩)
  rcases List.mem_or_eq_of_mem_set hu with h1 | h1
  · exact m.dn u h1
  · subst h1
    intro e
    have := hnew _ e
    have := m.bd.lt
    omega
end
/-- what holds beside the memory -/
structure PP (n E i : Nat) (pin : List Nat) (ps : List (Option (Nat × Es))) (rs : List Rs) (pd : List Bool) (sn : List (List Bool)) (G : List (List Th)) : Prop where
  tv : TV n E pin (ps.map (Option.map Prod.snd)) pd
  tg : TG E i pin pd sn G
  rr : ∀ (j : Nat) x s, ps[j]? = some (some (x, s)) → rs[j]? = some ⟨true, s.adv, s.pos, s.seen⟩
  sl : sn.length = 200
  sr : ∀ r ∈ sn, r = [] ∨ r.length = n
  gl : ∀ (k : Nat) l, G[k]? = some l → l.length ≤ i
  lr : rs.length = n
  eE : E ≤ i
section
variable {n E i : Nat} {pin : List Nat} {ps : List (Option (Nat × Es))} {rs : List Rs} {pd : List Bool} {sn : List (List Bool)} {G : List (List Th)}
theorem map_set_none (ps : List (Option (Nat × Es))) (k : Nat) (x : Option (Nat × Es)) : (ps.set k x).map (Option.map Prod.snd) = (ps.map (Option.map Prod.snd)).set k (x.map Prod.snd) := by rw [List.map_set]
theorem ps_at {k x : Nat} {s : Es} (h : ps[k]? = some (some (x, s))) : (ps.map (Option.map Prod.snd))[k]? = some (some s) := by rw [List.getElem?_map, h]; rfl
theorem ps_none {k : Nat} (h : ps[k]? = some none) : (ps.map (Option.map Prod.snd))[k]? = some none := by rw [List.getElem?_map, h]; rfl
theorem clr_len (k : Nat) (sn : List (List Bool)) : (clr k sn).length = sn.length := by simp [clr]
theorem clr_r {k : Nat} (h : ∀ r ∈ sn, r = [] ∨ r.length = n) : ∀ r ∈ clr k sn, r = [] ∨ r.length = n := fun r hr => by
  unfold clr at hr
  obtain ⟨r0, h0, rfl⟩ := List.mem_map.1 hr
  rcases h r0 h0 with h1 | h1
  · subst h1; exact .inl rfl
  · exact .inr (by rw [List.length_set]; exact h1)
theorem PP.new (n : Nat) : PP n 0 0 (List.replicate n 0) (List.replicate n none) (List.replicate n ⟨false, false, 0, 0⟩) (List.replicate n false) (List.replicate 200 []) (List.replicate n []) := by
  refine ⟨?_, TG.new n, fun j x s h => ?_, List.length_replicate, fun r hr => .inl (List.mem_replicate.1 hr).2, fun k l h => ?_, List.length_replicate, Nat.le_refl _⟩
  · rw [List.map_replicate]; exact TV.new n
  · have := (List.mem_replicate.1 (List.mem_of_getElem? h)).2; cases this
  · have := (List.mem_replicate.1 (List.mem_of_getElem? h)).2; subst this; simp
theorem PP.next (p : PP n E i pin ps rs pd sn G) : PP n E (i + 1) pin ps rs pd sn G := ⟨p.tv, p.tg.next, p.rr, p.sl, p.sr, fun k l h => by have := p.gl k l h; omega, p.lr, by have := p.eE; omega⟩
theorem rr_set (rr : ∀ (j : Nat) x s, ps[j]? = some (some (x, s)) → rs[j]? = some ⟨true, s.adv, s.pos, s.seen⟩) {k : Nat} (hk : k < rs.length) {y : Option (Nat × Es)} {r : Rs} (hy : ∀ x s, y = some (x, s) → r = ⟨true, s.adv, s.pos, s.seen⟩) : ∀ (j : Nat) x s, (ps.set k y)[j]? = some (some (x, s)) → (rs.set k r)[j]? = some ⟨true, s.adv, s.pos, s.seen⟩ := fun j x s h => by
  rcases get_set h with ⟨rfl, e⟩ | ⟨hj, e⟩
  · rw [List.getElem?_set_self hk, hy x s e.symm]
  · rw [List.getElem?_set_ne (Ne.symm hj)]; exact rr j x s e
theorem PP.begP (p : PP n E i pin ps rs pd sn G) {k : Nat} (hk : k < n) (x : Nat) : PP n E i pin (ps.set k (some (x, ⟨(k : Int), false, 0, 0, false, false⟩))) (rs.set k ⟨true, false, 0, 0⟩) (pd.set k false) (clr k sn) G :=
  ⟨by rw [map_set_none]; exact p.tv.begP k, p.tg.begP k, rr_set p.rr (by rw [p.lr]; exact hk) (fun x s e => by cases e; rfl), by rw [clr_len]; exact p.sl, clr_r p.sr, p.gl, by rw [List.length_set]; exact p.lr, p.eE⟩
theorem PP.begA (p : PP n E i pin ps rs pd sn G) {k : Nat} (hk : k < n) (x : Nat) : PP n E i pin (ps.set k (some (x, ⟨0, true, 0, 0, false, false⟩))) (rs.set k ⟨true, true, 0, 0⟩) pd sn G :=
  ⟨by rw [map_set_none]; exact p.tv.adv k, p.tg, rr_set p.rr (by rw [p.lr]; exact hk) (fun x s e => by cases e; rfl), p.sl, p.sr, p.gl, by rw [List.length_set]; exact p.lr, p.eE⟩
theorem PP.unpin (p : PP n E i pin ps rs pd sn G) {k : Nat} (hk : ps[k]? = some none) : PP n E i (pin.set k 0) ps rs (pd.set k false) (clr k sn) G :=
  ⟨p.tv.unpin k (ps_none hk), p.tg.unpin k, p.rr, by rw [clr_len]; exact p.sl, clr_r p.sr, p.gl, p.lr, p.eE⟩
theorem PP.take (p : PP n E i pin ps rs pd sn G) {k : Nat} {l : List Th} (hl : G[k]? = some l) : PP n E i pin ps rs pd sn (G.set k (leaves (E : Int) l)) :=
  ⟨p.tv, p.tg.take k l hl, p.rr, p.sl, p.sr, fun a l1 h => by
    rcases get_set h with ⟨_, e⟩ | ⟨_, e⟩
    · subst e; exact Nat.le_trans (leaves_len _ _) (p.gl k l hl)
    · exact p.gl a l1 e, p.lr, p.eE⟩
theorem PP.wipe (p : PP n E i pin ps rs pd sn G) (a : Nat) : PP n E i pin ps rs pd (sn.set a []) G :=
  ⟨p.tv, p.tg.weak (fun c r h => by
    rcases get_set h with ⟨_, e⟩ | ⟨_, e⟩
    · exact .inl e
    · exact .inr e), p.rr, by rw [List.length_set]; exact p.sl, fun r hr => by
    rcases List.mem_or_eq_of_mem_set hr with h | h
    · exact p.sr r h
    · exact .inl h, p.gl, p.lr, p.eE⟩
theorem PP.give (p : PP n E i pin ps rs pd sn G) {k : Nat} {l : List Th} (hl : G[k]? = some l) : PP n E (i + 1) pin ps rs pd (sn.set (i + 1) pd) (G.set k (l ++ [⟨((i + 1 : Nat) : Int), (E : Int)⟩])) :=
  ⟨p.tv, p.tg.give p.tv k l hl, p.rr, by rw [List.length_set]; exact p.sl, fun r hr => by
    rcases List.mem_or_eq_of_mem_set hr with h | h
    · exact p.sr r h
    · exact .inr (by rw [h]; exact p.tv.lb), fun a l1 h => by
    rcases get_set h with ⟨_, e⟩ | ⟨_, e⟩
    · subst e; have := p.gl k l hl; simp; omega
    · have := p.gl a l1 e; omega, p.lr, by have := p.eE; omega⟩
theorem PP.go (p : PP n E i pin ps rs pd sn G) {k x : Nat} {s s' : Es} {E' : Nat} {pin' : List Nat} {isp : Bool} {r' : Rs} (hk : ps[k]? = some (some (x, s))) (bo : Both n E k i pin (ps.map (Option.map Prod.snd)) pd s s' E' pin' isp r') (hd : s'.done = false) :
    PP n E' (i + 1) pin' (ps.set k (some (x, s'))) (rs.set k r') pd sn G := by
  obtain ⟨_, hr, tv⟩ := bo.go hd
  have hkn : k < n := by have := p.tv.ls; rw [List.length_map] at this; rw [← this]; exact (List.getElem?_eq_some_iff.1 hk).1
  exact ⟨by rw [map_set_none]; exact tv, (bo.tg sn G p.tg).next, rr_set p.rr (by rw [p.lr]; exact hkn) (fun x s e => by cases e; exact hr), p.sl, p.sr, fun k l h => by have := p.gl k l h; omega, by rw [List.length_set]; exact p.lr, by have := p.eE; have := bo.le; omega⟩
theorem PP.fin (p : PP n E i pin ps rs pd sn G) {k x : Nat} {s s' : Es} {E' : Nat} {pin' : List Nat} {isp : Bool} {r' : Rs} (hk : ps[k]? = some (some (x, s))) (bo : Both n E k i pin (ps.map (Option.map Prod.snd)) pd s s' E' pin' isp r') (hd : s'.done = true) {o : Bool} (ho : pd[k]? = some o) :
    PP n E' (i + 1) pin' (ps.set k none) (rs.set k r') (pd.set k (o || isp)) sn G := by
  have tv := bo.fin hd
  have hkn : k < n := by have := p.tv.ls; rw [List.length_map] at this; rw [← this]; exact (List.getElem?_eq_some_iff.1 hk).1
  have hpd : pd.set k (o || isp) = if isp then pd.set k true else pd := by
    cases isp with
    | true => simp
    | false =>
      simp only [Bool.or_false, Bool.false_eq_true, if_false]
      obtain ⟨hl, he⟩ := List.getElem?_eq_some_iff.1 ho
      rw [← he]; exact List.set_getElem_self hl
  rw [hpd]
  refine ⟨by rw [map_set_none]; exact tv, ?_, rr_set p.rr (by rw [p.lr]; exact hkn) (fun x s e => by cases e), p.sl, p.sr, fun k l h => by have := p.gl k l h; omega, by rw [List.length_set]; exact p.lr, by have := p.eE; have := bo.le; omega⟩
  have tg := (bo.tg sn G p.tg).next
  cases isp with
  | true => simp only [if_true]; exact tg.done k
  | false => simp only [Bool.false_eq_true, if_false]; exact tg
end
/-- a frame of so many slots, by a function -/
def frm (v : Nat → Value) : List Value := (List.range 372).map v
set_option maxRecDepth 100000 in
theorem frm_lit (v : Nat → Value) : frm v = v 0 :: v 1 :: v 2 :: v 3 :: v 4 :: v 5 :: v 6 :: v 7 :: v 8 :: v 9 :: v 10 :: v 11 :: v 12 :: v 13 :: v 14 :: v 15 :: v 16 :: v 17 :: v 18 :: v 19 :: v 20 :: v 21 :: v 22 :: v 23 :: v 24 :: v 25 :: v 26 :: v 27 :: v 28 :: v 29 :: v 30 :: v 31 :: v 32 :: v 33 :: v 34 :: v 35 :: v 36 :: v 37 :: v 38 :: v 39 :: v 40 :: v 41 :: v 42 :: v 43 :: v 44 :: v 45 :: v 46 :: v 47 :: v 48 :: v 49 :: v 50 :: v 51 :: v 52 :: v 53 :: v 54 :: v 55 :: v 56 :: v 57 :: v 58 :: v 59 :: v 60 :: v 61 :: v 62 :: v 63 :: v 64 :: v 65 :: v 66 :: v 67 :: v 68 :: v 69 :: v 70 :: v 71 :: v 72 :: v 73 :: v 74 :: v 75 :: v 76 :: v 77 :: v 78 :: v 79 :: v 80 :: v 81 :: v 82 :: v 83 :: v 84 :: v 85 :: v 86 :: v 87 :: v 88 :: v 89 :: v 90 :: v 91 :: v 92 :: v 93 :: v 94 :: v 95 :: v 96 :: v 97 :: v 98 :: v 99 :: v 100 :: v 101 :: v 102 :: v 103 :: v 104 :: v 105 :: v 106 :: v 107 :: v 108 :: v 109 :: v 110 :: v 111 :: v 112 :: v 113 :: v 114 :: v 115 :: v 116 :: v 117 :: v 118 :: v 119 :: v 120 :: v 121 :: v 122 :: v 123 :: v 124 :: v 125 :: v 126 :: v 127 :: v 128 :: v 129 :: v 130 :: v 131 :: v 132 :: v 133 :: v 134 :: v 135 :: v 136 :: v 137 :: v 138 :: v 139 :: v 140 :: v 141 :: v 142 :: v 143 :: v 144 :: v 145 :: v 146 :: v 147 :: v 148 :: v 149 :: v 150 :: v 151 :: v 152 :: v 153 :: v 154 :: v 155 :: v 156 :: v 157 :: v 158 :: v 159 :: v 160 :: v 161 :: v 162 :: v 163 :: v 164 :: v 165 :: v 166 :: v 167 :: v 168 :: v 169 :: v 170 :: v 171 :: v 172 :: v 173 :: v 174 :: v 175 :: v 176 :: v 177 :: v 178 :: v 179 :: v 180 :: v 181 :: v 182 :: v 183 :: v 184 :: v 185 :: v 186 :: v 187 :: v 188 :: v 189 :: v 190 :: v 191 :: v 192 :: v 193 :: v 194 :: v 195 :: v 196 :: v 197 :: v 198 :: v 199 :: v 200 :: v 201 :: v 202 :: v 203 :: v 204 :: v 205 :: v 206 :: v 207 :: v 208 :: v 209 :: v 210 :: v 211 :: v 212 :: v 213 :: v 214 :: v 215 :: v 216 :: v 217 :: v 218 :: v 219 :: v 220 :: v 221 :: v 222 :: v 223 :: v 224 :: v 225 :: v 226 :: v 227 :: v 228 :: v 229 :: v 230 :: v 231 :: v 232 :: v 233 :: v 234 :: v 235 :: v 236 :: v 237 :: v 238 :: v 239 :: v 240 :: v 241 :: v 242 :: v 243 :: v 244 :: v 245 :: v 246 :: v 247 :: v 248 :: v 249 :: v 250 :: v 251 :: v 252 :: v 253 :: v 254 :: v 255 :: v 256 :: v 257 :: v 258 :: v 259 :: v 260 :: v 261 :: v 262 :: v 263 :: v 264 :: v 265 :: v 266 :: v 267 :: v 268 :: v 269 :: v 270 :: v 271 :: v 272 :: v 273 :: v 274 :: v 275 :: v 276 :: v 277 :: v 278 :: v 279 :: v 280 :: v 281 :: v 282 :: v 283 :: v 284 :: v 285 :: v 286 :: v 287 :: v 288 :: v 289 :: v 290 :: v 291 :: v 292 :: v 293 :: v 294 :: v 295 :: v 296 :: v 297 :: v 298 :: v 299 :: v 300 :: v 301 :: v 302 :: v 303 :: v 304 :: v 305 :: v 306 :: v 307 :: v 308 :: v 309 :: v 310 :: v 311 :: v 312 :: v 313 :: v 314 :: v 315 :: v 316 :: v 317 :: v 318 :: v 319 :: v 320 :: v 321 :: v 322 :: v 323 :: v 324 :: v 325 :: v 326 :: v 327 :: v 328 :: v 329 :: v 330 :: v 331 :: v 332 :: v 333 :: v 334 :: v 335 :: v 336 :: v 337 :: v 338 :: v 339 :: v 340 :: v 341 :: v 342 :: v 343 :: v 344 :: v 345 :: v 346 :: v 347 :: v 348 :: v 349 :: v 350 :: v 351 :: v 352 :: v 353 :: v 354 :: v 355 :: v 356 :: v 357 :: v 358 :: v 359 :: v 360 :: v 361 :: v 362 :: v 363 :: v 364 :: v 365 :: v 366 :: v 367 :: v 368 :: v 369 :: v 370 :: v 371 :: [] := by kernel_rfl
theorem frm_self {l : List Value} (h : l.length = 372) : l = frm (fun i => l.getD i undef) := by
  apply List.ext_getElem
  · simp [frm, h]
  · intro i h1 h2
    simp [frm, List.getD_eq_getElem?_getD, List.getElem?_eq_getElem h1]
theorem frm_meet {l : List Value} {d : List Deferred} {R : (Nat → Value) → Prop} (h : l.length = 372) (hR : R (fun i => l.getD i undef)) : ∃ v, (⟨l.toArray, d⟩ : Act) = ⟨(frm v).toArray, d⟩ ∧ R v := ⟨_, by rw [← frm_self h], hR⟩
/-- what the frame keeps all along -/
structure Com (n : Nat) (A : Option Addr) (m cap b eb lb sb db i : Nat) (v : Nat → Value) : Prop where
  v1 : v 1 = .slice A m cap
  v7 : v 7 = .int .i64 n
  v8 : v 8 = .pointer (some ⟨b, 0, none⟩)
  v9 : v 9 = .int .i64 0
  v10 : v 10 = .pointer (some ⟨eb, 0, none⟩)
  v11 : v 11 = .slice (some ⟨lb, 0, none⟩) n n
  v12 : v 12 = .slice (some ⟨sb, 0, none⟩) (200 : Nat) (200 : Nat)
  v13 : v 13 = .slice (some ⟨db, 0, none⟩) n n
  v14 : v 14 = .int .i64 i
end Go.Proofs.Ytfcldnojmmhekaa
