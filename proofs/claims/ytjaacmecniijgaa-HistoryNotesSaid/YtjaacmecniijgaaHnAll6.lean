import Derived.Test.YtjaacmecniijgaaHnAll5
import Derived.Test.YtjaacmecniijgaaSpreadF
import Derived.Deep.MidRow
namespace Go.Proofs.Ytjaacmecniijgaa
set_option linter.unusedVariables false
set_option linter.unusedSimpArgs false
open Go.RowKit
/- What stands beside the history and the document's rows: HistoryNotes. -/
/-- alike but for the frames -/
def Al (x y : En) : Prop := ∃ s t : Sl, y = { x with f := s, g := t }
theorem Al.ahead {x y x' y' : En} (h : Al x x') (h' : Al y y') : aheadB x' y' = aheadB x y := by
  obtain ⟨s, t, rfl⟩ := h; obtain ⟨s', t', rfl⟩ := h'; rfl
/-- rows that are alike -/
def AlL (l l' : List En) (k : Nat) : Prop := l'.length = k ∧ ∀ j x, j < k → l[j]? = some x → ∃ y, l'[j]? = some y ∧ Al x y
theorem AlL.add {l l' : List En} {k : Nat} (h : AlL l l' k) {x y : En} (hx : l[k]? = some x) (hy : Al x y) : AlL l (l' ++ [y]) (k + 1) := by
  refine ⟨by rw [List.length_append, h.1]; rfl, fun j z hj hz => ?_⟩
  rcases Nat.lt_or_ge j k with hlt | hge
  · obtain ⟨u, h1, h2⟩ := h.2 j z hlt hz
    exact ⟨u, by rw [List.getElem?_append_left (by rw [h.1]; exact hlt)]; exact h1, h2⟩
  · obtain rfl : j = k := by omega
    rw [hx] at hz
    injection hz with hz
    subst hz
    exact ⟨y, by rw [List.getElem?_append_right (by rw [h.1]; omega), h.1]; simp, hy⟩
theorem AlL.map {l l' : List En} (h : AlL l l' l.length) : List.map (fun x : En => (x.b, x.e, x.ends)) l' = List.map (fun x : En => (x.b, x.e, x.ends)) l := by
  apply List.ext_getElem?
  intro j
  rw [List.getElem?_map, List.getElem?_map]
  rcases Nat.lt_or_ge j l.length with hlt | hge
  · obtain ⟨y, h1, s, t, rfl⟩ := h.2 j _ hlt (List.getElem?_eq_getElem hlt)
    rw [h1, List.getElem?_eq_getElem hlt]; rfl
  · rw [List.getElem?_eq_none (by rw [h.1]; exact hge), List.getElem?_eq_none hge]
def badT (x : Int × Int × Bool) : Bool := decide (x.1 < 1) || (decide (x.2.1 ≤ x.1) && !((x.2.1 == -1) && !x.2.2))
def onT (x : Int × Int × Bool) (a : Int) : Bool := decide (x.1 ≤ a) && ((x.2.1 == -1) || decide (a < x.2.1))
theorem rightB_map (l : List En) : rightB l = (List.map (fun x : En => (x.b, x.e, x.ends)) l).all fun x => !badT x := by
  unfold rightB
  rw [List.all_map]; rfl
theorem cntL_map (l : List En) (a : Int) : cntL l a = ((List.map (fun x : En => (x.b, x.e, x.ends)) l).filter fun x => onT x a).length := by
  unfold cntL
  rw [List.filter_map, List.length_map]; rfl
theorem widthL_map (l : List En) : widthL l = if (List.map (fun x : En => (x.b, x.e, x.ends)) l).all (fun x => !badT x) then (List.map (fun x : En => (x.b, x.e, x.ends)) l).foldl (fun m x => max m ((List.map (fun x : En => (x.b, x.e, x.ends)) l).filter fun y => onT y x.1).length) 0 else 0 := by
  unfold widthL widL
  rw [← rightB_map, List.take_length, List.foldl_map]
  simp only [cntL_map]
theorem AlL.right {l l' : List En} (h : AlL l l' l.length) : rightB l' = rightB l := by rw [rightB_map, rightB_map, h.map]
theorem AlL.width {l l' : List En} (h : AlL l l' l.length) : widthL l' = widthL l := by rw [widthL_map, widthL_map, h.map]

/-- an act -/
structure Ha where
  what : Int
  i : Int
  out : Bool
  wt : Int
  wo : Int
  po : Int
  f : Int
  s : Sl
  be : Int
  by_ : Int
  ti : Int
  er : Int
  pt : Int
def Ha.cs (x : Ha) : List Value := [.int .i64 x.what, .int .i64 x.i, .bool x.out, .int .i64 x.wt, .int .i64 x.wo, .int .i64 x.po, .int .i64 x.f, .slice x.s.A x.s.n x.s.c, .int .i64 x.be, .int .u8 x.by_, .int .i64 x.ti, .int .i64 x.er, .int .i64 x.pt]
def HaRd (w : World) (A : Option Addr) (n : Nat) : Prop :=
  0 < n → ∃ b o, A = some ⟨b, o, none⟩ ∧ b < w.heap.size ∧ ∀ i, i < n → ∃ x : Ha, (0 ≤ x.by_ ∧ x.by_ ≤ 255) ∧ (∃ l, SlR w x.s l) ∧ ∀ j v, x.cs[j]? = some v → w.cell? ⟨b, o + i * 13 + j, none⟩ = some v
/-- a slice that isn't in a block -/
def Nb (s : Sl) (fb : Nat) : Prop := (Value.slice s.A s.n s.c).ownBlock ≠ some fb
/-- an entry and the document's -/
def EtM (W : World) (base : Nat) (x y : En) : Prop := ∃ F G, F.length ≤ 60000 ∧ G.length ≤ 60000 ∧ y = { x with f := y.f, g := y.g } ∧ SlO W base x.f F ∧ SlO W base y.f F ∧ SlO W base x.g G ∧ SlO W base y.g G
section
variable {w0 W W' : World} {base gh : Nat} {now now' : Int} {hv dv hv' dv' : Value} {L1 D1 L D L1' D1' : List En} {x y : En}
theorem EtM.keep (h : EtM W base x y) (hk : ∀ s L, SlO W base s L → SlO W' base s L) : EtM W' base x y := by
  obtain ⟨F, G, h1, h2, h3, h4, h5, h6, h7⟩ := h
  exact ⟨F, G, h1, h2, h3, hk _ _ h4, hk _ _ h5, hk _ _ h6, hk _ _ h7⟩
theorem EtM.far (h : EtM W base x y) {fb : Nat} (h1 : Nb x.f fb) (h2 : Nb x.g fb) (h3 : Nb y.f fb) (h4 : Nb y.g fb) (hu : Upd (fun k => k = fb) W W') : EtM W' base x y := by
  obtain ⟨F, G, a1, a2, a3, a4, a5, a6, a7⟩ := h
  exact ⟨F, G, a1, a2, a3, Own.upd a4 hu (fun g e e2 => h1 (by rw [e, e2])), Own.upd a5 hu (fun g e e2 => h3 (by rw [e, e2])), Own.upd a6 hu (fun g e e2 => h2 (by rw [e, e2])), Own.upd a7 hu (fun g e e2 => h4 (by rw [e, e2]))⟩
theorem Nb.old {s : Sl} {L : List Int} (h : SlO W base s L) {fb : Nat} (hf : W.heap.size ≤ fb) : Nb s fb := fun e => by have := (Own.lt h fb e).2; omega
theorem Nb.new {s : Sl} {L : List Int} {B : Nat} (h : SlO W B s L) {fb : Nat} (hf : fb < B) : Nb s fb := fun e => by have := (Own.lt h fb e).1; omega
theorem EtM.nb (h : EtM W base x y) {fb : Nat} (hf : W.heap.size ≤ fb) : Nb x.f fb ∧ Nb x.g fb ∧ Nb y.f fb ∧ Nb y.g fb := by
  obtain ⟨F, G, a1, a2, a3, a4, a5, a6, a7⟩ := h
  exact ⟨Nb.old a4 hf, Nb.old a6 hf, Nb.old a5 hf, Nb.old a7 hf⟩
theorem OwnT.notBlk {cs : En → List Value} {e t : TypeId} {v : Value} {l : List En} {c : Array Value} {g : Nat} (h : OwnT cs 11 e W base v l) (hb : Blk W g t c) (hne : e ≠ t) : v.ownBlock ≠ some g := fun e1 => by
  rcases h.row.2 with ⟨rfl, _⟩ | ⟨g', cap, cur, rfl, hg, hh, _⟩
  · simp [Value.ownBlock] at e1
  · have : g' = g := by simpa [Value.ownBlock] using e1
    subst this
    exact Blk.ne_ (cs := cur) hh hb hne rfl
theorem OwnT.blk {cs : En → List Value} {e : TypeId} {v : Value} {l : List En} {g : Nat} (h : OwnT cs 11 e W base v l) (e1 : v.ownBlock = some g) : ∃ c, Blk W g e c := by
  rcases h.row.2 with ⟨rfl, _⟩ | ⟨g', cap, cur, rfl, hg, hh, _⟩
  · simp [Value.ownBlock] at e1
  · have : g' = g := by simpa [Value.ownBlock] using e1
    subst this
    exact ⟨cur, hh⟩
/-- both rows: the history's L1, the document's D1; of L and D the frames are told -/
structure NtI (w0 W : World) (base gh : Nat) (now : Int) (hv dv : Value) (L1 D1 L D : List En) : Prop where
  his : HisM W base gh now hv L1
  doc : OwnT En.cs 11 35 W base dv D1
  al : ∀ (j : Nat) x y, L[j]? = some x → D[j]? = some y → EtM W base x y
  bel : Below base w0 W
  hgh : base ≤ gh
  hsz : base ≤ W.heap.size
theorem NtI.bel_ (h : NtI w0 W base gh now hv dv L1 D1 L D) (hb : Below W.heap.size W W') : NtI w0 W' base gh now hv dv L1 D1 L D :=
  ⟨h.his.bel hb, h.doc.below hb, fun j x y hx hy => (h.al j x y hx hy).keep (fun s l hs => SlO.bel hs hb), h.bel.trans (hb.mono h.hsz), h.hgh, by have := hb.size; have := h.hsz; omega⟩
theorem NtI.drew (h : NtI w0 W base gh now hv dv L1 D1 L D) : NtI w0 W.drew base gh now hv dv L1 D1 L D := h.bel_ (Below.refl _ _).drew
theorem NtI.alloc (h : NtI w0 W base gh now hv dv L1 D1 L D) (o : Obj) : NtI w0 (W.alloc o) base gh now hv dv L1 D1 L D := h.bel_ (bel_alloc _ _)
theorem NtI.slH (h : NtI w0 W base gh now hv dv L1 D1 L D) (hu : Upd (fun k => k = gh ∨ hv.ownBlock = some k) W W') {B : Nat} (s : Sl) (l : List Int) (hs : SlO W B s l) : SlO W' B s l :=
  Own.upd hs hu (fun g e e2 => by
    rcases e2 with e2 | e2
    · subst e2
      obtain ⟨c, hc⟩ := Own.blk_ hs e
      exact hc.ne_ h.his.obj (by decide) rfl
    · obtain ⟨c, hc⟩ := Own.blk_ hs e
      obtain ⟨c2, hc2⟩ := h.his.row.blk e2
      exact hc.ne_ hc2 (by decide) rfl)
theorem NtI.stepH (h : NtI w0 W base gh now hv dv L1 D1 L D) (hm : HisM W' base gh now' hv' L1') (hu : Upd (fun k => k = gh ∨ hv.ownBlock = some k) W W') : NtI w0 W' base gh now' hv' dv L1' D1 L D :=
  ⟨hm, h.doc.upd hu (fun g e e2 => by
    obtain ⟨c, hc⟩ := h.doc.blk e
    rcases e2 with e2 | e2
    · subst e2
      exact hc.ne_ h.his.obj (by decide) rfl
    · obtain ⟨c2, hc2⟩ := h.his.row.blk e2
      exact hc.ne_ hc2 (by decide) rfl),
   fun j x y hx hy => (h.al j x y hx hy).keep (fun s l hs => h.slH hu s l hs), up_bel h.bel h.his h.hgh h.hsz hu, h.hgh, by have := hu.size; have := h.hsz; omega⟩
theorem NtI.slD (h : NtI w0 W base gh now hv dv L1 D1 L D) (hu : Upd (fun k => dv.ownBlock = some k) W W') {B : Nat} (s : Sl) (l : List Int) (hs : SlO W B s l) : SlO W' B s l :=
  Own.upd hs hu (fun g e e2 => by
    obtain ⟨c, hc⟩ := Own.blk_ hs e
    obtain ⟨c2, hc2⟩ := h.doc.blk e2
    exact hc.ne_ hc2 (by decide) rfl)
theorem NtI.stepD (h : NtI w0 W base gh now hv dv L1 D1 L D) (hd : OwnT En.cs 11 35 W' base dv' D1') (hu : Upd (fun k => dv.ownBlock = some k) W W') : NtI w0 W' base gh now hv dv' L1 D1' L D :=
  ⟨⟨h.his.obj.upd hu (fun e => h.doc.notBlk h.his.obj (by decide) e), h.his.row.upd hu (fun g e e2 => by
      obtain ⟨c, hc⟩ := h.his.row.blk e
      exact h.doc.notBlk hc (by decide) e2)⟩, hd,
   fun j x y hx hy => (h.al j x y hx hy).keep (fun s l hs => h.slD hu s l hs), h.bel.trans (hu.below h.hsz (fun k hk e => by have := (h.doc.lt k e).1; omega)), h.hgh, by have := hu.size; have := h.hsz; omega⟩
theorem NtI.flip (h : NtI w0 W base gh now hv dv L1 D1 L D) {fb : Nat} {cs : Array Value} (hb : Blk W fb 5 cs) (hfb : base ≤ fb) (hn : ∀ (j : Nat) x y, L[j]? = some x → D[j]? = some y → Nb x.f fb ∧ Nb x.g fb ∧ Nb y.f fb ∧ Nb y.g fb) (i : Nat) (u : Value) :
    NtI w0 (W.setCell ⟨fb, i, none⟩ u) base gh now hv dv L1 D1 L D := by
  have hu := Upd.one W fb i u
  have h1 : fb ≠ gh := hb.ne_ h.his.obj (by decide)
  exact ⟨⟨h.his.obj.upd hu (fun e => h1 e.symm), h.his.row.upd hu (fun g e e2 => by subst e2; exact h.his.row.notBlk hb (by decide) e)⟩,
    h.doc.upd hu (fun g e e2 => by subst e2; exact h.doc.notBlk hb (by decide) e),
    fun j x y hx hy => by
      obtain ⟨n1, n2, n3, n4⟩ := hn j x y hx hy
      exact (h.al j x y hx hy).far n1 n2 n3 n4 hu,
    h.bel.trans (hu.below h.hsz (fun k hk e => by omega)), h.hgh, by have := hu.size; have := h.hsz; omega⟩
theorem NtI.push (h : NtI w0 W base gh now hv dv (L ++ [x]) (D ++ [y]) L D) (hl : L.length = D.length) (he : EtM W base x y) : NtI w0 W base gh now hv dv (L ++ [x]) (D ++ [y]) (L ++ [x]) (D ++ [y]) :=
  ⟨h.his, h.doc, fun j a b ha hb => by
    rcases Nat.lt_or_ge j L.length with hlt | hge
    · rw [List.getElem?_append_left hlt] at ha
      rw [List.getElem?_append_left (by omega)] at hb
      exact h.al j a b ha hb
    · have h1 := (List.getElem?_eq_some_iff.1 ha).1
      simp at h1
      obtain rfl : j = L.length := by omega
      rw [List.getElem?_append_right (Nat.le_refl _)] at ha
      rw [List.getElem?_append_right (by omega)] at hb
      rw [hl] at hb
      simp at ha hb
      subst ha hb
      exact he, h.bel, h.hgh, h.hsz⟩
theorem NtI.put {i : Nat} (h : NtI w0 W base gh now hv dv (L.set i x) (D.set i y) L D) (he : EtM W base x y) : NtI w0 W base gh now hv dv (L.set i x) (D.set i y) (L.set i x) (D.set i y) :=
  ⟨h.his, h.doc, fun j a b ha hb => by
    by_cases hj : j = i
    · subst hj
      have h1 := (List.getElem?_eq_some_iff.1 ha).1
      have h2 := (List.getElem?_eq_some_iff.1 hb).1
      rw [List.length_set] at h1 h2
      rw [List.getElem?_set_self h1] at ha
      rw [List.getElem?_set_self h2] at hb
      simp only [Option.some.injEq] at ha hb
      subst ha hb
      exact he
    · rw [List.getElem?_set_ne (fun e => hj e.symm)] at ha hb
      exact h.al j a b ha hb, h.bel, h.hgh, h.hsz⟩
theorem nb_push {fb : Nat} (hn : ∀ (j : Nat) x y, L[j]? = some x → D[j]? = some y → Nb x.f fb ∧ Nb x.g fb ∧ Nb y.f fb ∧ Nb y.g fb) (hl : L.length = D.length) (he : Nb x.f fb ∧ Nb x.g fb ∧ Nb y.f fb ∧ Nb y.g fb) :
    ∀ (j : Nat) a b, (L ++ [x])[j]? = some a → (D ++ [y])[j]? = some b → Nb a.f fb ∧ Nb a.g fb ∧ Nb b.f fb ∧ Nb b.g fb := fun j a b ha hb => by
  rcases Nat.lt_or_ge j L.length with hlt | hge
  · rw [List.getElem?_append_left hlt] at ha
    rw [List.getElem?_append_left (by omega)] at hb
    exact hn j a b ha hb
  · have h1 := (List.getElem?_eq_some_iff.1 ha).1
    simp at h1
    obtain rfl : j = L.length := by omega
    rw [List.getElem?_append_right (Nat.le_refl _)] at ha
    rw [List.getElem?_append_right (by omega)] at hb
    rw [hl] at hb
    simp at ha hb
    subst ha hb
    exact he
theorem nb_put {fb i : Nat} (hn : ∀ (j : Nat) x y, L[j]? = some x → D[j]? = some y → Nb x.f fb ∧ Nb x.g fb ∧ Nb y.f fb ∧ Nb y.g fb) (he : Nb x.f fb ∧ Nb x.g fb ∧ Nb y.f fb ∧ Nb y.g fb) :
    ∀ (j : Nat) a b, (L.set i x)[j]? = some a → (D.set i y)[j]? = some b → Nb a.f fb ∧ Nb a.g fb ∧ Nb b.f fb ∧ Nb b.g fb := fun j a b ha hb => by
  by_cases hj : j = i
  · subst hj
    have h1 := (List.getElem?_eq_some_iff.1 ha).1
    have h2 := (List.getElem?_eq_some_iff.1 hb).1
    rw [List.length_set] at h1 h2
    rw [List.getElem?_set_self h1] at ha
    rw [List.getElem?_set_self h2] at hb
    simp only [Option.some.injEq] at ha hb
    subst ha hb
    exact he
  · rw [List.getElem?_set_ne (fun e => hj e.symm)] at ha hb
    exact hn j a b ha hb
end
/-- an entry that can be -/
def EtR (now : Int) (x : En) : Prop := 1 ≤ x.b ∧ x.b ≤ now ∧ (x.e = -1 ∧ x.ends = false ∨ x.b < x.e)
/-- both rows at a round's head -/
structure NtM (w0 W : World) (base gh : Nat) (now : Int) (hv dv : Value) (n : Nat) (L D : List En) : Prop where
  nt : NtI w0 W base gh now hv dv L D L D
  len : L.length = n
  len2 : D.length = n
  rt : ∀ (j : Nat) x, L[j]? = some x → EtR now x
  hnow : 0 ≤ now
section
variable {w0 W W' : World} {base gh n : Nat} {now : Int} {hv dv : Value} {L D : List En}
theorem NtM.alike (h : NtM w0 W base gh now hv dv n L D) : AlL L D L.length :=
  ⟨h.len2.trans h.len.symm, fun j x hj hx => by
    have h1 : j < D.length := by rw [h.len2, ← h.len]; exact hj
    obtain ⟨F, G, _, _, e, _⟩ := h.nt.al j x _ hx (List.getElem?_eq_getElem h1)
    exact ⟨_, List.getElem?_eq_getElem h1, _, _, e⟩⟩
theorem NtM.right (h : NtM w0 W base gh now hv dv n L D) : rightB L = true := by
  unfold rightB
  rw [List.all_eq_true]
  intro x hx
  obtain ⟨j, hj, rfl⟩ := List.getElem_of_mem hx
  obtain ⟨h1, h2, h3⟩ := h.rt j _ (List.getElem?_eq_getElem hj)
  have d1 : decide (L[j].b < 1) = false := by simpa using h1
  unfold badB
  rw [d1]
  rcases h3 with ⟨h3, h4⟩ | h3
  · simp [h3, h4]
  · have d2 : decide (L[j].e ≤ L[j].b) = false := by simpa using h3
    rw [d2]; rfl
end
/- Rows of structs stored into whole; the choice of End's contract: HistoryNotes. -/
section
variable {P : Program}
/-- an append, at the operation -/
theorem wp_appN {o : Oper} {a : Act} {Q : Exit → Act → World → Prop} {K : Act → World → Prop} (w : World) (s x : Operand) (t : TypeId)
    (ho : o.op = .call { callee := .builtin .append, args := #[s, x], argTypes := #[t, t] }) (k : IntKind)
    (base : Nat) (e : TypeId) (i : TypeInfo) (z : Value) (bytes : Nat) (ht : P.underlying t = some (.slice e)) (hi : P.info? e = some i) (hz : i.zero = some z)
    (hsize : i.size = 1) (hby : i.bytes = bytes) (hzs : z.cells.size = 1) (v : Value) (hs : a.eval s = v) (l : List Int) (hown : Own k e w base v l)
    (B : Nat) (A : Option Addr) (m c : Nat) (hx : a.eval x = .slice A m c) (l2 : List Int) (hr : Rd k w B A m l2) (hlen : (l.length + m) * bytes ≤ 140737488355328) (hbp : 0 < bytes) (hbase : base ≤ w.heap.size)
    (h : ∀ v' w', Own k e w' base v' (l ++ l2) → w.grownBy w' v.ownBlock → (v'.ownBlock = v.ownBlock ∨ v'.ownBlock = some w.heap.size) → K (a.put o.dst v') w') : o.wp P a w K Q := by
  obtain ⟨v', w', hrun, h2, h3, h4⟩ := run_app (P := P) w k base t o.type e i z bytes ht hi hz hsize hby hzs v l hown B A m c l2 hr hlen hbp hbase
  unfold Oper.wp execOp
  simp only [ho, resolve, invoke, builtin, Sem.run_bind, Sem.run_pure, Result.andThen_ok, List.map_toArray, List.map_cons, List.map_nil, hs, hx, hrun]
  exact h v' w' h2 h3 h4
end
def setL (xs : List Value) (o : Nat) : List Value → List Value
  | [] => xs
  | v :: vs => setL (xs.set o v) (o + 1) vs
theorem setL_len : ∀ (vs xs : List Value) (o : Nat), (setL xs o vs).length = xs.length
  | [], _, _ => rfl
  | v :: vs, xs, o => by rw [setL, setL_len vs, List.length_set]
theorem setL_mid : ∀ (b a p r : List Value), a.length = b.length → setL (p ++ (a ++ r)) p.length b = p ++ (b ++ r)
  | [], [], p, r, _ => rfl
  | v :: vs, y :: ys, p, r, h => by
    rw [setL, List.set_append_right _ _ (Nat.le_refl _), Nat.sub_self]
    have h1 := setL_mid vs ys (p ++ [v]) r (by simpa using h)
    rw [List.length_append, List.length_singleton, List.append_assoc] at h1
    simpa using h1
  | [], y :: ys, _, _, h => by simp at h
  | v :: vs, [], _, _, h => by simp at h
theorem setCells_upd (g : Nat) : ∀ (vs : List Value) (o : Nat) (w : World), Upd (fun k => k = g) w (w.setCells g o vs)
  | [], _, _ => Upd.refl _ _
  | v :: vs, o, w => (Upd.one w g o v).trans (setCells_upd g vs (o + 1) (w.setCell ⟨g, o, none⟩ v))
theorem ownsRow_setCells {e : TypeId} {sz base g m c : Nat} : ∀ (vs : List Value) (o n : Nat) (xs : List Value) (w : World), w.ownsRow base e sz (.slice (some ⟨g, 0, none⟩) m c) n xs → (w.setCells g o vs).ownsRow base e sz (.slice (some ⟨g, 0, none⟩) m c) n (setL xs o vs)
  | [], _, _, _, _, h => h
  | v :: vs, o, n, xs, w, h => ownsRow_setCells vs (o + 1) n (xs.set o v) _ (by
      have hm : m = n := by
        rcases h.2 with ⟨h1, _⟩ | ⟨g', cap, cur, h1, _⟩
        · simp at h1
        · simp only [Value.slice.injEq] at h1; exact h1.2.1
      subst hm
      exact (h.stored o v).1)
theorem OwnT.setAt {α : Type} {cs : α → List Value} {sz : Nat} (hs : ∀ x, (cs x).length = sz) {e : TypeId} {w : World} {base g n c : Nat} {l : List α} (h : OwnT cs sz e w base (.slice (some ⟨g, 0, none⟩) n c) l) {j : Nat} {x x' : α} (hj : l[j]? = some x) :
    OwnT cs sz e (w.setCells g (j * sz) (cs x')) base (.slice (some ⟨g, 0, none⟩) n c) (l.set j x') := by
  refine ⟨?_⟩
  have h1 := ownsRow_setCells (cs x') (j * sz) _ _ w h.row
  have hlt := (List.getElem?_eq_some_iff.1 hj).1
  have hx := (List.getElem?_eq_some_iff.1 hj).2
  rw [List.length_set]
  have e1 : l.flatMap cs = (l.take j).flatMap cs ++ (cs x ++ (l.drop (j + 1)).flatMap cs) := by
    conv => lhs; rw [← List.take_append_drop j l, List.flatMap_append, List.drop_eq_getElem_cons hlt, List.flatMap_cons, hx]
  have e2 : (l.set j x').flatMap cs = (l.take j).flatMap cs ++ (cs x' ++ (l.drop (j + 1)).flatMap cs) := by
    rw [List.set_eq_take_append_cons_drop, if_pos hlt, List.flatMap_append, List.flatMap_cons]
  have e3 : ((l.take j).flatMap cs).length = j * sz := by rw [flat_len hs, List.length_take, Nat.min_eq_left (by omega)]
  rw [e1] at h1
  rw [e2]
  rw [← e3, setL_mid _ _ _ _ (by rw [hs, hs])] at h1
  rw [e3] at h1
  exact h1
theorem EtM.get {W : World} {base : Nat} {x y : En} (h : EtM W base x y) : ∃ F G s t, F.length ≤ 60000 ∧ G.length ≤ 60000 ∧ y = { x with f := s, g := t } ∧ SlO W base x.f F ∧ SlO W base s F ∧ SlO W base x.g G ∧ SlO W base t G := by
  obtain ⟨F, G, h1, h2, h3, h4, h5, h6, h7⟩ := h
  exact ⟨F, G, y.f, y.g, h1, h2, h3, h4, h5, h6, h7⟩
theorem EtM.mk' {W : World} {base : Nat} {x : En} {F G : List Int} {s t : Sl} (h1 : F.length ≤ 60000) (h2 : G.length ≤ 60000) (h4 : SlO W base x.f F) (h5 : SlO W base s F) (h6 : SlO W base x.g G) (h7 : SlO W base t G) : EtM W base x { x with f := s, g := t } := ⟨F, G, h1, h2, rfl, h4, h5, h6, h7⟩
theorem SlO.zero {w : World} {base : Nat} : SlO w base ⟨none, 0, 0⟩ [] := Own.nil _ _ _ _
/-- frames for all entries -/
theorem NtM.all {w0 W : World} {base gh n : Nat} {now : Int} {hv dv : Value} {L D : List En} (h : NtM w0 W base gh now hv dv n L D) :
    ∃ F G : Nat → List Int, (∀ j, (F j).length ≤ 60000) ∧ (∀ j, (G j).length ≤ 60000) ∧ ∀ (j : Nat) x y, L[j]? = some x → D[j]? = some y → ∃ s t, y = { x with f := s, g := t } ∧ SlO W base x.f (F j) ∧ SlO W base s (F j) ∧ SlO W base x.g (G j) ∧ SlO W base t (G j) := by
  have key : ∀ j : Nat, ∃ p : List Int × List Int, p.1.length ≤ 60000 ∧ p.2.length ≤ 60000 ∧ ∀ x y, L[j]? = some x → D[j]? = some y → ∃ s t, y = { x with f := s, g := t } ∧ SlO W base x.f p.1 ∧ SlO W base s p.1 ∧ SlO W base x.g p.2 ∧ SlO W base t p.2 := by
    intro j
    rcases Nat.lt_or_ge j n with hlt | hge
    · have h1 : j < L.length := by rw [h.len]; exact hlt
      have h2 : j < D.length := by rw [h.len2]; exact hlt
      obtain ⟨F, G, s, t, a1, a2, a3, a4⟩ := (h.nt.al j _ _ (List.getElem?_eq_getElem h1) (List.getElem?_eq_getElem h2)).get
      refine ⟨(F, G), a1, a2, fun x y hx hy => ?_⟩
      rw [List.getElem?_eq_getElem h1] at hx
      rw [List.getElem?_eq_getElem h2] at hy
      injection hx with hx
      injection hy with hy
      subst hx hy
      exact ⟨s, t, a3, a4⟩
    · refine ⟨([], []), by simp, by simp, fun x y hx => ?_⟩
      have := (List.getElem?_eq_some_iff.1 hx).1
      rw [h.len] at this; omega
  obtain ⟨f, hf⟩ := Classical.axiomOfChoice key
  exact ⟨fun j => (f j).1, fun j => (f j).2, fun j => (hf j).1, fun j => (hf j).2.1, fun j => (hf j).2.2⟩
theorem EndR.p {w : World} {base gh : Nat} {now er : Int} {v : Value} {l : List En} {i : Nat} {x : En} {G : List Int} {e : Ending} {w' : World} (h : EndR w base gh now er v l i x G e w') : EndP w base gh now er v l i x G x.port e w' := by
  obtain ⟨t, h1, h2, h3, h4⟩ := h
  exact ⟨t, h1, h2, h3, h4⟩
theorem frm_src {G : List Int} (hg : ∀ x, x ∈ G → 0 ≤ x ∧ x ≤ 255) : 0 ≤ (partI G).1.src ∧ (partI G).1.src ≤ 65535 := by
  unfold partI
  split
  · exact (getR_bd hg).1
  · exact ⟨by show (0 : Int) ≤ Pt.z.src; decide, by show Pt.z.src ≤ (65535 : Int); decide⟩
theorem end_way (er : Int) (G : List Int) (x : En) (hG : G.length ≤ 60000) (hg : ∀ x, x ∈ G → 0 ≤ x ∧ x ≤ 255) : ∃ po : Int,
    (∀ (i : Nat) (fA : Option Addr) (fn fc base gh B0 : Nat) (now : Int) (v : Value) (l : List En) (w : World), HisM w base gh now v l → base ≤ w.heap.size → l.length ≤ 100 → 0 ≤ now ∧ now ≤ 1000 → SlO w B0 ⟨fA, fn, fc⟩ G → l[i]? = some x → x.ends = false → x.e = -1 →
      Calls Try.prog 15 #[.pointer (some ⟨gh, 0, none⟩), .int .i64 i, .agg #[.slice fA fn fc, .int .i64 er]] w (EndP w base gh now er v l i x G po)) ∧
    (∀ (y : En) (now : Int) (fA : Option Addr) (fn fc : Nat) (w : World), y.out = x.out → y.port = x.port → SlR w ⟨fA, fn, fc⟩ G → Calls Try.prog 21 #[.agg #[.int .i64 y.b, .int .i64 y.e, .bool y.ends, .bool y.out, .slice y.f.A y.f.n y.f.c, .int .i64 y.tick, .int .i64 y.port, .slice y.g.A y.g.n y.g.c, .int .i64 y.err, .int .i64 y.proto, .int .i64 y.pt], .int .i64 now, .slice fA fn fc, .int .i64 er] w (DonR w y now er G po)) := by
  have hs := frm_src hg
  have hs2 : 0 ≤ (getR (hdIf G 0) G).2.src ∧ (getR (hdIf G 0) G).2.src ≤ 65535 := (getR_bd hg).1
  cases h8 : (er == 8) with
  | true => exact ⟨-1, fun i fA fn fc base gh B0 now v l w a1 a2 a3 a4 a5 a6 a7 a8 => hEnd8_any i fA fn fc er G base gh now v l x w a1 a2 a3 a4 a5.rd hG a6 a7 a8 h8, fun y now fA fn fc w _ _ a => rDone8_any y now er fA fn fc G w a hG h8⟩
  | false =>
    cases h9 : (er == 9) with
    | true => exact ⟨-2, fun i fA fn fc base gh B0 now v l w a1 a2 a3 a4 a5 a6 a7 a8 => hEnd9_any i fA fn fc er G base gh now v l x w a1 a2 a3 a4 a5.rd hG a6 a7 a8 h8 h9, fun y now fA fn fc w _ _ a => rDone9_any y now er fA fn fc G w a hG h8 h9⟩
    | false =>
      by_cases h0 : (er == 0) = true ∧ x.out = true
      · exact ⟨fromI G, fun i fA fn fc base gh B0 now v l w a1 a2 a3 a4 a5 a6 a7 a8 => hEnd0_any i fA fn fc er G base gh B0 now v l x w a1 a2 a3 a4 a5 hG a6 a7 a8 h8 h9 h0.1 h0.2 hs2, fun y now fA fn fc w b1 _ a => rDone0_any y now er fA fn fc G w a hG h8 h9 h0.1 (b1.trans h0.2) hs⟩
      · have h0' : (er == 0) = true → x.out = false := fun h => by
          cases hx : x.out with
          | false => rfl
          | true => exact absurd ⟨h, hx⟩ h0
        exact ⟨x.port, fun i fA fn fc base gh B0 now v l w a1 a2 a3 a4 a5 a6 a7 a8 => (hEnd_any i fA fn fc er G base gh now v l x w a1 a2 a3 a4 a5.rd hG a6 a7 a8 h8 h9 h0').mono fun _ _ h => h.p, fun y now fA fn fc w b1 b2 a => b2 ▸ rDoneN_any y now er fA fn fc G w a hG h8 h9 (fun h => b1.trans (h0' h))⟩
theorem EtR.later {now now' : Int} {x : En} (h : EtR now x) (hn : now ≤ now') : EtR now' x := ⟨h.1, by have := h.2.1; omega, h.2.2⟩
theorem rt_push {L : List En} {now now' : Int} {x : En} (h : ∀ (j : Nat) y, L[j]? = some y → EtR now y) (hn : now ≤ now') (hx : EtR now' x) : ∀ (j : Nat) y, (L ++ [x])[j]? = some y → EtR now' y := fun j y hy => by
  rcases Nat.lt_or_ge j L.length with hlt | hge
  · rw [List.getElem?_append_left hlt] at hy
    exact (h j y hy).later hn
  · have h1 := (List.getElem?_eq_some_iff.1 hy).1
    simp at h1
    obtain rfl : j = L.length := by omega
    rw [List.getElem?_append_right (Nat.le_refl _)] at hy
    simp at hy
    subst hy
    exact hx
theorem rt_put {L : List En} {now now' : Int} {x : En} {i : Nat} (h : ∀ (j : Nat) y, L[j]? = some y → EtR now y) (hn : now ≤ now') (hx : EtR now' x) : ∀ (j : Nat) y, (L.set i x)[j]? = some y → EtR now' y := fun j y hy => by
  by_cases hj : j = i
  · subst hj
    have h1 := (List.getElem?_eq_some_iff.1 hy).1
    rw [List.length_set] at h1
    rw [List.getElem?_set_self h1] at hy
    simp only [Option.some.injEq] at hy
    subst hy
    exact hx
  · rw [List.getElem?_set_ne (fun e => hj e.symm)] at hy
    exact (h j y hy).later hn
end Go.Proofs.Ytjaacmecniijgaa
