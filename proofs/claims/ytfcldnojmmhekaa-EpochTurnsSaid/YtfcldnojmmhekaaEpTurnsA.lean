/- Rows of rows in memory, whatever their elements are. -/
import Derived.Test.YtfcldnojmmhekaaEpoch11
import Derived.Test.YtfcldnojmmhekaaRowAt
namespace Go.Proofs.Ytfcldnojmmhekaa
set_option linter.unusedVariables false
set_option linter.unusedSimpArgs false
open Go.RowKit
/-- headers at a block, and the rows of the call's own that they name, all different -/
structure GvT {α : Type} (cs : α → List Value) (sz : Nat) (te th : TypeId) (w : World) (base gr : Nat) (hs : List Value) (G : List (List α)) : Prop where
  blk : Blk w gr th hs.toArray
  len : hs.length = G.length
  own : ∀ (k : Nat) v l, hs[k]? = some v → G[k]? = some l → OwnT cs sz te w base v l
  far : ∀ (i j : Nat) v u, i ≠ j → hs[i]? = some v → hs[j]? = some u → Far v u
section
variable {α : Type} {cs : α → List Value} {sz : Nat} {te th : TypeId} {w w' : World} {base gr : Nat} {hs : List Value} {G : List (List α)}
theorem GvT.at_ (k : GvT cs sz te th w base gr hs G) {i : Nat} (hi : i < G.length) : ∃ v l, hs[i]? = some v ∧ G[i]? = some l ∧ OwnT cs sz te w base v l := by
  have h1 : i < hs.length := by rw [k.len]; exact hi
  exact ⟨_, _, List.getElem?_eq_getElem h1, List.getElem?_eq_getElem hi, k.own i _ _ (List.getElem?_eq_getElem h1) (List.getElem?_eq_getElem hi)⟩
theorem GvT.ty (k : GvT cs sz te th w base gr hs G) {x : Nat} (hx : GvS gr hs x) : ∃ t cs, Blk w x t cs ∧ (t = th ∨ t = te) := by
  rcases hx with rfl | ⟨v, hv, hx⟩
  · exact ⟨_, _, k.blk, .inl rfl⟩
  · obtain ⟨i, hi, he⟩ := List.getElem_of_mem hv
    have h2 : i < G.length := by rw [← k.len]; exact hi
    obtain ⟨cur, hb⟩ := (k.own i v _ (by rw [List.getElem?_eq_getElem hi, he]) (List.getElem?_eq_getElem h2)).blk_ hx
    exact ⟨_, _, hb, .inr rfl⟩
theorem GvT.notS (k : GvT cs sz te th w base gr hs G) {x : Nat} {t : TypeId} {ds : Array Value} (b : Blk w x t ds) (h1 : t ≠ th) (h2 : t ≠ te) : ¬ GvS gr hs x := fun hx => by
  obtain ⟨t', cs', b', ht⟩ := k.ty hx
  have : t = t' := Classical.byContradiction fun hne => b.ne_ b' hne rfl
  rcases ht with ht | ht
  · exact h1 (this.trans ht)
  · exact h2 (this.trans ht)
theorem GvT.lt (k : GvT cs sz te th w base gr hs G) {x : Nat} (hg : base ≤ gr) (hx : GvS gr hs x) : base ≤ x := by
  rcases hx with rfl | ⟨v, hv, hx⟩
  · exact hg
  · obtain ⟨i, hi, he⟩ := List.getElem_of_mem hv
    have h2 : i < G.length := by rw [← k.len]; exact hi
    exact ((k.own i v _ (by rw [List.getElem?_eq_getElem hi, he]) (List.getElem?_eq_getElem h2)).lt x hx).1
theorem GvT.upd {S : Nat → Prop} (k : GvT cs sz te th w base gr hs G) (hu : Upd S w w') (hS : ∀ x, S x → ¬ GvS gr hs x) : GvT cs sz te th w' base gr hs G :=
  ⟨k.blk.upd hu (fun h => hS _ h (.inl rfl)), k.len, fun i v l hv hl => (k.own i v l hv hl).upd hu (fun x hx h => hS x h (.inr ⟨v, List.mem_of_getElem? hv, hx⟩)), k.far⟩
/-- blocks of other types turn -/
theorem GvT.other {S : Nat → Prop} (k : GvT cs sz te th w base gr hs G) (hu : Upd S w w') (hS : ∀ x, S x → ∃ t ds, Blk w x t ds ∧ t ≠ th ∧ t ≠ te) : GvT cs sz te th w' base gr hs G :=
  k.upd hu (fun x hx => by obtain ⟨t, ds, hb, h1, h2⟩ := hS x hx; exact k.notS hb h1 h2)
theorem GvT.bel (k : GvT cs sz te th w base gr hs G) (hb : Below w.heap.size w w') : GvT cs sz te th w' base gr hs G :=
  ⟨k.blk.bel hb, k.len, fun i v l hv hl => (k.own i v l hv hl).below hb, k.far⟩
/-- a row takes the place of one -/
theorem GvT.put (k : GvT cs sz te th w base gr hs G) (hne : th ≠ te) {i : Nat} {v v' : Value} {l' : List α} (hv : hs[i]? = some v) {w1 : World} (hb : Blk w1 gr th hs.toArray) (hu : Upd (fun x => v.ownBlock = some x) w w1)
    (ho : OwnT cs sz te w1 base v' l') (hnew : v'.ownBlock = v.ownBlock ∨ ∀ x, v'.ownBlock = some x → w.heap.size ≤ x) :
    GvT cs sz te th (w1.setCell ⟨gr, i, none⟩ v') base gr (hs.set i v') (G.set i l') ∧ Upd (GvS gr hs) w (w1.setCell ⟨gr, i, none⟩ v') := by
  have hgr := k.blk.lt
  have hfar : ∀ (j : Nat) u, j ≠ i → hs[j]? = some u → Far v' u := fun j u hj hu => by
    rcases hnew with hn | hn
    · intro x hx
      exact k.far i j v u (Ne.symm hj) hv hu x (hn ▸ hx)
    · intro x hx hux
      have h1 := hn x hx
      have hjl : j < G.length := by rw [← k.len]; exact (List.getElem?_eq_some_iff.1 hu).1
      have := (k.own j u _ hu (List.getElem?_eq_getElem hjl)).lt x hux
      omega
  have hrow : ∀ (u : Value) (l : List α), OwnT cs sz te w1 base u l → OwnT cs sz te (w1.setCell ⟨gr, i, none⟩ v') base u l := fun u l h =>
    h.upd (Upd.one w1 gr i v') (fun x hx he => by
      obtain ⟨cur, hc⟩ := h.blk_ hx
      exact hb.ne_ hc hne he.symm)
  refine ⟨⟨?_, by simp [k.len], ?_, ?_⟩, ?_⟩
  · have := hb.set_ i v'
    simpa using this
  · intro j u l hj hl
    by_cases hji : j = i
    · subst hji
      have hjl : j < hs.length := (List.getElem?_eq_some_iff.1 hv).1
      rw [List.getElem?_set_self hjl] at hj
      rw [List.getElem?_set_self (by rw [← k.len]; exact hjl)] at hl
      simp only [Option.some.injEq] at hj hl
      subst hj; subst hl
      exact hrow _ _ ho
    · rw [List.getElem?_set_ne (Ne.symm hji)] at hj hl
      exact hrow _ _ ((k.own j u l hj hl).upd hu (fun x hx he => k.far i j v u (Ne.symm hji) hv hj x he hx))
  · intro a b u x hab ha hb'
    by_cases hai : a = i
    · subst hai
      rw [List.getElem?_set_self (List.getElem?_eq_some_iff.1 hv).1] at ha
      rw [List.getElem?_set_ne hab] at hb'
      simp only [Option.some.injEq] at ha
      subst ha
      exact hfar b x (Ne.symm hab) hb'
    · rw [List.getElem?_set_ne (Ne.symm hai)] at ha
      by_cases hbi : b = i
      · subst hbi
        rw [List.getElem?_set_self (List.getElem?_eq_some_iff.1 hv).1] at hb'
        simp only [Option.some.injEq] at hb'
        subst hb'
        exact (hfar a u hai ha).symm
      · rw [List.getElem?_set_ne (Ne.symm hbi)] at hb'
        exact k.far a b u x hab ha hb'
  · refine (hu.mono fun x _ hx => .inr ⟨v, List.mem_of_getElem? hv, hx⟩).setCell (p := ⟨gr, i, none⟩) (fun _ => .inl rfl) v'
/-- a cell of a row is stored -/
theorem GvT.cell (k : GvT cs sz te th w base gr hs G) (hne : th ≠ te) (hsz : ∀ x, (cs x).length = sz) {i : Nat} {g c : Nat} {l : List α} (hv : hs[i]? = some (.slice (some ⟨g, 0, none⟩) l.length c)) (hl : G[i]? = some l) {j : Nat} {x x' : α} (hj : l[j]? = some x) {f : Nat} {u : Value} (hf : f < sz) (hx : cs x' = (cs x).set f u) :
    GvT cs sz te th (w.setCell ⟨g, j * sz + f, none⟩ u) base gr hs (G.set i (l.set j x')) ∧ Upd (GvS gr hs) w (w.setCell ⟨g, j * sz + f, none⟩ u) := by
  have ho := k.own i _ l hv hl
  have up := Upd.one w g (j * sz + f) u
  obtain ⟨cur, hbg⟩ := ho.blk_ (x := g) rfl
  have hgg : gr ≠ g := k.blk.ne_ hbg hne
  refine ⟨⟨k.blk.upd up hgg, by rw [List.length_set]; exact k.len, fun a v l2 ha hl2 => ?_, k.far⟩, up.mono fun x _ e => .inr ⟨_, List.mem_of_getElem? hv, by subst e; rfl⟩⟩
  by_cases hai : a = i
  · subst hai
    rw [List.getElem?_set_self (List.getElem?_eq_some_iff.1 hl).1] at hl2
    have hva : v = .slice (some ⟨g, 0, none⟩) l.length c := by rw [hv] at ha; exact (Option.some.inj ha).symm
    subst hva
    simp only [Option.some.injEq] at hl2
    subst hl2
    have := ho.setF hsz rfl hj hf hx
    exact this
  · rw [List.getElem?_set_ne (Ne.symm hai)] at hl2
    exact (k.own a v l2 ha hl2).upd up (fun y hy e => by subst e; exact k.far i a _ v (Ne.symm hai) hv ha y rfl hy)
end
end Go.Proofs.Ytfcldnojmmhekaa
