/- Rows of structs: slices whose elements are read by a function cs (the cells of one element), of sz cells each. -/
import Derived.Test.YtjaacmecniijgaaHeap
namespace Go.Proofs.Ytjaacmecniijgaa
set_option linter.unusedVariables false
set_option linter.unusedSimpArgs false
open Go.RowKit
variable {α : Type}
/-- the cells of an element, in a row -/
theorem flat_at {cs : α → List Value} {sz : Nat} (hs : ∀ x, (cs x).length = sz) : ∀ (l : List α) (j f : Nat) (x : α), l[j]? = some x → f < sz → (l.flatMap cs)[j * sz + f]? = (cs x)[f]?
  | [], j, f, x, h, _ => by simp at h
  | y :: l, 0, f, x, h, hf => by
      simp only [List.getElem?_cons_zero, Option.some.injEq] at h
      subst h
      rw [List.flatMap_cons, Nat.zero_mul, Nat.zero_add, List.getElem?_append_left (by rw [hs]; omega)]
  | y :: l, j + 1, f, x, h, hf => by
      simp only [List.getElem?_cons_succ] at h
      rw [List.flatMap_cons, List.getElem?_append_right (by rw [hs, Nat.add_mul]; omega)]
      have := flat_at hs l j f x h hf
      rw [hs]
      rw [show (j + 1) * sz + f - sz = j * sz + f by rw [Nat.add_mul]; omega]
      exact this
theorem flat_len {cs : α → List Value} {sz : Nat} (hs : ∀ x, (cs x).length = sz) : ∀ (l : List α), (l.flatMap cs).length = l.length * sz
  | [] => by simp
  | y :: l => by rw [List.flatMap_cons, List.length_append, hs, flat_len hs l, List.length_cons, Nat.add_mul]; omega
theorem flat_split {cs : α → List Value} {sz : Nat} (hs : ∀ x, (cs x).length = sz) (h0 : 0 < sz) (l : List α) (j : Nat) (u : Value) (h : (l.flatMap cs)[j]? = some u) : ∃ x, l[j / sz]? = some x ∧ (cs x)[j % sz]? = some u := by
  have hj : j < l.length * sz := by
    obtain ⟨h1, _⟩ := List.getElem?_eq_some_iff.1 h
    rwa [flat_len hs] at h1
  have hd : j / sz < l.length := Nat.div_lt_of_lt_mul (by rw [Nat.mul_comm]; exact hj)
  refine ⟨l[j / sz], List.getElem?_eq_getElem hd, ?_⟩
  have := flat_at hs l (j / sz) (j % sz) _ (List.getElem?_eq_getElem hd) (Nat.mod_lt _ h0)
  rw [show j / sz * sz + j % sz = j by rw [Nat.mul_comm]; exact Nat.div_add_mod j sz] at this
  rw [← this, h]
/-- the slice (A, n) holds the elements l, below block B -/
structure RdT (cs : α → List Value) (sz : Nat) (w : World) (B : Nat) (A : Option Addr) (n : Nat) (l : List α) : Prop where
  len : l.length = n
  cel : 0 < n → ∃ b o, A = some ⟨b, o, none⟩ ∧ b < B ∧ ∀ j x, l[j]? = some x → ∀ f u, (cs x)[f]? = some u → w.cell? ⟨b, o + j * sz + f, none⟩ = some u
section
variable {cs : α → List Value} {sz : Nat} {w w' : World} {B B' n : Nat} {A : Option Addr} {l : List α}
theorem RdT.nil (cs : α → List Value) (sz : Nat) (w : World) (B : Nat) (A : Option Addr) : RdT cs sz w B A 0 [] := ⟨rfl, fun h => absurd h (by omega)⟩
theorem RdT.keep (h : RdT cs sz w B A n l) (hk : ∀ p : Addr, p.block < B → w'.cell? p = w.cell? p) : RdT cs sz w' B A n l :=
  ⟨h.len, fun hn => by
    obtain ⟨b, o, e, hb, hc⟩ := h.cel hn
    exact ⟨b, o, e, hb, fun j x hj f u hu => (hk _ hb).trans (hc j x hj f u hu)⟩⟩
theorem RdT.below (h : RdT cs sz w B A n l) (hb : Below B w w') : RdT cs sz w' B A n l := h.keep fun _ hp => hb.cell hp
theorem RdT.more (h : RdT cs sz w B A n l) (hB : B ≤ B') : RdT cs sz w B' A n l :=
  ⟨h.len, fun hn => by
    obtain ⟨b, o, e, hb, hc⟩ := h.cel hn
    exact ⟨b, o, e, by omega, hc⟩⟩
theorem RdT.take (h : RdT cs sz w B A n l) {m : Nat} (hm : m ≤ n) : RdT cs sz w B A m (l.take m) := by
  have hl := h.len
  refine ⟨by rw [List.length_take]; omega, fun h0 => ?_⟩
  obtain ⟨b, o, e, hb, hc⟩ := h.cel (by omega)
  refine ⟨b, o, e, hb, fun j x hj => hc j x ?_⟩
  rw [List.getElem?_take] at hj
  split at hj
  · exact hj
  · cases hj
/-- a block that was just laid, with exactly these cells -/
theorem RdT.new (hs : ∀ x, (cs x).length = sz) (w : World) (t : TypeId) (l : List α) (a : Array Value) (ha : a = (l.flatMap cs).toArray) (n : Nat) (hn : l.length = n) :
    RdT cs sz (w.alloc (.cells a t)) (w.heap.size + 1) (some ⟨w.heap.size, 0, none⟩) n l := by
  subst ha
  refine ⟨hn, fun h0 => ⟨_, 0, rfl, by omega, fun j x hj f u hu => ?_⟩⟩
  rw [cell_of_row _ _ _ _ _ _ (heap_alloc_new w _)]
  have hf : f < sz := by rw [← hs x]; exact (List.getElem?_eq_some_iff.1 hu).1
  have := flat_at hs l j f x hj hf
  rw [Nat.zero_add]
  simp only [List.getElem?_toArray]
  rw [this, hu]
end
/-- a row of the call's own that holds the elements l -/
structure OwnT (cs : α → List Value) (sz : Nat) (e : TypeId) (w : World) (base : Nat) (v : Value) (l : List α) : Prop where
  row : w.ownsRow base e sz v l.length (l.flatMap cs)
section
variable {cs : α → List Value} {sz : Nat} {w w' : World} {e : TypeId} {base : Nat} {v : Value} {l : List α}
theorem OwnT.nil (cs : α → List Value) (sz : Nat) (e : TypeId) (w : World) (base : Nat) : OwnT cs sz e w base (.slice none 0 0) [] := ⟨World.ownsRow_nil w base e sz⟩
theorem OwnT.form (h : OwnT cs sz e w base v l) {n : Nat} (hn : l.length = n) : ∃ A c, v = .slice A n c ∧ n ≤ c ∧ c ≤ maxLen := by
  subst hn
  rcases h.row.2 with ⟨rfl, h0⟩ | ⟨g, cap, cur, rfl, hg, hh, hnc, hcm, hcs, hx⟩
  · rw [h0]; exact ⟨none, 0, rfl, Nat.le_refl _, Nat.zero_le _⟩
  · exact ⟨_, cap, rfl, hnc, hcm⟩
theorem OwnT.formG (h : OwnT cs sz e w base v l) {n : Nat} (hn : l.length = n) (h0 : 0 < n) :
    ∃ g c, v = .slice (some ⟨g, 0, none⟩) n c ∧ n ≤ c ∧ c ≤ maxLen ∧ base ≤ g ∧ g < w.heap.size ∧ ∃ cur, w.heap[g]? = some (.cells cur e (0, 0)) := by
  subst hn
  rcases h.row.2 with ⟨rfl, h1⟩ | ⟨g, cap, cur, rfl, hg, hh, hnc, hcm, hcs, hx⟩
  · omega
  · exact ⟨g, cap, rfl, hnc, hcm, hg, (h.row.lt g rfl).2, cur, hh⟩
theorem OwnT.lt (h : OwnT cs sz e w base v l) : ∀ g, v.ownBlock = some g → base ≤ g ∧ g < w.heap.size := h.row.lt
theorem OwnT.keep (h : OwnT cs sz e w base v l) {row : Option Nat} (hg : w.grownBy w' row) (hne : v.ownBlock = none ∨ v.ownBlock ≠ row) : OwnT cs sz e w' base v l := ⟨h.row.kept hg hne⟩
theorem OwnT.alloc (h : OwnT cs sz e w base v l) (o : Obj) : OwnT cs sz e (w.alloc o) base v l := ⟨h.row.alloc o⟩
theorem OwnT.drewN (h : OwnT cs sz e w base v l) (n : Nat) : OwnT cs sz e (w.drewN n) base v l := ⟨h.row⟩
theorem OwnT.drew (h : OwnT cs sz e w base v l) : OwnT cs sz e w.drew base v l := ⟨h.row⟩
theorem OwnT.below (h : OwnT cs sz e w base v l) (hb : Below w.heap.size w w') : OwnT cs sz e w' base v l := by
  refine h.keep (row := none) ⟨hb.os, hb.tape, hb.output, hb.size, fun k hk _ => hb.block k hk⟩ ?_
  cases hv : v.ownBlock
  · exact .inl rfl
  · exact .inr (by simp)
theorem OwnT.upd {S : Nat → Prop} (h : OwnT cs sz e w base v l) (hu : Upd S w w') (hS : ∀ g, v.ownBlock = some g → ¬ S g) : OwnT cs sz e w' base v l := by
  refine ⟨h.row.1, ?_⟩
  rcases h.row.2 with hn | ⟨g, cap, cur, rfl, hb, hgg, rest⟩
  · exact .inl hn
  · refine .inr ⟨g, cap, cur, rfl, hb, ?_, rest⟩
    rw [hu.block g (Array.getElem?_eq_some_iff.1 hgg).1 (hS g rfl)]
    exact hgg
theorem OwnT.at_ {g n c : Nat} (hs : ∀ x, (cs x).length = sz) (h : OwnT cs sz e w base (.slice (some ⟨g, 0, none⟩) n c) l) {j : Nat} {x : α} (hj : l[j]? = some x) {f : Nat} {u : Value} (hu : (cs x)[f]? = some u) :
    w.cell? ⟨g, j * sz + f, none⟩ = some u := by
  have hf : f < sz := by rw [← hs x]; exact (List.getElem?_eq_some_iff.1 hu).1
  have h1 := flat_at hs l j f x hj hf
  have hc := h.row.cells (g := g) rfl (j * sz + f) u (by rw [h1, hu])
  rw [← hc]
  unfold Addr.add
  split <;> simp_all
theorem OwnT.rd (hs : ∀ x, (cs x).length = sz) (h : OwnT cs sz e w base v l) {n c : Nat} {A : Option Addr} (hv : v = .slice A n c) (hn : l.length = n) : RdT cs sz w w.heap.size A n l := by
  refine ⟨hn, fun h0 => ?_⟩
  obtain ⟨g, c', h1, _, _, _, h2, _⟩ := h.formG hn h0
  rw [h1] at hv
  simp only [Value.slice.injEq] at hv
  refine ⟨g, 0, hv.1.symm, h2, fun j x hj f u hu => ?_⟩
  subst h1
  rw [Nat.zero_add]
  exact h.at_ hs hj hu
end
section
variable {P : Program} {cs : α → List Value} {sz : Nat}
/-- 'append(own, src...)': the source is a slice that reads as a list, nil or not -/
theorem run_appT (hs : ∀ x, (cs x).length = sz) (h1c : ∀ x, ∀ u ∈ cs x, u.oneCell' = true) (hsz : 0 < sz) (w : World) (base : Nat) (t ty e : TypeId) (i : TypeInfo) (z : Value) (bytes : Nat) (ht : P.underlying t = some (.slice e)) (hi : P.info? e = some i) (hz : i.zero = some z)
    (hsize : i.size = sz) (hby : i.bytes = bytes) (hzs : z.cells.size = sz) (v : Value) (l : List α) (hown : OwnT cs sz e w base v l)
    (B : Nat) (A : Option Addr) (m c : Nat) (l2 : List α) (hr : RdT cs sz w B A m l2) (hlen : (l.length + m) * bytes ≤ 140737488355328) (hbp : 0 < bytes) (hbase : base ≤ w.heap.size) :
    ∃ v' w', (Builtin.append_ #[t, t] ty #[v, .slice A m c]).run P w = .ok v' w' ∧ OwnT cs sz e w' base v' (l ++ l2) ∧ w.grownBy w' v.ownBlock ∧ (v'.ownBlock = v.ownBlock ∨ v'.ownBlock = some w.heap.size) := by
  have hl := hr.len
  have h63 : l.length + m ≤ maxLen := by
    have := Nat.le_mul_of_pos_right (l.length + m) hbp
    unfold maxLen; omega
  have main : ∀ ad : Addr, (∀ j u, (l2.flatMap cs)[j]? = some u → w.cell? (ad.add j) = some u) → ∃ v' w', (Builtin.append_ #[t, t] ty #[v, .slice (some ad) m c]).run P w = .ok v' w' ∧ OwnT cs sz e w' base v' (l ++ l2) ∧ w.grownBy w' v.ownBlock ∧ (v'.ownBlock = v.ownBlock ∨ v'.ownBlock = some w.heap.size) := by
    intro ad hc
    obtain ⟨v', w', h1, h2, h3, _, h5⟩ := run_append_own_at (P := P) w base t ty e i z sz bytes ht hi hz hsize hby hzs hsz v l.length (l.flatMap cs) hown.row ad m c (l2.flatMap cs) (by rw [flat_len hs, hl]) hc
      (by intro u hu; obtain ⟨x, _, hx⟩ := List.mem_flatMap.1 hu; exact h1c x u hx) h63 hlen hbase
    exact ⟨v', w', h1, ⟨by rw [List.length_append, List.flatMap_append, hl]; exact h2⟩, h3, h5⟩
  rcases Nat.eq_zero_or_pos m with h0 | h0
  · subst h0
    have e2 : l2 = [] := List.length_eq_zero_iff.mp hl
    subst e2
    cases A with
    | some ad => exact main ad (by simp)
    | none =>
      refine ⟨v, w, ?_, by simpa using hown, World.grownBy.refl w _, .inl rfl⟩
      rcases hown.row.2 with ⟨rfl, h⟩ | ⟨g, cap, cur, rfl, _, _, hnc, _⟩
      · simp [Builtin.append_, run_underlying ht, sizeOf, typeInfo, hi, Builtin.lenOf, Builtin.firstCells]
      · simp [Builtin.append_, run_underlying ht, sizeOf, typeInfo, hi, Builtin.lenOf, Builtin.firstCells, hnc, storeCells]
  · obtain ⟨b, o, rfl, hb, hc⟩ := hr.cel h0
    refine main ⟨b, o, none⟩ fun j u hu => ?_
    obtain ⟨x, hx, hu2⟩ := flat_split hs hsz l2 j u hu
    have := hc _ x hx _ u hu2
    rw [← this]
    have e1 : o + j / sz * sz + j % sz = o + j := by
      have := Nat.div_add_mod j sz
      rw [Nat.mul_comm] at this; omega
    rw [e1]
    unfold Addr.add
    split
    · rename_i h; subst h; simp
    · rfl
theorem wpList_appT (hs : ∀ x, (cs x).length = sz) (h1c : ∀ x, ∀ u ∈ cs x, u.oneCell' = true) (hsz : 0 < sz) {ops : Array Oper} {rest : List Oper} {o : Oper} {a : Act} {Q : Exit → Act → World → Prop} (w : World) (hgd : o.guard = none) (s x : Operand) (t : TypeId)
    (ho : o.op = .call { callee := .builtin .append, args := #[s, x], argTypes := #[t, t] })
    (base : Nat) (e : TypeId) (i : TypeInfo) (z : Value) (bytes : Nat) (ht : P.underlying t = some (.slice e)) (hi : P.info? e = some i) (hz : i.zero = some z)
    (hsize : i.size = sz) (hby : i.bytes = bytes) (hzs : z.cells.size = sz) (v : Value) (hsv : a.eval s = v) (l : List α) (hown : OwnT cs sz e w base v l)
    (B : Nat) (A : Option Addr) (m c : Nat) (hx : a.eval x = .slice A m c) (l2 : List α) (hr : RdT cs sz w B A m l2) (hlen : (l.length + m) * bytes ≤ 140737488355328) (hbp : 0 < bytes) (hbase : base ≤ w.heap.size)
    (h : ∀ v' w', OwnT cs sz e w' base v' (l ++ l2) → w.grownBy w' v.ownBlock → (v'.ownBlock = v.ownBlock ∨ v'.ownBlock = some w.heap.size) → wpList P ops Q rest (a.put o.dst v') w') : wpList P ops Q (o :: rest) a w := by
  refine wpList_plain hgd fun K hK => ?_
  obtain ⟨v', w', hrun, h2, h3, h4⟩ := run_appT (P := P) hs h1c hsz w base t o.type e i z bytes ht hi hz hsize hby hzs v l hown B A m c l2 hr hlen hbp hbase
  unfold Oper.wp execOp
  simp only [ho, resolve, invoke, builtin, Sem.run_bind, Sem.run_pure, Result.andThen_ok, List.map_toArray, List.map_cons, List.map_nil, hsv, hx, hrun]
  exact hK _ _ (h v' w' h2 h3 h4)
end
end Go.Proofs.Ytjaacmecniijgaa
