/- Slices that read as lists of integers: the words in which the contracts speak of memory. -/
import Derived.Test.YtjaacmecniijgaaBase
import Derived.Laws.OwnMore
import Derived.Deep.AppendLies
import Derived.Deep.Draws
import Derived.Maps.AppendAt
namespace Go.Proofs.Ytjaacmecniijgaa
set_option linter.unusedVariables false
set_option linter.unusedSimpArgs false
open Go.RowKit

theorem add_block (a : Addr) (n : Nat) : (a.add n).block = a.block := by unfold Addr.add; split <;> rfl
theorem add_add (a : Addr) (i j : Nat) : (a.add i).add j = a.add (i + j) := by
  unfold Addr.add
  by_cases hi : i = 0 <;> by_cases hj : j = 0 <;> simp [hi, hj, Nat.add_assoc]

/-- the range of a kind of integers -/
def inr (k : IntKind) (x : Int) : Prop := (Lit.int k x).wf = true
theorem inr_u8 {x : Int} (h : inr .u8 x) : 0 ≤ x ∧ x ≤ 255 := by
  simpa [inr, Lit.wf, IntKind.min, IntKind.max, IntKind.signed, IntKind.bits] using h
theorem inr_u16 {x : Int} (h : inr .u16 x) : 0 ≤ x ∧ x ≤ 65535 := by
  simpa [inr, Lit.wf, IntKind.min, IntKind.max, IntKind.signed, IntKind.bits] using h
theorem inr_u32 {x : Int} (h : inr .u32 x) : 0 ≤ x ∧ x ≤ 4294967295 := by
  simpa [inr, Lit.wf, IntKind.min, IntKind.max, IntKind.signed, IntKind.bits] using h
theorem inr_u64 {x : Int} (h : inr .u64 x) : 0 ≤ x ∧ x ≤ 18446744073709551615 := by
  simpa [inr, Lit.wf, IntKind.min, IntKind.max, IntKind.signed, IntKind.bits] using h
theorem inr_i64 {x : Int} (h : inr .i64 x) : -9223372036854775808 ≤ x ∧ x ≤ 9223372036854775807 := by
  simpa [inr, Lit.wf, IntKind.min, IntKind.max, IntKind.signed, IntKind.bits] using h
theorem u8_inr {x : Int} (h : 0 ≤ x ∧ x ≤ 255) : inr .u8 x := WalkArith.wf_u8 h
theorem u16_inr {x : Int} (h : 0 ≤ x ∧ x ≤ 65535) : inr .u16 x := WalkArith.wf_u16 h
theorem u32_inr {x : Int} (h : 0 ≤ x ∧ x ≤ 4294967295) : inr .u32 x := WalkArith.wf_u32 h
theorem u64_inr {x : Int} (h : 0 ≤ x ∧ x ≤ 18446744073709551615) : inr .u64 x := WalkArith.wf_u64 h
theorem i64_inr {x : Int} (h : -9223372036854775808 ≤ x ∧ x ≤ 9223372036854775807) : inr .i64 x := WalkArith.wf_i64 h

/-- the slice (A, n) holds the integers l of kind k, below block B -/
structure Rd (k : IntKind) (w : World) (B : Nat) (A : Option Addr) (n : Nat) (l : List Int) : Prop where
  len : l.length = n
  rng : ∀ x, x ∈ l → inr k x
  cel : 0 < n → ∃ b o, A = some ⟨b, o, none⟩ ∧ b < B ∧ ∀ j, j < n → w.cell? ⟨b, o + j, none⟩ = some (.int k (l.getD j 0))

section
variable {k : IntKind} {w w' : World} {B B' n : Nat} {A : Option Addr} {l : List Int}
theorem Rd.nil (k : IntKind) (w : World) (B : Nat) (A : Option Addr) : Rd k w B A 0 [] := ⟨rfl, by simp, fun h => absurd h (by omega)⟩
theorem Rd.at_ {j : Nat} (h : Rd k w B A n l) (hj : j < n) : ∃ b o, A = some ⟨b, o, none⟩ ∧ b < B ∧ w.cell? ⟨b, o + j, none⟩ = some (.int k (l.getD j 0)) ∧ inr k (l.getD j 0) := by
  obtain ⟨b, o, e, hb, hc⟩ := h.cel (by omega)
  refine ⟨b, o, e, hb, hc j hj, h.rng _ ?_⟩
  have hl := h.len
  rw [List.getD_eq_getElem?_getD, List.getElem?_eq_getElem (by omega)]
  exact List.getElem_mem _
theorem Rd.keep (h : Rd k w B A n l) (hk : ∀ p : Addr, p.block < B → w'.cell? p = w.cell? p) : Rd k w' B A n l :=
  ⟨h.len, h.rng, fun hn => by
    obtain ⟨b, o, e, hb, hc⟩ := h.cel hn
    exact ⟨b, o, e, hb, fun j hj => (hk _ hb).trans (hc j hj)⟩⟩
theorem Rd.more (h : Rd k w B A n l) (hB : B ≤ B') : Rd k w B' A n l :=
  ⟨h.len, h.rng, fun hn => by
    obtain ⟨b, o, e, hb, hc⟩ := h.cel hn
    exact ⟨b, o, e, by omega, hc⟩⟩
theorem Rd.below (h : Rd k w B A n l) (hb : Below B w w') : Rd k w' B A n l := h.keep fun _ hp => hb.cell hp
theorem Rd.drew (h : Rd k w B A n l) : Rd k w.drew B A n l := ⟨h.len, h.rng, h.cel⟩
theorem Rd.drewN (h : Rd k w B A n l) (m : Nat) : Rd k (w.drewN m) B A n l := ⟨h.len, h.rng, h.cel⟩
theorem Rd.alloc (h : Rd k w B A n l) (hB : B ≤ w.heap.size) (o : Obj) : Rd k (w.alloc o) B A n l := h.keep fun p hp => World.cell?_alloc_lt w o p (by omega)
theorem Rd.setCell (h : Rd k w B A n l) {p : Addr} (hB : B ≤ p.block) (u : Value) : Rd k (w.setCell p u) B A n l :=
  h.keep fun q hq => World.cell?_setCell_other w p q u (fun e => by subst e; omega)
theorem Rd.grown (h : Rd k w B A n l) {row : Option Nat} (hg : w.grownBy w' row) (hB : B ≤ w.heap.size) (hr : ∀ g, row = some g → B ≤ g) : Rd k w' B A n l :=
  h.keep fun p hp => World.cell?_of_block (hg.block p.block (by omega) (fun e => by have := hr _ e.symm; omega))
theorem Rd.take (h : Rd k w B A n l) {m : Nat} (hm : m ≤ n) : Rd k w B A m (l.take m) := by
  have hl := h.len
  refine ⟨by rw [List.length_take]; omega, fun x hx => h.rng x (List.mem_of_mem_take hx), fun h0 => ?_⟩
  obtain ⟨b, o, e, hb, hc⟩ := h.cel (by omega)
  refine ⟨b, o, e, hb, fun j hj => ?_⟩
  rw [hc j (by omega)]
  simp [List.getD_eq_getElem?_getD, hj]
theorem Rd.drop (h : Rd k w B A n l) {m cap : Nat} (hm : m ≤ n) (hc : n ≤ cap) : Rd k w B (if cap = m then A else A.map (·.add m)) (n - m) (l.drop m) := by
  have hl := h.len
  refine ⟨by rw [List.length_drop, hl], fun x hx => h.rng x (List.mem_of_mem_drop hx), fun h0 => ?_⟩
  obtain ⟨b, o, rfl, hb, hcell⟩ := h.cel (by omega)
  rw [if_neg (by omega)]
  refine ⟨b, o + m, by simp [Addr.add], hb, fun j hj => ?_⟩
  rw [Nat.add_assoc, hcell _ (by omega)]
  simp [List.getD_eq_getElem?_getD]
theorem Rd.cut (h : Rd k w B A n l) {m cap : Nat} (hm : m ≤ n) (hc : n ≤ cap) : ∃ A2, (if cap = m then A else Option.map (fun x => x.add m) A) = A2 ∧ Rd k w B A2 (n - m) (l.drop m) := ⟨_, rfl, h.drop hm hc⟩
theorem Rd.of_own {base : Nat} {e : TypeId} {c : Nat} (h : w.ownsRow base e 1 (.slice A n c) n (l.map (Value.int k))) (hr : ∀ x, x ∈ l → inr k x) : Rd k w w.heap.size A n l := by
  have hl : l.length = n := by have := h.1; simpa using this
  refine ⟨hl, hr, fun hn => ?_⟩
  obtain ⟨g, cap, hv, _, hlt⟩ := h.form hn
  have hA : A = some ⟨g, 0, none⟩ := by injection hv
  subst hA
  refine ⟨g, 0, rfl, hlt, fun j hj => ?_⟩
  have hc := h.cells (g := g) rfl j (.int k (l.getD j 0)) ?_
  · rw [← hc]; simp [Addr.add]; split <;> simp_all
  simp [List.getElem?_eq_getElem (show j < l.length by omega)]
theorem Rd.new (k : IntKind) (w : World) (t : TypeId) (l : List Int) (hr : ∀ x, x ∈ l → inr k x) (cs : Array Value) (hcs : cs = (l.map (Value.int k)).toArray) (n : Nat) (hn : l.length = n) :
    Rd k (w.alloc (.cells cs t)) (w.heap.size + 1) (some ⟨w.heap.size, 0, none⟩) n l := by
  subst hcs
  refine ⟨hn, hr, fun h0 => ⟨_, 0, rfl, by omega, fun j hj => ?_⟩⟩
  rw [cell_of_row _ _ _ _ _ _ (heap_alloc_new w _)]
  simp [List.getElem?_eq_getElem (show j < l.length by omega)]

/-- a row of the call's own that holds the integers l -/
structure Own (k : IntKind) (e : TypeId) (w : World) (base : Nat) (v : Value) (l : List Int) : Prop where
  row : w.ownsRow base e 1 v l.length (l.map (Value.int k))
  rng : ∀ x, x ∈ l → inr k x
theorem bel_after {w W w1 : World} (h : Below w.heap.size w W) (hb : Below W.heap.size W w1) : Below w.heap.size w w1 := h.trans (hb.mono h.size)
theorem bel_alloc (w : World) (o : Obj) : Below w.heap.size w (w.alloc o) := (Below.refl _ _).alloc (Nat.le_refl _) o
theorem bcell {W w1 : World} (hb : Below W.heap.size W w1) : (∀ b o, b < W.heap.size → w1.cell? ⟨b, o, none⟩ = W.cell? ⟨b, o, none⟩) ∧ (∀ b o, b < W.heap.size → w1.frozen? ⟨b, o, none⟩ = W.frozen? ⟨b, o, none⟩) :=
  ⟨fun b o h => hb.cell (p := ⟨b, o, none⟩) h, fun b o h => hb.frozen (p := ⟨b, o, none⟩) h⟩
theorem below_drewN {B : Nat} {a w : World} (h : Below B a w) (n : Nat) : Below B a (w.drewN n) := ⟨h.os, h.tape, h.output, h.size, h.block⟩
theorem Own.nil (k : IntKind) (e : TypeId) (w : World) (base : Nat) : Own k e w base (.slice none 0 0) [] := ⟨World.ownsRow_nil w base e 1, by simp⟩
theorem Own.form {e : TypeId} {v : Value} {base : Nat} (h : Own k e w base v l) {n : Nat} (hn : l.length = n) : ∃ A c, v = .slice A n c ∧ n ≤ c ∧ c ≤ maxLen ∧ Rd k w w.heap.size A n l := by
  subst hn
  have hr := h.row
  rcases hr.2 with ⟨rfl, h0⟩ | ⟨g, cap, cur, rfl, hg, hh, hnc, hcm, hcs, hx⟩
  · have : l = [] := List.length_eq_zero_iff.mp h0
    subst this
    exact ⟨none, 0, rfl, Nat.le_refl _, Nat.zero_le _, Rd.nil _ _ _ _⟩
  · exact ⟨_, cap, rfl, hnc, hcm, Rd.of_own hr h.rng⟩
theorem Own.keep {e : TypeId} {v : Value} {base : Nat} (h : Own k e w base v l) {row : Option Nat} (hg : w.grownBy w' row) (hne : v.ownBlock = none ∨ v.ownBlock ≠ row) : Own k e w' base v l := ⟨h.row.kept hg hne, h.rng⟩
theorem Own.alloc {e : TypeId} {v : Value} {base : Nat} (h : Own k e w base v l) (o : Obj) : Own k e (w.alloc o) base v l := ⟨h.row.alloc o, h.rng⟩
theorem Own.drew {e : TypeId} {v : Value} {base : Nat} (h : Own k e w base v l) : Own k e w.drew base v l := ⟨h.row, h.rng⟩
theorem Own.drewN {e : TypeId} {v : Value} {base : Nat} (h : Own k e w base v l) (n : Nat) : Own k e (w.drewN n) base v l := ⟨h.row, h.rng⟩
theorem Own.below {e : TypeId} {v : Value} {base : Nat} (h : Own k e w base v l) (hb : Below w.heap.size w w') : Own k e w' base v l := by
  refine h.keep (row := none) ⟨hb.os, hb.tape, hb.output, hb.size, fun k hk _ => hb.block k hk⟩ ?_
  cases hv : v.ownBlock
  · exact .inl rfl
  · exact .inr (by simp)
theorem Own.lt {e : TypeId} {v : Value} {base : Nat} (h : Own k e w base v l) : ∀ g, v.ownBlock = some g → base ≤ g ∧ g < w.heap.size := h.row.lt
theorem Own.formG {e : TypeId} {v : Value} {base : Nat} (h : Own k e w base v l) {n : Nat} (hn : l.length = n) (h0 : 0 < n) :
    ∃ g c, v = .slice (some ⟨g, 0, none⟩) n c ∧ n ≤ c ∧ c ≤ maxLen ∧ base ≤ g ∧ g < w.heap.size := by
  subst hn
  rcases h.row.2 with ⟨rfl, h1⟩ | ⟨g, cap, cur, rfl, hg, hh, hnc, hcm, hcs, hx⟩
  · omega
  · exact ⟨g, cap, rfl, hnc, hcm, hg, (h.lt g rfl).2⟩
theorem Own.at_ {e : TypeId} {g n c base : Nat} (h : Own k e w base (.slice (some ⟨g, 0, none⟩) n c) l) (hn : l.length = n) {j : Nat} (hj : j < n) :
    w.cell? ⟨g, j, none⟩ = some (.int k (l.getD j 0)) ∧ w.frozen? ⟨g, j, none⟩ = false ∧ inr k (l.getD j 0) := by
  subst hn
  refine ⟨?_, h.row.frozenAt j, h.rng _ ?_⟩
  · rw [h.row.cellAt j (by omega)]; simp [List.getElem?_eq_getElem hj]
  · rw [List.getD_eq_getElem?_getD, List.getElem?_eq_getElem hj]; exact List.getElem_mem _
theorem Own.set {e : TypeId} {g n c base : Nat} (h : Own k e w base (.slice (some ⟨g, 0, none⟩) n c) l) (hn : l.length = n) (j : Nat) {x : Int} (hx : inr k x) :
    Own k e (w.setCell ⟨g, j, none⟩ (.int k x)) base (.slice (some ⟨g, 0, none⟩) n c) (l.set j x) := by
  subst hn
  refine ⟨?_, fun y hy => ?_⟩
  · have := (h.row.stored j (.int k x)).1
    rw [List.length_set, List.map_set]; exact this
  · rcases List.mem_or_eq_of_mem_set hy with h1 | h1
    · exact h.rng y h1
    · exact h1 ▸ hx
theorem Own.rd {e : TypeId} {g n c base : Nat} (h : Own k e w base (.slice (some ⟨g, 0, none⟩) n c) l) (hn : l.length = n) : Rd k w w.heap.size (some ⟨g, 0, none⟩) n l := by
  obtain ⟨A, c', h1, _, _, h2⟩ := h.form hn
  simp only [Value.slice.injEq] at h1
  exact h1.1 ▸ h2
theorem Own.take {e : TypeId} {g n c base : Nat} (h : Own k e w base (.slice (some ⟨g, 0, none⟩) n c) l) {m : Nat} (hm : m ≤ n) :
    Own k e w base (.slice (some ⟨g, 0, none⟩) m c) (l.take m) := by
  refine ⟨?_, fun x hx => h.rng x (List.mem_of_mem_take hx)⟩
  rcases h.row.2 with ⟨h', _⟩ | ⟨g', cap', cur, h', hb, hg, hnc, hcm, hcs, htake⟩
  · simp at h'
  · simp only [Value.slice.injEq, Option.some.injEq, Addr.mk.injEq, and_true] at h'
    obtain ⟨rfl, hn, rfl⟩ := h'
    have hl : (l.take m).length = m := by rw [List.length_take]; omega
    refine ⟨by simp, .inr ⟨g, c, cur, by rw [hl], hb, hg, by rw [hl]; omega, hcm, hcs, ?_⟩⟩
    rw [hl, List.map_take, ← htake, List.take_take]; congr 1; omega
/-- two rows that share no block -/
def Far (v u : Value) : Prop := ∀ g, v.ownBlock = some g → u.ownBlock ≠ some g
theorem Far.symm {v u : Value} (h : Far v u) : Far u v := fun g hg hv => h g hv hg
theorem Far.nil (u : Value) : Far (.slice none 0 0) u := fun g h => by simp [Value.ownBlock] at h
/-- the second row, kept while the first is appended to -/
theorem Own.far {e e' : TypeId} {k' : IntKind} {v u v' : Value} {base base' : Nat} {l' : List Int} (h : Own k e w base u l) (hg : w.grownBy w' v.ownBlock) (hf : Far v u)
    (hv : v'.ownBlock = v.ownBlock ∨ v'.ownBlock = some w.heap.size) (_ : Own k' e' w' base' v' l') : Own k e w' base u l ∧ Far v' u := by
  refine ⟨h.keep hg ?_, fun g hg' hu => ?_⟩
  · cases hu : u.ownBlock with
    | none => exact .inl rfl
    | some g => exact .inr (fun e => hf g e.symm hu)
  · rcases hv with hv | hv
    · exact hf g (hv ▸ hg') hu
    · have := (h.lt g hu).2; rw [hv] at hg'; injection hg' with hg'; omega
/-- a block that was just laid, with exactly these cells -/
theorem Own.new (k : IntKind) (w : World) (t : TypeId) (base : Nat) (hb : base ≤ w.heap.size) (l : List Int) (hr : ∀ x, x ∈ l → inr k x) (cs : Array Value) (hcs : cs = (l.map (Value.int k)).toArray) (n : Nat) (hn : n = l.length) (hm : l.length ≤ maxLen) :
    Own k t (w.alloc (.cells cs t)) base (.slice (some ⟨w.heap.size, 0, none⟩) n n) l := by
  subst hcs; subst hn
  refine ⟨⟨by simp, .inr ⟨w.heap.size, l.length, _, rfl, hb, heap_alloc_new w _, Nat.le_refl _, hm, by simp, by simp [List.take_of_length_le]⟩⟩, hr⟩

section
variable {P : Program}
/-- 'append(own, src...)': the source is a slice that reads as a list, nil or not -/
theorem run_app (w : World) (k : IntKind) (base : Nat) (t ty e : TypeId) (i : TypeInfo) (z : Value) (bytes : Nat) (ht : P.underlying t = some (.slice e)) (hi : P.info? e = some i) (hz : i.zero = some z)
    (hsize : i.size = 1) (hby : i.bytes = bytes) (hzs : z.cells.size = 1) (v : Value) (l : List Int) (hown : Own k e w base v l)
    (B : Nat) (A : Option Addr) (m c : Nat) (l2 : List Int) (hr : Rd k w B A m l2) (hlen : (l.length + m) * bytes ≤ 140737488355328) (hbp : 0 < bytes) (hbase : base ≤ w.heap.size) :
    ∃ v' w', (Builtin.append_ #[t, t] ty #[v, .slice A m c]).run P w = .ok v' w' ∧ Own k e w' base v' (l ++ l2) ∧ w.grownBy w' v.ownBlock ∧ (v'.ownBlock = v.ownBlock ∨ v'.ownBlock = some w.heap.size) := by
  have hl := hr.len
  have h63 : l.length + m ≤ maxLen := by
    have := Nat.le_mul_of_pos_right (l.length + m) hbp
    unfold maxLen; omega
  have hrng : ∀ x, x ∈ l ++ l2 → inr k x := fun x hx => (List.mem_append.1 hx).elim (hown.rng x) (hr.rng x)
  have main : ∀ ad : Addr, (∀ j u, (l2.map (Value.int k))[j]? = some u → w.cell? (ad.add j) = some u) → ∃ v' w', (Builtin.append_ #[t, t] ty #[v, .slice (some ad) m c]).run P w = .ok v' w' ∧ Own k e w' base v' (l ++ l2) ∧ w.grownBy w' v.ownBlock ∧ (v'.ownBlock = v.ownBlock ∨ v'.ownBlock = some w.heap.size) := by
    intro ad hc
    obtain ⟨v', w', h1, h2, h3, _, h5⟩ := run_append_own_at (P := P) w base t ty e i z 1 bytes ht hi hz hsize hby hzs (by omega) v l.length (l.map (Value.int k)) hown.row ad m c (l2.map (Value.int k)) (by simpa using hl) hc
      (by simp [Value.oneCell']) h63 hlen hbase
    exact ⟨v', w', h1, ⟨by rw [List.length_append, List.map_append, hl]; exact h2, hrng⟩, h3, h5⟩
  rcases Nat.eq_zero_or_pos m with h0 | h0
  · subst h0
    have e2 : l2 = [] := List.length_eq_zero_iff.mp hl
    subst e2
    cases A with
    | some ad => exact main ad (by simp)
    | none =>
      refine ⟨v, w, ?_, by simpa using hown, World.grownBy.refl w _, .inl rfl⟩
      rcases hown.row.2 with ⟨rfl, h⟩ | ⟨g, cap, cur, rfl, _, _, hnc, _⟩
      · simp [Builtin.append_, run_underlying ht, sizeOf, typeInfo, hi, Builtin.lenOf, Builtin.firstCells]
      · simp [Builtin.append_, run_underlying ht, sizeOf, typeInfo, hi, Builtin.lenOf, Builtin.firstCells, hnc, storeCells]
  · obtain ⟨b, o, rfl, hb, hc⟩ := hr.cel h0
    refine main ⟨b, o, none⟩ fun j u hu => ?_
    have hj : j < l2.length := by
      have := List.getElem?_eq_some_iff.1 hu; obtain ⟨h, _⟩ := this; simpa using h
    have := hc j (by omega)
    rw [List.getElem?_map, List.getElem?_eq_getElem hj] at hu
    simp at hu
    subst hu
    rw [List.getD_eq_getElem?_getD, List.getElem?_eq_getElem hj] at this
    simp [Addr.add]
    split
    · rename_i h; subst h; simpa using this
    · simpa using this

theorem wpList_app {ops : Array Oper} {rest : List Oper} {o : Oper} {a : Act} {Q : Exit → Act → World → Prop} (w : World) (hgd : o.guard = none) (s x : Operand) (t : TypeId)
    (ho : o.op = .call { callee := .builtin .append, args := #[s, x], argTypes := #[t, t] }) (k : IntKind)
    (base : Nat) (e : TypeId) (i : TypeInfo) (z : Value) (bytes : Nat) (ht : P.underlying t = some (.slice e)) (hi : P.info? e = some i) (hz : i.zero = some z)
    (hsize : i.size = 1) (hby : i.bytes = bytes) (hzs : z.cells.size = 1) (v : Value) (hs : a.eval s = v) (l : List Int) (hown : Own k e w base v l)
    (B : Nat) (A : Option Addr) (m c : Nat) (hx : a.eval x = .slice A m c) (l2 : List Int) (hr : Rd k w B A m l2) (hlen : (l.length + m) * bytes ≤ 140737488355328) (hbp : 0 < bytes) (hbase : base ≤ w.heap.size)
    (h : ∀ v' w', Own k e w' base v' (l ++ l2) → w.grownBy w' v.ownBlock → (v'.ownBlock = v.ownBlock ∨ v'.ownBlock = some w.heap.size) → wpList P ops Q rest (a.put o.dst v') w') : wpList P ops Q (o :: rest) a w := by
  refine wpList_plain hgd fun K hK => ?_
  obtain ⟨v', w', hrun, h2, h3, h4⟩ := run_app (P := P) w k base t o.type e i z bytes ht hi hz hsize hby hzs v l hown B A m c l2 hr hlen hbp hbase
  unfold Oper.wp execOp
  simp only [ho, resolve, invoke, builtin, Sem.run_bind, Sem.run_pure, Result.andThen_ok, List.map_toArray, List.map_cons, List.map_nil, hs, hx, hrun]
  exact hK _ _ (h v' w' h2 h3 h4)
/-- 'string(b)' -/
theorem conv_rd {w : World} {B : Nat} {A : Option Addr} {n cap : Nat} {l : List Int} (h : Rd .u8 w B A n l) (src e dst : TypeId) (hs : P.underlying src = some (.slice e)) (he : P.underlying e = some (.int .u8)) (hd : P.underlying dst = some .string) :
    (convert src dst (.slice A n cap)).run P w = .ok (.string (strOfNums l)) w := by
  rcases Nat.eq_zero_or_pos n with h0 | h0
  · subst h0
    have : l = [] := List.length_eq_zero_iff.mp h.len
    subst this
    cases A with
    | none => exact run_convert_bytes_nil w src e hs he 0 cap dst hd
    | some ad =>
      have hl : (loadCells ad 0).run P w = .ok ([] : List Value).toArray w := run_loadCells_list (P := P) w ad [] (by simp)
      have := run_convert_bytes_string w src dst e (some ad) 0 cap hs he hd
      rw [this, run_bytesToString w ad 0 cap [] (by simpa using hl), foldl_push_bytes]
      rfl
  · obtain ⟨b, o, rfl, _, hc⟩ := h.cel h0
    exact run_convert_bytes_arg w src e hs he b o n cap l h.len hc dst hd
end
end
end Go.Proofs.Ytjaacmecniijgaa
