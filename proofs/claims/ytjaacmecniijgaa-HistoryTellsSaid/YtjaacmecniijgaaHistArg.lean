/- Events as arguments. -/
import Derived.Test.YtjaacmecniijgaaHist
import Derived.Test.YtjaacmecniijgaaFrameS
namespace Go.Proofs.Ytjaacmecniijgaa
set_option linter.unusedVariables false
set_option linter.unusedSimpArgs false
open Go.RowKit
section
variable {P : Program} {W : World} {e : TypeId} {fs : Array Field} {m i : Nat} {f : Field} {cs : List Value}
theorem fldS_int {k : IntKind} (hf : ∀ (i : Nat) (f : Field), fs[i]? = some f → RdgS P W m f.type ((cs.drop f.offset).take (P.cellsOf f.type)))
    (hi : fs[i]? = some f) (ht : P.underlying f.type = some (.int k)) (hC : P.cellsOf f.type = 1) : ∃ n, cs[f.offset]? = some (.int k n) ∧ inr k n :=
  fld_int (fun i f hi => RdgS.rdg _ _ _ (hf i f hi)) hi ht hC
theorem fldS_bool (hf : ∀ (i : Nat) (f : Field), fs[i]? = some f → RdgS P W m f.type ((cs.drop f.offset).take (P.cellsOf f.type)))
    (hi : fs[i]? = some f) (ht : P.underlying f.type = some .bool) (hC : P.cellsOf f.type = 1) : ∃ b, cs[f.offset]? = some (.bool b) :=
  fld_bool (fun i f hi => RdgS.rdg _ _ _ (hf i f hi)) hi ht hC
theorem fldS_bytes {k : IntKind} (hf : ∀ (i : Nat) (f : Field), fs[i]? = some f → RdgS P W m f.type ((cs.drop f.offset).take (P.cellsOf f.type)))
    (hi : fs[i]? = some f) (ht : P.underlying f.type = some (.slice e)) (he : P.underlying e = some (.int k)) (hCe : P.cellsOf e = 1) (hC : P.cellsOf f.type = 1) (hB : P.bytesOf e = 1) :
    ∃ A len cap l, cs[f.offset]? = some (.slice A len cap) ∧ len ≤ cap ∧ cap ≤ maxLen ∧ len ≤ 140737488355328 ∧ Rd k W W.heap.size A len l := by
  have h := hf i f hi
  rw [hC] at h
  obtain ⟨A, len, cap, l, hcs, h3, h4, h5⟩ := rdg_ints ht he hCe (RdgS.rdg _ _ _ h)
  obtain ⟨A', len', cap', m', hcs', _, _, h6, _⟩ := rdgS_slice ht h
  rw [hcs] at hcs'
  simp only [List.cons.injEq, Value.slice.injEq, and_true] at hcs'
  obtain ⟨rfl, rfl, rfl⟩ := hcs'
  rw [hB] at h6
  refine ⟨A, len, cap, l, ?_, h3, h4, by unfold reachBytes at h6; omega, h5⟩
  have : ((cs.drop f.offset).take 1)[0]? = some (.slice A len cap) := by rw [hcs]; rfl
  simpa using this
end
theorem list11 {l : List Value} {x0 x1 x2 x3 x4 x5 x6 x7 x8 x9 x10 : Value} (h : l.length = 11) (h0 : l[0]? = some x0) (h1 : l[1]? = some x1) (h2 : l[2]? = some x2) (h3 : l[3]? = some x3) (h4 : l[4]? = some x4) (h5 : l[5]? = some x5) (h6 : l[6]? = some x6) (h7 : l[7]? = some x7) (h8 : l[8]? = some x8) (h9 : l[9]? = some x9) (h10 : l[10]? = some x10) : l = [x0, x1, x2, x3, x4, x5, x6, x7, x8, x9, x10] := by
  match l, h with
  | [y0, y1, y2, y3, y4, y5, y6, y7, y8, y9, y10], _ =>
    simp only [List.getElem?_cons_zero, List.getElem?_cons_succ, Option.some.injEq] at h0 h1 h2 h3 h4 h5 h6 h7 h8 h9 h10
    rw [h0, h1, h2, h3, h4, h5, h6, h7, h8, h9, h10]

set_option maxRecDepth 100000 in
theorem ev_of {W : World} {m : Nat} {ys : List Value} (h : RdgS Try.prog W m 35 ys) : ∃ x : En, ys = x.cs ∧ ∃ F G, EnR W x F G ∧ F.length ≤ 140737488355328 ∧ G.length ≤ 140737488355328 := by
  obtain ⟨m1, hl, hf⟩ := rdgS_struct Try.underlying35 h
  have hC : Try.prog.cellsOf 35 = 11 := by kernel_rfl
  have hCc : Try.prog.cellsOf 33 = 4 := by kernel_rfl
  have hCi : Try.prog.cellsOf 3 = 1 := by kernel_rfl
  have hCo : Try.prog.cellsOf 4 = 1 := by kernel_rfl
  have hCb : Try.prog.cellsOf 5 = 1 := by kernel_rfl
  have hCs : Try.prog.cellsOf 24 = 1 := by kernel_rfl
  have hBb : Try.prog.bytesOf 5 = 1 := by kernel_rfl
  obtain ⟨x0, e0, _⟩ := fldS_int (i := 0) hf rfl Try.underlying3 hCi
  obtain ⟨x1, e1, _⟩ := fldS_int (i := 1) hf rfl Try.underlying3 hCi
  obtain ⟨x2, e2⟩ := fldS_bool (i := 2) hf rfl Try.underlying4 hCo
  have hc := hf 3 _ rfl
  obtain ⟨m2, hl2, hf2⟩ := rdgS_struct Try.underlying33 hc
  obtain ⟨y0, c0⟩ := fldS_bool (i := 0) hf2 rfl Try.underlying4 hCo
  obtain ⟨A1, n1, k1, F, c1, a1, a2, a3, a4⟩ := fldS_bytes (i := 1) hf2 rfl Try.underlying24 Try.underlying5 hCb hCs hBb
  obtain ⟨y2, c2, _⟩ := fldS_int (i := 2) hf2 rfl Try.underlying3 hCi
  obtain ⟨y3, c3, _⟩ := fldS_int (i := 3) hf2 rfl Try.underlying3 hCi
  obtain ⟨A2, n2, k2, G, e7, b1, b2, b3, b4⟩ := fldS_bytes (i := 4) hf rfl Try.underlying24 Try.underlying5 hCb hCs hBb
  obtain ⟨x8, e8, _⟩ := fldS_int (i := 5) hf rfl Try.underlying3 hCi
  obtain ⟨x9, e9, _⟩ := fldS_int (i := 6) hf rfl Try.underlying3 hCi
  obtain ⟨x10, e10, _⟩ := fldS_int (i := 7) hf rfl Try.underlying3 hCi
  have sh : ∀ (j : Nat) (v : Value), ((ys.drop 3).take 4)[j]? = some v → ys[3 + j]? = some v := fun j v hv => by
    rw [List.getElem?_take] at hv
    split at hv
    · rwa [List.getElem?_drop] at hv
    · cases hv
  have d0 := sh _ _ c0
  have d1 := sh _ _ c1
  have d2 := sh _ _ c2
  have d3 := sh _ _ c3
  refine ⟨⟨x0, x1, x2, y0, ⟨A1, n1, k1⟩, y2, y3, ⟨A2, n2, k2⟩, x8, x9, x10⟩, list11 (hl.trans hC) e0 e1 e2 d0 d1 d2 d3 e7 e8 e9 e10, F, G, ⟨⟨a4, a1, a2⟩, ⟨b4, b1, b2⟩⟩, by rw [a4.len]; exact a3, by rw [b4.len]; exact b3⟩
set_option maxRecDepth 100000 in
theorem arg_events {W : World} {v : Value} (h : ArgS Try.prog W 22 v) : ∃ (A : Option Addr) (n c : Nat) (l : List En), v = .slice A n c ∧ n ≤ c ∧ c ≤ maxLen ∧ RdT En.cs 11 W W.heap.size A n l ∧ ∀ (j : Nat) x, l[j]? = some x → ∃ F G, EnR W x F G ∧ F.length ≤ 140737488355328 ∧ G.length ≤ 140737488355328 := by
  obtain ⟨A, n, c, m, rfl, h1, h2, h3⟩ := argS_slice Try.underlying22 h
  have hC : Try.prog.cellsOf 35 = 11 := by kernel_rfl
  rw [hC] at h3
  have h4 := sliceS_rows (by omega) h3
  rcases Nat.eq_zero_or_pos n with h0 | h0
  · subst h0
    exact ⟨A, 0, c, [], rfl, h1, h2, RdT.nil _ _ _ _ _, by simp⟩
  · obtain ⟨b, o, rfl, hb, hi⟩ := h4 h0
    have hall : ∀ k, k ≤ n → ∃ l : List En, l.length = k ∧ ∀ (j : Nat) x, l[j]? = some x → (∀ f u, x.cs[f]? = some u → W.cell? ⟨b, o + j * 11 + f, none⟩ = some u) ∧ ∃ F G, EnR W x F G ∧ F.length ≤ 140737488355328 ∧ G.length ≤ 140737488355328 := by
      intro k
      induction k with
      | zero => intro _; exact ⟨[], rfl, by simp⟩
      | succ k ih =>
        intro hk
        obtain ⟨l, hl, hx⟩ := ih (by omega)
        obtain ⟨ys, hy1, hy2, hy3⟩ := hi k (by omega)
        obtain ⟨x, rfl, hx2⟩ := ev_of hy3
        refine ⟨l ++ [x], by simp [hl], fun j y hj => ?_⟩
        rcases Nat.lt_or_ge j k with hlt | hge
        · rw [List.getElem?_append_left (by omega)] at hj
          exact hx j y hj
        · rw [List.getElem?_append_right (by omega)] at hj
          have hjk : j = k := by
            have := (List.getElem?_eq_some_iff.1 hj).1
            simp at this; omega
          subst hjk
          rw [hl, Nat.sub_self] at hj
          simp only [List.getElem?_cons_zero, Option.some.injEq] at hj
          subst hj
          refine ⟨fun f u hu => ?_, hx2⟩
          have hlt : f < 11 := (List.getElem?_eq_some_iff.1 hu).1
          rw [hy1 f hlt]; exact hu
    obtain ⟨l, hl, hx⟩ := hall n (Nat.le_refl _)
    exact ⟨_, n, c, l, rfl, h1, h2, ⟨hl, fun _ => ⟨b, o, rfl, hb, fun j x hj f u hu => (hx j x hj).1 f u hu⟩⟩, fun j x hj => (hx j x hj).2⟩
end Go.Proofs.Ytjaacmecniijgaa
