/- THE ROW's STEP, once for all laws of a seat: a law that returns true and only makes memory meets its row. 'Rdg': what a value of a type looks like in memory. -/
import Derived.Test.YtjaacmecniijgaaMem
import Derived.Test.YtjaacmecniijgaaRows
import Derived.ProofKit
import Derived.OpenShut
import Derived.ShutString
import Derived.ChangeOld
import Derived.Deep.Slices
namespace Go.Proofs.Ytjaacmecniijgaa
set_option linter.unusedVariables false
set_option linter.unusedSimpArgs false
open Go.ChangeShapes Go.WideShapes Go.ChangeAt Go.RowKit Go.Deep

/-- these cells read as a value of type t in world w -/
def Rdg (P : Program) (w : World) : Nat → TypeId → List Value → Prop
  | 0, _, _ => False
  | fuel + 1, t, cs =>
    match P.underlying t with
    | some .bool => ∃ b, cs = [.bool b]
    | some (.int k) => ∃ n, cs = [.int k n] ∧ inr k n
    | some .string => ∃ s : ByteArray, cs = [.string s] ∧ s.size ≤ maxLen
    | some (.slice e) => ∃ A len cap, cs = [.slice A len cap] ∧ len ≤ cap ∧ cap ≤ maxLen ∧ (0 < len → ∃ a, A = some a ∧ ∀ i, i < len → ∃ ys, w.cells? 0 (a.add (i * P.cellsOf e)) (P.cellsOf e) = some ys ∧ Rdg P w fuel e ys)
    | some (.struct fs) => cs.length = P.cellsOf t ∧ ∀ (i : Nat) (f : Field), fs[i]? = some f → Rdg P w fuel f.type ((cs.drop f.offset).take (P.cellsOf f.type))
    | some (.array n e) => cs.length = P.cellsOf t ∧ ∀ i, i < n → Rdg P w fuel e ((cs.drop (i * P.cellsOf e)).take (P.cellsOf e))
    | _ => True

section
variable {H : Type} {enc : TypeId × Value → H} {P : Program} {w : World}
theorem rdg_of_trod : ∀ (fuel : Nat) (t : TypeId) (cs : List Value) (x : DataW H × List MemPlace), DataW.trod enc P w 0 (fun _ => true) true fuel t cs = some x → Rdg P w fuel t cs
  | 0, _, _, _, h => by simp [DataW.trod] at h
  | fuel + 1, t, cs, x, h => by
    unfold Rdg
    split
    · rename_i ht; obtain ⟨b, hb, _⟩ := DataW.trod_bool ht h; exact ⟨b, hb⟩
    · rename_i k ht; obtain ⟨n, hn, _, hw⟩ := DataW.trod_int ht h; exact ⟨n, hn, hw⟩
    · rename_i ht; obtain ⟨s, hs, _, hw⟩ := DataW.trod_string ht h; exact ⟨s, hs, hw⟩
    · rename_i e ht
      rcases DataW.trod_slice ht h with ⟨h0, _⟩ | ⟨a, len, cap, elems, rest, n, hf, hcs, _, hb, hl, hm, hlen, hel, _, _⟩
      · exact ⟨none, 0, 0, h0, Nat.le_refl _, Nat.zero_le _, fun h => absurd h (by omega)⟩
      · obtain rfl : fuel = n := by omega
        refine ⟨some a, len, cap, hcs, hl, hm, fun _ => ⟨a, rfl, fun i hi => ?_⟩⟩
        have h1 := hel i hi
        rw [List.getElem?_eq_getElem (show i < elems.length by omega)] at h1
        obtain ⟨ys, hy1, hy2⟩ := Option.bind_eq_some_iff.1 h1
        exact ⟨ys, hy1, rdg_of_trod fuel e ys _ hy2⟩
    · rename_i fs ht
      obtain ⟨xs, n, hf, _, hl, hxl, hx⟩ := DataW.trod_struct ht h
      obtain rfl : fuel = n := by omega
      refine ⟨hl, fun i f hi => ?_⟩
      have h1 := hx i f hi
      have hlt : i < fs.size := (Array.getElem?_eq_some_iff.1 hi).1
      rw [List.getElem?_eq_getElem (show i < xs.length by omega)] at h1
      exact rdg_of_trod fuel _ _ _ h1
    · rename_i n e ht
      obtain ⟨xs, m, hf, _, hl, hxl, hx⟩ := DataW.trod_array ht h
      obtain rfl : fuel = m := by omega
      refine ⟨hl, fun i hi => ?_⟩
      have h1 := hx i hi
      rw [List.getElem?_eq_getElem (show i < xs.length by omega)] at h1
      exact rdg_of_trod fuel _ _ _ h1
    · trivial

/-- all the arguments -/
def RdgAll (P : Program) (w : World) (ts : List TypeId) (vs : List Value) : Prop :=
  ts.length = vs.length ∧ ∀ (j : Nat) (t : TypeId) (v : Value), ts[j]? = some t → vs[j]? = some v → ∃ fuel, Rdg P w fuel t v.cells.toList

theorem rdgAll_of : ∀ {ts : List TypeId} {vs : List Value} {ds : List (DataW H)} {ps : List MemPlace}, DataW.TrodAll enc P w 0 (fun _ => true) true ts vs ds ps → RdgAll P w ts vs
  | [], [], [], _, _ => ⟨rfl, by simp⟩
  | t :: ts, v :: vs, d :: ds, ps, h => by
    obtain ⟨p, q, ⟨fuel, h1⟩, h2, _⟩ := h
    have ih := rdgAll_of h2
    refine ⟨by simp [ih.1], fun j t' v' ht hv => ?_⟩
    cases j with
    | zero => simp at ht hv; subst ht; subst hv; exact ⟨fuel, rdg_of_trod fuel _ _ _ h1⟩
    | succ j => exact ih.2 j t' v' (by simpa using ht) (by simpa using hv)
  | [], [], _ :: _, _, h => h.elim
  | [], _ :: _, _, _, h => h.elim
  | _ :: _, [], _, _, h => h.elim
  | _ :: _, _ :: _, [], _, h => h.elim

theorem trodAll_below (hl : laidOutB P = true) {W W' : World} (hb : Below W.heap.size W W') : ∀ {ts : List TypeId} {vs : List Value} {ds : List (DataW H)} {ps : List MemPlace},
    (ts.all fun t => P.readableRec t && decide (t < P.types.size)) = true →
    DataW.TrodAll enc P W 0 (fun _ => true) true ts vs ds ps → (∀ x ∈ ps, x.block < W.heap.size) → DataW.TrodAll enc P W' 0 (fun b => decide (b < W.heap.size)) true ts vs ds ps
  | [], [], [], _, _, h, _ => h
  | t :: ts, v :: vs, d :: ds, ps, ha, h, hp => by
    obtain ⟨p, q, h1, h2, rfl⟩ := h
    simp only [List.all_cons, Bool.and_eq_true, decide_eq_true_eq] at ha
    exact ⟨p, q, Below.trod hl ha.1.1 ha.1.2 h1 hb (fun x hx => hp x (List.mem_append_left _ hx)), trodAll_below hl hb ha.2 h2 (fun x hx => hp x (List.mem_append_right _ hx)), rfl⟩
  | [], [], _ :: _, _, _, h, _ => h.elim
  | [], _ :: _, _, _, _, h, _ => h.elim
  | _ :: _, [], _, _, _, h, _ => h.elim
  | _ :: _, _ :: _, [], _, _, h, _ => h.elim

theorem trodAll_lt {W : World} : ∀ {ts : List TypeId} {vs : List Value} {ds : List (DataW H)} {ps : List MemPlace},
    DataW.TrodAll enc P W 0 (fun _ => true) true ts vs ds ps → ∀ x ∈ ps, x.block < W.heap.size
  | [], [], [], ps, h, x, hx => by rw [show ps = [] from h] at hx; cases hx
  | t :: ts, v :: vs, d :: ds, ps, h, x, hx => by
    obtain ⟨p, q, ⟨m, hm⟩, h2, rfl⟩ := h
    rcases List.mem_append.1 hx with h | h
    · exact DataW.trod_lt m _ _ _ hm x h
    · exact trodAll_lt h2 x h
  | [], [], _ :: _, _, h, _, _ => h.elim
  | [], _ :: _, _, _, h, _, _ => h.elim
  | _ :: _, [], _, _, h, _, _ => h.elim
  | _ :: _, _ :: _, [], _, h, _, _ => h.elim
end

/-- an argument of type t: its form, and what it reads as -/
def Arg (P : Program) (W : World) (t : TypeId) (v : Value) : Prop := (∃ base, Value.okWide P W .any base t v) ∧ ∃ fuel, Rdg P W fuel t v.cells.toList
section
variable {P : Program} {W : World} {t e : TypeId} {v : Value}
theorem rdg_int {k : IntKind} {fuel : Nat} {cs : List Value} (ht : P.underlying t = some (.int k)) (h : Rdg P W fuel t cs) : ∃ n, cs = [.int k n] ∧ inr k n := by
  cases fuel with
  | zero => exact h.elim
  | succ m => unfold Rdg at h; rw [ht] at h; exact h
theorem rdg_bool {fuel : Nat} {cs : List Value} (ht : P.underlying t = some .bool) (h : Rdg P W fuel t cs) : ∃ b, cs = [.bool b] := by
  cases fuel with
  | zero => exact h.elim
  | succ m => unfold Rdg at h; rw [ht] at h; exact h
theorem rdg_slice {fuel : Nat} {cs : List Value} (ht : P.underlying t = some (.slice e)) (h : Rdg P W fuel t cs) :
    ∃ A len cap m, cs = [.slice A len cap] ∧ len ≤ cap ∧ cap ≤ maxLen ∧ (0 < len → ∃ a, A = some a ∧ ∀ i, i < len → ∃ ys, W.cells? 0 (a.add (i * P.cellsOf e)) (P.cellsOf e) = some ys ∧ Rdg P W m e ys) := by
  cases fuel with
  | zero => exact h.elim
  | succ m => unfold Rdg at h; rw [ht] at h; obtain ⟨A, len, cap, h1, h2, h3, h4⟩ := h; exact ⟨A, len, cap, m, h1, h2, h3, h4⟩
theorem rdg_struct {fs : Array Field} {fuel : Nat} {cs : List Value} (ht : P.underlying t = some (.struct fs)) (h : Rdg P W fuel t cs) :
    ∃ m, cs.length = P.cellsOf t ∧ ∀ (i : Nat) (f : Field), fs[i]? = some f → Rdg P W m f.type ((cs.drop f.offset).take (P.cellsOf f.type)) := by
  cases fuel with
  | zero => exact h.elim
  | succ m => unfold Rdg at h; rw [ht] at h; exact ⟨m, h⟩
theorem rdg_array {n : Nat} {fuel : Nat} {cs : List Value} (ht : P.underlying t = some (.array n e)) (h : Rdg P W fuel t cs) :
    ∃ m, cs.length = P.cellsOf t ∧ ∀ i, i < n → Rdg P W m e ((cs.drop (i * P.cellsOf e)).take (P.cellsOf e)) := by
  cases fuel with
  | zero => exact h.elim
  | succ m => unfold Rdg at h; rw [ht] at h; exact ⟨m, h⟩
theorem cells_one {a : Addr} {y : Value} (h : W.cells? 0 a 1 = some [y]) : W.cell? a = some y := by
  obtain ⟨_, _, h⟩ := World.cells?_some h
  have := h 0 (by omega)
  simpa [Addr.add] using this
theorem cell_block {a : Addr} {y : Value} (h : W.cell? a = some y) : a.spot = none ∧ a.block < W.heap.size := by
  refine ⟨World.cell?_spot h, ?_⟩
  rcases Nat.lt_or_ge a.block W.heap.size with h1 | h1
  · exact h1
  · simp [World.cell?, Array.getElem?_eq_none h1] at h
theorem rdg_ints {k : IntKind} {fuel : Nat} {cs : List Value} (ht : P.underlying t = some (.slice e)) (he : P.underlying e = some (.int k)) (hC : P.cellsOf e = 1) (h : Rdg P W fuel t cs) :
    ∃ A len cap l, cs = [.slice A len cap] ∧ len ≤ cap ∧ cap ≤ maxLen ∧ Rd k W W.heap.size A len l := by
  obtain ⟨A, len, cap, m, hcs, h1, h2, h3⟩ := rdg_slice ht h
  rcases Nat.eq_zero_or_pos len with h0 | h0
  · subst h0; exact ⟨A, 0, cap, [], hcs, h1, h2, Rd.nil _ _ _ _⟩
  · obtain ⟨a, rfl, hi⟩ := h3 h0
    rw [hC] at hi
    have hx : ∀ i, i < len → ∃ x, W.cell? (a.add i) = some (.int k x) ∧ inr k x := by
      intro i hl
      obtain ⟨ys, hy, hr⟩ := hi i hl
      obtain ⟨n, rfl, hn⟩ := rdg_int he hr
      exact ⟨n, by have := cells_one hy; rwa [Nat.mul_one] at this, hn⟩
    have hall : ∃ l : List Int, l.length = len ∧ ∀ i, i < len → W.cell? (a.add i) = some (.int k (l.getD i 0)) ∧ inr k (l.getD i 0) := by
      have : ∀ n, n ≤ len → ∃ l : List Int, l.length = n ∧ ∀ i, i < n → W.cell? (a.add i) = some (.int k (l.getD i 0)) ∧ inr k (l.getD i 0) := by
        intro n
        induction n with
        | zero => intro _; exact ⟨[], rfl, fun i hi => absurd hi (by omega)⟩
        | succ n ih =>
          intro hn
          obtain ⟨l, hl, hc⟩ := ih (by omega)
          obtain ⟨x, hx1, hx2⟩ := hx n (by omega)
          refine ⟨l ++ [x], by simp [hl], fun i hi => ?_⟩
          rcases Nat.lt_or_ge i n with h | h
          · have := hc i h
            rw [List.getD_eq_getElem?_getD, List.getElem?_append_left (by omega), ← List.getD_eq_getElem?_getD]; exact this
          · obtain rfl : i = n := by omega
            rw [List.getD_eq_getElem?_getD, List.getElem?_append_right (by omega)]
            simp [hl]; exact ⟨hx1, hx2⟩
      exact this len (Nat.le_refl _)
    obtain ⟨l, hl, hc⟩ := hall
    obtain ⟨c0, _⟩ := hc 0 h0
    have hsp := cell_block c0
    have e0 : a.add 0 = a := by simp [Addr.add]
    rw [e0] at hsp
    obtain ⟨b, o, s⟩ := a
    obtain ⟨hs1, hs2⟩ := hsp
    simp only at hs1 hs2
    subst hs1
    refine ⟨_, len, cap, l, hcs, h1, h2, ⟨hl, fun x hx => ?_, fun _ => ⟨b, o, rfl, hs2, fun j hj => ?_⟩⟩⟩
    · obtain ⟨i, hi', rfl⟩ := List.getElem_of_mem hx
      have := (hc i (by omega)).2
      rwa [List.getD_eq_getElem?_getD, List.getElem?_eq_getElem hi'] at this
    · have := (hc j hj).1
      rw [← this]
      simp [Addr.add]; split <;> simp_all
theorem arg_int {k : IntKind} (ht : P.underlying t = some (.int k)) (h : Arg P W t v) : ∃ n, v = .int k n ∧ inr k n := by
  obtain ⟨⟨base, h1⟩, fuel, h2⟩ := h
  obtain ⟨n, rfl⟩ := okWide_int ht h1
  obtain ⟨m, hm, hw⟩ := rdg_int ht h2
  simp [Value.cells] at hm
  exact ⟨n, rfl, hm ▸ hw⟩
theorem arg_bool (ht : P.underlying t = some .bool) (h : Arg P W t v) : ∃ b, v = .bool b := okWide_bool ht h.1.choose_spec
theorem arg_ints {k : IntKind} (ht : P.underlying t = some (.slice e)) (he : P.underlying e = some (.int k)) (hC : P.cellsOf e = 1) (h : Arg P W t v) :
    ∃ A len cap l, v = .slice A len cap ∧ len ≤ cap ∧ cap ≤ maxLen ∧ Rd k W W.heap.size A len l := by
  obtain ⟨⟨base, h1⟩, fuel, h2⟩ := h
  obtain ⟨a, len, cap, rfl⟩ := okWide_slice ht h1
  obtain ⟨A, len', cap', l, hcs, h3, h4, h5⟩ := rdg_ints ht he hC h2
  simp [Value.cells] at hcs
  obtain ⟨rfl, rfl, rfl⟩ := hcs
  exact ⟨_, _, _, l, rfl, h3, h4, h5⟩
theorem arg_slice (ht : P.underlying t = some (.slice e)) (h : Arg P W t v) :
    ∃ A len cap m, v = .slice A len cap ∧ len ≤ cap ∧ cap ≤ maxLen ∧ (0 < len → ∃ a, A = some a ∧ ∀ i, i < len → ∃ ys, W.cells? 0 (a.add (i * P.cellsOf e)) (P.cellsOf e) = some ys ∧ Rdg P W m e ys) := by
  obtain ⟨⟨base, h1⟩, fuel, h2⟩ := h
  obtain ⟨a, len, cap, rfl⟩ := okWide_slice ht h1
  obtain ⟨A, len', cap', m, hcs, h3, h4, h5⟩ := rdg_slice ht h2
  simp [Value.cells] at hcs
  obtain ⟨rfl, rfl, rfl⟩ := hcs
  exact ⟨_, _, _, m, rfl, h3, h4, h5⟩
theorem arg_struct {fs : Array Field} (ht : P.underlying t = some (.struct fs)) (h : Arg P W t v) :
    ∃ cs m, v = .agg cs ∧ cs.size = P.cellsOf t ∧ ∀ (i : Nat) (f : Field), fs[i]? = some f → Rdg P W m f.type ((cs.toList.drop f.offset).take (P.cellsOf f.type)) := by
  obtain ⟨⟨base, h1⟩, fuel, h2⟩ := h
  obtain ⟨cs, rfl, hs⟩ := okWide_struct ht h1
  obtain ⟨m, _, h3⟩ := rdg_struct ht h2
  exact ⟨cs, m, rfl, hs, h3⟩
theorem arg_array {n : Nat} (ht : P.underlying t = some (.array n e)) (h : Arg P W t v) :
    ∃ cs m, v = .agg cs ∧ cs.size = P.cellsOf t ∧ ∀ i, i < n → Rdg P W m e ((cs.toList.drop (i * P.cellsOf e)).take (P.cellsOf e)) := by
  obtain ⟨⟨base, h1⟩, fuel, h2⟩ := h
  have h1' : ∃ cs, v = .agg cs ∧ cs.size = P.cellsOf t := by
    simp only [Value.okWide, ht] at h1
    obtain ⟨cs, h1, h2, _⟩ := h1
    exact ⟨cs, h1, h2⟩
  obtain ⟨cs, rfl, hs⟩ := h1'
  obtain ⟨m, _, h3⟩ := rdg_array ht h2
  exact ⟨cs, m, rfl, hs, h3⟩
theorem slice_rows {A : Option Addr} {len sz m : Nat} (hsz : 0 < sz) (h : 0 < len → ∃ a, A = some a ∧ ∀ i, i < len → ∃ ys, W.cells? 0 (a.add (i * sz)) sz = some ys ∧ Rdg P W m e ys) :
    0 < len → ∃ b o, A = some ⟨b, o, none⟩ ∧ b < W.heap.size ∧ ∀ i, i < len → ∃ ys, (∀ j, j < sz → W.cell? ⟨b, o + i * sz + j, none⟩ = ys[j]?) ∧ ys.length = sz ∧ Rdg P W m e ys := by
  intro hp
  obtain ⟨a, rfl, hi⟩ := h hp
  obtain ⟨y0, h0, _⟩ := hi 0 hp
  obtain ⟨_, hl0, hc0⟩ := World.cells?_some h0
  have c0 := hc0 0 hsz
  have e0 : (a.add (0 * sz)).add 0 = a := by simp [Addr.add]
  rw [e0, List.getElem?_eq_getElem (by omega)] at c0
  obtain ⟨hs1, hs2⟩ := cell_block c0
  obtain ⟨b, o, s⟩ := a
  simp only at hs1 hs2
  subst hs1
  refine ⟨b, o, rfl, hs2, fun i hil => ?_⟩
  obtain ⟨ys, hy, hr⟩ := hi i hil
  obtain ⟨_, hl, hc⟩ := World.cells?_some hy
  refine ⟨ys, fun j hj => ?_, hl, hr⟩
  rw [← hc j hj]
  congr 1
  rw [add_add]
  unfold Addr.add; split
  · rename_i h; rw [Nat.add_assoc, h]; rfl
  · rw [Nat.add_assoc]
theorem fld_int {k : IntKind} {fs : Array Field} {m i : Nat} {f : Field} {cs : List Value} (hf : ∀ (i : Nat) (f : Field), fs[i]? = some f → Rdg P W m f.type ((cs.drop f.offset).take (P.cellsOf f.type)))
    (hi : fs[i]? = some f) (ht : P.underlying f.type = some (.int k)) (hC : P.cellsOf f.type = 1) : ∃ n, cs[f.offset]? = some (.int k n) ∧ inr k n := by
  have h := hf i f hi
  rw [hC] at h
  obtain ⟨n, hn, hr⟩ := rdg_int ht h
  refine ⟨n, ?_, hr⟩
  have : ((cs.drop f.offset).take 1)[0]? = some (.int k n) := by rw [hn]; rfl
  simpa using this
theorem fld_bool {fs : Array Field} {m i : Nat} {f : Field} {cs : List Value} (hf : ∀ (i : Nat) (f : Field), fs[i]? = some f → Rdg P W m f.type ((cs.drop f.offset).take (P.cellsOf f.type)))
    (hi : fs[i]? = some f) (ht : P.underlying f.type = some .bool) (hC : P.cellsOf f.type = 1) : ∃ b, cs[f.offset]? = some (.bool b) := by
  have h := hf i f hi
  rw [hC] at h
  obtain ⟨n, hn⟩ := rdg_bool ht h
  refine ⟨n, ?_⟩
  have : ((cs.drop f.offset).take 1)[0]? = some (.bool n) := by rw [hn]; rfl
  simpa using this
theorem args1 {args : Array Value} (h : args.size = 1) : ∃ a, args = #[a] := by
  obtain ⟨l⟩ := args; match l, h with | [a], _ => exact ⟨a, rfl⟩
theorem args2 {args : Array Value} (h : args.size = 2) : ∃ a b, args = #[a, b] := by
  obtain ⟨l⟩ := args; match l, h with | [a, b], _ => exact ⟨a, b, rfl⟩
theorem args3 {args : Array Value} (h : args.size = 3) : ∃ a b c, args = #[a, b, c] := by
  obtain ⟨l⟩ := args; match l, h with | [a, b, c], _ => exact ⟨a, b, c, rfl⟩
theorem args4 {args : Array Value} (h : args.size = 4) : ∃ a b c d, args = #[a, b, c, d] := by
  obtain ⟨l⟩ := args; match l, h with | [a, b, c, d], _ => exact ⟨a, b, c, d, rfl⟩
end

theorem own_ : ownKnob Try.prog.godebug = none := by kernel_rfl
theorem laidOut : laidOutB Try.prog = true := by kernel_rfl

set_option maxRecDepth 100000 in
/-- THE LAW's STEP: from the walk to the row's -/
theorem law_lifted {fid : FuncId} {f : Func} {spec : ChangeSpec} {dom : List PathCond} (os : Os) (started : os.Started) (H : Type) (enc : TypeId × Value → H)
    (hinit : Try.prog.inits.idxOf? fid = none) (hfn : Try.prog.funcs[fid]? = some f) (hres : f.resultTypes = #[4]) (hvars : spec.vars = [])
    (hspec : ∀ (H : Type) (ds : List (DataW H)), ds.length = f.params.size → (spec.fn H (ds ++ [])).results = [.lit (.bool true)] ∧ (spec.fn H (ds ++ [])).args = ds ∧ (spec.fn H (ds ++ [])).vars = [])
    (hread : (f.params.toList.all fun t => Try.prog.readableRec t && decide (t < Try.prog.types.size)) = true)
    (witness : ∃ (w : World) (tape : Tape) (i : Input), w.os = os ∧ (w.forCall tape i).Shaped Try.prog ∧ i.vars = [] ∧ Input.okWide Try.prog (w.forCall tape i) .any w.heap.size fid i ∧
      spec.pre6 enc Try.prog f dom false (w.forCall tape i).memory i.args ∧ Assume.holds {} Try.prog (lone (Frame.enter Try.prog fid i.args .normal) [] (w.forCall tape i)))
    (walk : ∀ (W : World) (args : Array Value), args.size = f.params.size → (∀ (j : Nat) t v, f.params[j]? = some t → args[j]? = some v → Arg Try.prog W t v) →
      Calls Try.prog fid args W fun e W' => e = .returned (.bool true) ∧ Below W.heap.size W W') :
    ReturnsInHanded {} Try.checked os fid .any (spec.pre6 enc Try.prog f dom false) (spec.post enc Try.prog f false true false false) := by
  refine returnsInHanded_of_change (C := Try.checked) own_ started hinit hfn witness ?_
  intro W base args ds gs before hval0 hW hcnd _
  have hW' := hW
  obtain ⟨p, q, hA0, hV, rfl, hfz, hnd⟩ := hW
  rw [hvars] at hV
  obtain ⟨rfl, rfl⟩ := trodVars_none hV
  have hA : DataW.TrodAll enc Try.prog W 0 (fun _ => true) true f.params.toList args.toList ds p := hA0
  have hlen : ds.length = f.params.size := by
    have : ∀ {ts : List TypeId} {vs : List Value} {ds : List (DataW H)} {ps : List MemPlace}, DataW.TrodAll enc Try.prog W 0 (fun _ => true) true ts vs ds ps → ds.length = ts.length := by
      intro ts
      induction ts with
      | nil => intro vs ds ps h; cases vs <;> cases ds <;> simp [DataW.TrodAll] at h ⊢
      | cons t ts ih =>
        intro vs ds ps h
        cases vs with
        | nil => exact h.elim
        | cons v vs =>
          cases ds with
          | nil => exact h.elim
          | cons d ds => obtain ⟨p, q, _, h2, _⟩ := h; simp [ih h2]
    simpa using this hA
  obtain ⟨s1, s2, s3⟩ := hspec H ds hlen
  have hR := rdgAll_of hA
  refine (walk W args (by simpa using hR.1.symm) (fun j t v h1 h2 => ⟨⟨base, hval0 j t v h1 h2⟩, hR.2 j t v (by simpa using h1) (by simpa using h2)⟩)).mono fun e W' ⟨he, bel⟩ => ?_
  subst he
  refine ⟨_, rfl, ds, [], p ++ [], [], p, [], hW', ?_, ?_, ?_, bel.frame _, fun h => by cases h⟩
  · rw [s1, hres]
    exact trodAll_mk1 (shut_bool Try.underlying4 _)
  · rw [s2]
    exact trodAll_below laidOut bel hread hA (trodAll_lt hA)
  · rw [hvars, s3]
    rfl
end Go.Proofs.Ytjaacmecniijgaa
