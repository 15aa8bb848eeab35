/- What the laws' proofs lean on: plain facts and contracts of the program's functions, laid together (7). -/
import Derived.Test.YtbckoohljkmahaaGreatPa01
import Derived.Test.YtbckoohljkmahaaGreatRows
import Derived.ProofKit
import Derived.OpenShut
import Derived.ShutString
import Derived.ChangeOld
import Derived.Deep.Slices
import Derived.Test.YtbckoohljkmahaaGreatPa06
import Derived.Maps.OwnOps
import Derived.Maps.OwnSet
import Derived.Maps.Views
import Derived.DeepKeys5
import Derived.Test.YtbckoohljkmahaaGreatPa02
namespace Go.Proofs.YtbckoohljkmahaaGreat
set_option linter.unusedVariables false
set_option linter.unusedSimpArgs false
open Go.ChangeShapes Go.WideShapes Go.ChangeAt Go.RowKit Go.Deep

/-- these cells read as a value of type t in world w -/
def Rdg (P : Program) (w : World) : Nat → TypeId → List Value → Prop
  | 0, _, _ => False
  | fuel + 1, t, cs =>
    match P.underlying t with
    | some .bool => ∃ b, cs = [.bool b]
    | some (.int k) => ∃ n, cs = [.int k n] ∧ inr k n
    | some .string => ∃ s : ByteArray, cs = [.string s] ∧ s.size ≤ maxLen
    | some (.slice e) => ∃ A len cap, cs = [.slice A len cap] ∧ len ≤ cap ∧ cap ≤ maxLen ∧ (0 < len → ∃ a, A = some a ∧ ∀ i, i < len → ∃ ys, w.cells? 0 (a.add (i * P.cellsOf e)) (P.cellsOf e) = some ys ∧ Rdg P w fuel e ys)
    | some (.struct fs) => cs.length = P.cellsOf t ∧ ∀ (i : Nat) (f : Field), fs[i]? = some f → Rdg P w fuel f.type ((cs.drop f.offset).take (P.cellsOf f.type))
    | some (.array n e) => cs.length = P.cellsOf t ∧ ∀ i, i < n → Rdg P w fuel e ((cs.drop (i * P.cellsOf e)).take (P.cellsOf e))
    | _ => True

section
variable {H : Type} {enc : TypeId × Value → H} {P : Program} {w : World}
theorem rdg_of_trod : ∀ (fuel : Nat) (t : TypeId) (cs : List Value) (x : DataW H × List MemPlace), DataW.trod enc P w 0 (fun _ => true) true fuel t cs = some x → Rdg P w fuel t cs
  | 0, _, _, _, h => by simp [DataW.trod] at h
  | fuel + 1, t, cs, x, h => by
    unfold Rdg
    split
    · rename_i ht; obtain ⟨b, hb, _⟩ := DataW.trod_bool ht h; exact ⟨b, hb⟩
    · rename_i k ht; obtain ⟨n, hn, _, hw⟩ := DataW.trod_int ht h; exact ⟨n, hn, hw⟩
    · rename_i ht; obtain ⟨s, hs, _, hw⟩ := DataW.trod_string ht h; exact ⟨s, hs, hw⟩
    · rename_i e ht
      rcases DataW.trod_slice ht h with ⟨h0, _⟩ | ⟨a, len, cap, elems, rest, n, hf, hcs, _, hb, hl, hm, hlen, hel, _, _⟩
      · exact ⟨none, 0, 0, h0, Nat.le_refl _, Nat.zero_le _, fun h => absurd h (by omega)⟩
      · obtain rfl : fuel = n := by omega
        refine ⟨some a, len, cap, hcs, hl, hm, fun _ => ⟨a, rfl, fun i hi => ?_⟩⟩
        have h1 := hel i hi
        rw [List.getElem?_eq_getElem (show i < elems.length by omega)] at h1
        obtain ⟨ys, hy1, hy2⟩ := Option.bind_eq_some_iff.1 h1
        exact ⟨ys, hy1, rdg_of_trod fuel e ys _ hy2⟩
    · rename_i fs ht
      obtain ⟨xs, n, hf, _, hl, hxl, hx⟩ := DataW.trod_struct ht h
      obtain rfl : fuel = n := by omega
      refine ⟨hl, fun i f hi => ?_⟩
      have h1 := hx i f hi
      have hlt : i < fs.size := (Array.getElem?_eq_some_iff.1 hi).1
      rw [List.getElem?_eq_getElem (show i < xs.length by omega)] at h1
      exact rdg_of_trod fuel _ _ _ h1
    · rename_i n e ht
      obtain ⟨xs, m, hf, _, hl, hxl, hx⟩ := DataW.trod_array ht h
      obtain rfl : fuel = m := by omega
      refine ⟨hl, fun i hi => ?_⟩
      have h1 := hx i hi
      rw [List.getElem?_eq_getElem (show i < xs.length by omega)] at h1
      exact rdg_of_trod fuel _ _ _ h1
    · trivial

/-- all the arguments -/
def RdgAll (P : Program) (w : World) (ts : List TypeId) (vs : List Value) : Prop :=
  ts.length = vs.length ∧ ∀ (j : Nat) (t : TypeId) (v : Value), ts[j]? = some t → vs[j]? = some v → ∃ fuel, Rdg P w fuel t v.cells.toList

theorem rdgAll_of : ∀ {ts : List TypeId} {vs : List Value} {ds : List (DataW H)} {ps : List MemPlace}, DataW.TrodAll enc P w 0 (fun _ => true) true ts vs ds ps → RdgAll P w ts vs
  | [], [], [], _, _ => ⟨rfl, by simp⟩
  | t :: ts, v :: vs, d :: ds, ps, h => by
    obtain ⟨p, q, ⟨fuel, h1⟩, h2, _⟩ := h
    have ih := rdgAll_of h2
    refine ⟨by simp [ih.1], fun j t' v' ht hv => ?_⟩
    cases j with
    | zero => simp at ht hv; subst ht; subst hv; exact ⟨fuel, rdg_of_trod fuel _ _ _ h1⟩
    | succ j => exact ih.2 j t' v' (by simpa using ht) (by simpa using hv)
  | [], [], _ :: _, _, h => h.elim
  | [], _ :: _, _, _, h => h.elim
  | _ :: _, [], _, _, h => h.elim
  | _ :: _, _ :: _, [], _, h => h.elim

theorem trodAll_below (hl : laidOutB P = true) {W W' : World} (hb : Below W.heap.size W W') : ∀ {ts : List TypeId} {vs : List Value} {ds : List (DataW H)} {ps : List MemPlace},
    (ts.all fun t => P.readableRec t && decide (t < P.types.size)) = true →
    DataW.TrodAll enc P W 0 (fun _ => true) true ts vs ds ps → (∀ x ∈ ps, x.block < W.heap.size) → DataW.TrodAll enc P W' 0 (fun b => decide (b < W.heap.size)) true ts vs ds ps
  | [], [], [], _, _, h, _ => h
  | t :: ts, v :: vs, d :: ds, ps, ha, h, hp => by
    obtain ⟨p, q, h1, h2, rfl⟩ := h
    simp only [List.all_cons, Bool.and_eq_true, decide_eq_true_eq] at ha
    exact ⟨p, q, Below.trod hl ha.1.1 ha.1.2 h1 hb (fun x hx => hp x (List.mem_append_left _ hx)), trodAll_below hl hb ha.2 h2 (fun x hx => hp x (List.mem_append_right _ hx)), rfl⟩
  | [], [], _ :: _, _, _, h, _ => h.elim
  | [], _ :: _, _, _, _, h, _ => h.elim
  | _ :: _, [], _, _, _, h, _ => h.elim
  | _ :: _, _ :: _, [], _, _, h, _ => h.elim

theorem trodAll_lt {W : World} : ∀ {ts : List TypeId} {vs : List Value} {ds : List (DataW H)} {ps : List MemPlace},
    DataW.TrodAll enc P W 0 (fun _ => true) true ts vs ds ps → ∀ x ∈ ps, x.block < W.heap.size
  | [], [], [], ps, h, x, hx => by rw [show ps = [] from h] at hx; cases hx
  | t :: ts, v :: vs, d :: ds, ps, h, x, hx => by
    obtain ⟨p, q, ⟨m, hm⟩, h2, rfl⟩ := h
    rcases List.mem_append.1 hx with h | h
    · exact DataW.trod_lt m _ _ _ hm x h
    · exact trodAll_lt h2 x h
  | [], [], _ :: _, _, h, _, _ => h.elim
  | [], _ :: _, _, _, h, _, _ => h.elim
  | _ :: _, [], _, _, h, _, _ => h.elim
  | _ :: _, _ :: _, [], _, h, _, _ => h.elim
end

/-- an argument of type t: its form, and what it reads as -/
def Arg (P : Program) (W : World) (t : TypeId) (v : Value) : Prop := (∃ base, Value.okWide P W .any base t v) ∧ ∃ fuel, Rdg P W fuel t v.cells.toList
section
variable {P : Program} {W : World} {t e : TypeId} {v : Value}
theorem rdg_int {k : IntKind} {fuel : Nat} {cs : List Value} (ht : P.underlying t = some (.int k)) (h : Rdg P W fuel t cs) : ∃ n, cs = [.int k n] ∧ inr k n := by
  cases fuel with
  | zero => exact h.elim
  | succ m => unfold Rdg at h; rw [ht] at h; exact h
theorem rdg_bool {fuel : Nat} {cs : List Value} (ht : P.underlying t = some .bool) (h : Rdg P W fuel t cs) : ∃ b, cs = [.bool b] := by
  cases fuel with
  | zero => exact h.elim
  | succ m => unfold Rdg at h; rw [ht] at h; exact h
theorem rdg_slice {fuel : Nat} {cs : List Value} (ht : P.underlying t = some (.slice e)) (h : Rdg P W fuel t cs) :
    ∃ A len cap m, cs = [.slice A len cap] ∧ len ≤ cap ∧ cap ≤ maxLen ∧ (0 < len → ∃ a, A = some a ∧ ∀ i, i < len → ∃ ys, W.cells? 0 (a.add (i * P.cellsOf e)) (P.cellsOf e) = some ys ∧ Rdg P W m e ys) := by
  cases fuel with
  | zero => exact h.elim
  | succ m => unfold Rdg at h; rw [ht] at h; obtain ⟨A, len, cap, h1, h2, h3, h4⟩ := h; exact ⟨A, len, cap, m, h1, h2, h3, h4⟩
theorem rdg_struct {fs : Array Field} {fuel : Nat} {cs : List Value} (ht : P.underlying t = some (.struct fs)) (h : Rdg P W fuel t cs) :
    ∃ m, cs.length = P.cellsOf t ∧ ∀ (i : Nat) (f : Field), fs[i]? = some f → Rdg P W m f.type ((cs.drop f.offset).take (P.cellsOf f.type)) := by
  cases fuel with
  | zero => exact h.elim
  | succ m => unfold Rdg at h; rw [ht] at h; exact ⟨m, h⟩
theorem cells_one {a : Addr} {y : Value} (h : W.cells? 0 a 1 = some [y]) : W.cell? a = some y := by
  obtain ⟨_, _, h⟩ := World.cells?_some h
  have := h 0 (by omega)
  simpa [Addr.add] using this
theorem cell_block {a : Addr} {y : Value} (h : W.cell? a = some y) : a.spot = none ∧ a.block < W.heap.size := by
  refine ⟨World.cell?_spot h, ?_⟩
  rcases Nat.lt_or_ge a.block W.heap.size with h1 | h1
  · exact h1
  · simp [World.cell?, Array.getElem?_eq_none h1] at h
theorem rdg_ints {k : IntKind} {fuel : Nat} {cs : List Value} (ht : P.underlying t = some (.slice e)) (he : P.underlying e = some (.int k)) (hC : P.cellsOf e = 1) (h : Rdg P W fuel t cs) :
    ∃ A len cap l, cs = [.slice A len cap] ∧ len ≤ cap ∧ cap ≤ maxLen ∧ Rd k W W.heap.size A len l := by
  obtain ⟨A, len, cap, m, hcs, h1, h2, h3⟩ := rdg_slice ht h
  rcases Nat.eq_zero_or_pos len with h0 | h0
  · subst h0; exact ⟨A, 0, cap, [], hcs, h1, h2, Rd.nil _ _ _ _⟩
  · obtain ⟨a, rfl, hi⟩ := h3 h0
    rw [hC] at hi
    have hx : ∀ i, i < len → ∃ x, W.cell? (a.add i) = some (.int k x) ∧ inr k x := by
      intro i hl
      obtain ⟨ys, hy, hr⟩ := hi i hl
      obtain ⟨n, rfl, hn⟩ := rdg_int he hr
      exact ⟨n, by have := cells_one hy; rwa [Nat.mul_one] at this, hn⟩
    have hall : ∃ l : List Int, l.length = len ∧ ∀ i, i < len → W.cell? (a.add i) = some (.int k (l.getD i 0)) ∧ inr k (l.getD i 0) := by
      have : ∀ n, n ≤ len → ∃ l : List Int, l.length = n ∧ ∀ i, i < n → W.cell? (a.add i) = some (.int k (l.getD i 0)) ∧ inr k (l.getD i 0) := by
        intro n
        induction n with
        | zero => intro _; exact ⟨[], rfl, fun i hi => absurd hi (by omega)⟩
        | succ n ih =>
          intro hn
          obtain ⟨l, hl, hc⟩ := ih (by omega)
          obtain ⟨x, hx1, hx2⟩ := hx n (by omega)
          refine ⟨l ++ [x], by simp [hl], fun i hi => ?_⟩
          rcases Nat.lt_or_ge i n with h | h
          · have := hc i h
            rw [List.getD_eq_getElem?_getD, List.getElem?_append_left (by omega), ← List.getD_eq_getElem?_getD]; exact this
          · obtain rfl : i = n := by omega
            rw [List.getD_eq_getElem?_getD, List.getElem?_append_right (by omega)]
            simp [hl]; exact ⟨hx1, hx2⟩
      exact this len (Nat.le_refl _)
    obtain ⟨l, hl, hc⟩ := hall
    obtain ⟨c0, _⟩ := hc 0 h0
    have hsp := cell_block c0
    have e0 : a.add 0 = a := by simp [Addr.add]
    rw [e0] at hsp
    obtain ⟨b, o, s⟩ := a
    obtain ⟨hs1, hs2⟩ := hsp
    simp only at hs1 hs2
    subst hs1
    refine ⟨_, len, cap, l, hcs, h1, h2, ⟨hl, fun x hx => ?_, fun _ => ⟨b, o, rfl, hs2, fun j hj => ?_⟩⟩⟩
    · obtain ⟨i, hi', rfl⟩ := List.getElem_of_mem hx
      have := (hc i (by omega)).2
      rwa [List.getD_eq_getElem?_getD, List.getElem?_eq_getElem hi'] at this
    · have := (hc j hj).1
      rw [← this]
      simp [Addr.add]; split <;> simp_all
theorem arg_int {k : IntKind} (ht : P.underlying t = some (.int k)) (h : Arg P W t v) : ∃ n, v = .int k n ∧ inr k n := by
  obtain ⟨⟨base, h1⟩, fuel, h2⟩ := h
  obtain ⟨n, rfl⟩ := okWide_int ht h1
  obtain ⟨m, hm, hw⟩ := rdg_int ht h2
  simp [Value.cells] at hm
  exact ⟨n, rfl, hm ▸ hw⟩
theorem arg_ints {k : IntKind} (ht : P.underlying t = some (.slice e)) (he : P.underlying e = some (.int k)) (hC : P.cellsOf e = 1) (h : Arg P W t v) :
    ∃ A len cap l, v = .slice A len cap ∧ len ≤ cap ∧ cap ≤ maxLen ∧ Rd k W W.heap.size A len l := by
  obtain ⟨⟨base, h1⟩, fuel, h2⟩ := h
  obtain ⟨a, len, cap, rfl⟩ := okWide_slice ht h1
  obtain ⟨A, len', cap', l, hcs, h3, h4, h5⟩ := rdg_ints ht he hC h2
  simp [Value.cells] at hcs
  obtain ⟨rfl, rfl, rfl⟩ := hcs
  exact ⟨_, _, _, l, rfl, h3, h4, h5⟩
theorem arg_slice (ht : P.underlying t = some (.slice e)) (h : Arg P W t v) :
    ∃ A len cap m, v = .slice A len cap ∧ len ≤ cap ∧ cap ≤ maxLen ∧ (0 < len → ∃ a, A = some a ∧ ∀ i, i < len → ∃ ys, W.cells? 0 (a.add (i * P.cellsOf e)) (P.cellsOf e) = some ys ∧ Rdg P W m e ys) := by
  obtain ⟨⟨base, h1⟩, fuel, h2⟩ := h
  obtain ⟨a, len, cap, rfl⟩ := okWide_slice ht h1
  obtain ⟨A, len', cap', m, hcs, h3, h4, h5⟩ := rdg_slice ht h2
  simp [Value.cells] at hcs
  obtain ⟨rfl, rfl, rfl⟩ := hcs
  exact ⟨_, _, _, m, rfl, h3, h4, h5⟩
theorem arg_struct {fs : Array Field} (ht : P.underlying t = some (.struct fs)) (h : Arg P W t v) :
    ∃ cs m, v = .agg cs ∧ cs.size = P.cellsOf t ∧ ∀ (i : Nat) (f : Field), fs[i]? = some f → Rdg P W m f.type ((cs.toList.drop f.offset).take (P.cellsOf f.type)) := by
  obtain ⟨⟨base, h1⟩, fuel, h2⟩ := h
  obtain ⟨cs, rfl, hs⟩ := okWide_struct ht h1
  obtain ⟨m, _, h3⟩ := rdg_struct ht h2
  exact ⟨cs, m, rfl, hs, h3⟩
theorem slice_rows {A : Option Addr} {len sz m : Nat} (hsz : 0 < sz) (h : 0 < len → ∃ a, A = some a ∧ ∀ i, i < len → ∃ ys, W.cells? 0 (a.add (i * sz)) sz = some ys ∧ Rdg P W m e ys) :
    0 < len → ∃ b o, A = some ⟨b, o, none⟩ ∧ b < W.heap.size ∧ ∀ i, i < len → ∃ ys, (∀ j, j < sz → W.cell? ⟨b, o + i * sz + j, none⟩ = ys[j]?) ∧ ys.length = sz ∧ Rdg P W m e ys := by
  intro hp
  obtain ⟨a, rfl, hi⟩ := h hp
  obtain ⟨y0, h0, _⟩ := hi 0 hp
  obtain ⟨_, hl0, hc0⟩ := World.cells?_some h0
  have c0 := hc0 0 hsz
  have e0 : (a.add (0 * sz)).add 0 = a := by simp [Addr.add]
  rw [e0, List.getElem?_eq_getElem (by omega)] at c0
  obtain ⟨hs1, hs2⟩ := cell_block c0
  obtain ⟨b, o, s⟩ := a
  simp only at hs1 hs2
  subst hs1
  refine ⟨b, o, rfl, hs2, fun i hil => ?_⟩
  obtain ⟨ys, hy, hr⟩ := hi i hil
  obtain ⟨_, hl, hc⟩ := World.cells?_some hy
  refine ⟨ys, fun j hj => ?_, hl, hr⟩
  rw [← hc j hj]
  congr 1
  rw [add_add]
  unfold Addr.add; split
  · rename_i h; rw [Nat.add_assoc, h]; rfl
  · rw [Nat.add_assoc]
theorem fld_int {k : IntKind} {fs : Array Field} {m i : Nat} {f : Field} {cs : List Value} (hf : ∀ (i : Nat) (f : Field), fs[i]? = some f → Rdg P W m f.type ((cs.drop f.offset).take (P.cellsOf f.type)))
    (hi : fs[i]? = some f) (ht : P.underlying f.type = some (.int k)) (hC : P.cellsOf f.type = 1) : ∃ n, cs[f.offset]? = some (.int k n) ∧ inr k n := by
  have h := hf i f hi
  rw [hC] at h
  obtain ⟨n, hn, hr⟩ := rdg_int ht h
  refine ⟨n, ?_, hr⟩
  have : ((cs.drop f.offset).take 1)[0]? = some (.int k n) := by rw [hn]; rfl
  simpa using this
theorem fld_bool {fs : Array Field} {m i : Nat} {f : Field} {cs : List Value} (hf : ∀ (i : Nat) (f : Field), fs[i]? = some f → Rdg P W m f.type ((cs.drop f.offset).take (P.cellsOf f.type)))
    (hi : fs[i]? = some f) (ht : P.underlying f.type = some .bool) (hC : P.cellsOf f.type = 1) : ∃ b, cs[f.offset]? = some (.bool b) := by
  have h := hf i f hi
  rw [hC] at h
  obtain ⟨n, hn⟩ := rdg_bool ht h
  refine ⟨n, ?_⟩
  have : ((cs.drop f.offset).take 1)[0]? = some (.bool n) := by rw [hn]; rfl
  simpa using this
theorem args1 {args : Array Value} (h : args.size = 1) : ∃ a, args = #[a] := by
  obtain ⟨l⟩ := args; match l, h with | [a], _ => exact ⟨a, rfl⟩
theorem args2 {args : Array Value} (h : args.size = 2) : ∃ a b, args = #[a, b] := by
  obtain ⟨l⟩ := args; match l, h with | [a, b], _ => exact ⟨a, b, rfl⟩
theorem args3 {args : Array Value} (h : args.size = 3) : ∃ a b c, args = #[a, b, c] := by
  obtain ⟨l⟩ := args; match l, h with | [a, b, c], _ => exact ⟨a, b, c, rfl⟩
end

theorem own_ : ownKnob Tryz.prog.godebug = none := by kernel_rfl
theorem laidOut : laidOutB Tryz.prog = true := by kernel_rfl

set_option maxRecDepth 100000 in
/-- THE LAW's STEP: from the walk to the row's -/
theorem law_lifted {fid : FuncId} {f : Func} {spec : ChangeSpec} {dom : List PathCond} (os : Os) (started : os.Started) (H : Type) (enc : TypeId × Value → H)
    (hinit : Tryz.prog.inits.idxOf? fid = none) (hfn : Tryz.prog.funcs[fid]? = some f) (hres : f.resultTypes = #[4]) (hvars : spec.vars = [])
    (hspec : ∀ (H : Type) (ds : List (DataW H)), ds.length = f.params.size → (spec.fn H (ds ++ [])).results = [.lit (.bool true)] ∧ (spec.fn H (ds ++ [])).args = ds ∧ (spec.fn H (ds ++ [])).vars = [])
    (hread : (f.params.toList.all fun t => Tryz.prog.readableRec t && decide (t < Tryz.prog.types.size)) = true)
    (witness : ∃ (w : World) (tape : Tape) (i : Input), w.os = os ∧ (w.forCall tape i).Shaped Tryz.prog ∧ i.vars = [] ∧ Input.okWide Tryz.prog (w.forCall tape i) .any w.heap.size fid i ∧
      spec.pre6 enc Tryz.prog f dom false (w.forCall tape i).memory i.args ∧ Assume.holds {} Tryz.prog (lone (Frame.enter Tryz.prog fid i.args .normal) [] (w.forCall tape i)))
    (walk : ∀ (W : World) (args : Array Value), args.size = f.params.size → (∀ (j : Nat) t v, f.params[j]? = some t → args[j]? = some v → Arg Tryz.prog W t v) →
      Calls Tryz.prog fid args W fun e W' => e = .returned (.bool true) ∧ Below W.heap.size W W') :
    ReturnsInHanded {} Tryz.checked os fid .any (spec.pre6 enc Tryz.prog f dom false) (spec.post enc Tryz.prog f false true false false) := by
  refine returnsInHanded_of_change (C := Tryz.checked) own_ started hinit hfn witness ?_
  intro W base args ds gs before hval0 hW hcnd _
  have hW' := hW
  obtain ⟨p, q, hA0, hV, rfl, hfz, hnd⟩ := hW
  rw [hvars] at hV
  obtain ⟨rfl, rfl⟩ := trodVars_none hV
  have hA : DataW.TrodAll enc Tryz.prog W 0 (fun _ => true) true f.params.toList args.toList ds p := hA0
  have hlen : ds.length = f.params.size := by
    have : ∀ {ts : List TypeId} {vs : List Value} {ds : List (DataW H)} {ps : List MemPlace}, DataW.TrodAll enc Tryz.prog W 0 (fun _ => true) true ts vs ds ps → ds.length = ts.length := by
      intro ts
      induction ts with
      | nil => intro vs ds ps h; cases vs <;> cases ds <;> simp [DataW.TrodAll] at h ⊢
      | cons t ts ih =>
        intro vs ds ps h
        cases vs with
        | nil => exact h.elim
        | cons v vs =>
          cases ds with
          | nil => exact h.elim
          | cons d ds => obtain ⟨p, q, _, h2, _⟩ := h; simp [ih h2]
    simpa using this hA
  obtain ⟨s1, s2, s3⟩ := hspec H ds hlen
  have hR := rdgAll_of hA
  refine (walk W args (by simpa using hR.1.symm) (fun j t v h1 h2 => ⟨⟨base, hval0 j t v h1 h2⟩, hR.2 j t v (by simpa using h1) (by simpa using h2)⟩)).mono fun e W' ⟨he, bel⟩ => ?_
  subst he
  refine ⟨_, rfl, ds, [], p ++ [], [], p, [], hW', ?_, ?_, ?_, bel.frame _, fun h => by cases h⟩
  · rw [s1, hres]
    exact trodAll_mk1 (shut_bool Tryz.underlying4 _)
  · rw [s2]
    exact trodAll_below laidOut bel hread hA (trodAll_lt hA)
  · rw [hvars, s3]
    rfl
end Go.Proofs.YtbckoohljkmahaaGreat
namespace Go.Proofs.YtbckoohljkmahaaGreat
set_option linter.unusedVariables false
set_option linter.unusedSimpArgs false
open Go.RowKit Go.Maps
/-- a binding -/
structure Bd where
  fl : Fl
  po : Int
  tr : Int
  se : Int
def Bd.cs (b : Bd) : Array Value := #[.int .i64 b.fl.pr, .int .u32 b.fl.ad, .int .u16 b.fl.po, .int .i64 b.po, .int .i64 b.tr, .int .i64 b.se]
def keyB (c : Cf) (b : Bd) : Int := placeP c b.fl.pr b.po
/-- a flow's numbers are of their kinds -/
def Fl.rng (f : Fl) : Prop := inr .i64 f.pr ∧ inr .u32 f.ad ∧ inr .u16 f.po
theorem Fl.z_rng : Fl.z.rng := ⟨i64_inr (by show _ ≤ (0:Int) ∧ (0:Int) ≤ _; omega), u32_inr (by show (0:Int) ≤ 0 ∧ (0:Int) ≤ _; omega), u16_inr (by show (0:Int) ≤ 0 ∧ (0:Int) ≤ _; omega)⟩
-- lists of bindings, by their places
def insB (c : Cf) (b : Bd) : List Bd → List Bd
  | [] => [b]
  | y :: r => if keyB c b < keyB c y then b :: y :: r else y :: insB c b r
def cutB (c : Cf) (k : Int) (L : List Bd) : List Bd := L.filter (fun y => !(keyB c y == k))
def putB (c : Cf) (b : Bd) (L : List Bd) : List Bd := insB c b (cutB c (keyB c b) L)
def atB (c : Cf) (k : Int) (L : List Bd) : Option Bd := L.find? (fun y => keyB c y == k)
def ofB (f : Fl) (L : List Bd) : Option Bd := L.find? (fun y => decide (y.fl = f))
/-- the bindings as a map's datum -/
def eB (c : Cf) (L : List Bd) : List (Lit × DataW Value) := L.map fun b => (Lit.int .i64 (keyB c b), DataW.held (Value.agg b.cs))
def rdV (v : Value) : Option (DataW Value × List MemPlace) := some (.held v, [])
theorem same_int (a b : Int) : (Lit.int .i64 a).sameKey (Lit.int .i64 b) = (a == b) := by
  rw [Bool.eq_iff_iff]; simp [Lit.sameKey]
theorem before_int (a b : Int) : (Lit.int .i64 a).before (Lit.int .i64 b) = decide (a < b) := by
  simp [Lit.before]
theorem eB_at (c : Cf) (k : Int) (z : DataW Value) : ∀ L : List Bd, (DataW.map (eB c L)).atKey (.int .i64 k) z = match atB c k L with | some b => .held (.agg b.cs) | none => z
  | [] => rfl
  | b :: L => by
    have ih := eB_at c k z L
    unfold DataW.atKey eB atB at ih ⊢
    simp only [List.map_cons, List.find?_cons, same_int] at ih ⊢
    cases h : (keyB c b == k) with
    | true => rfl
    | false => exact ih
theorem eB_has (c : Cf) (k : Int) : ∀ L : List Bd, Maps.has (DataW.map (eB c L)) (.int .i64 k) = (atB c k L).isSome
  | [] => rfl
  | b :: L => by
    have ih := eB_has c k L
    rw [Maps.has_eq] at ih ⊢
    unfold eB atB at ih ⊢
    simp only [List.map_cons, List.any_cons, List.find?_cons, same_int] at ih ⊢
    cases h : (keyB c b == k) with
    | true => rfl
    | false => simpa using ih
theorem eB_ins (c : Cf) (b : Bd) : ∀ L : List Bd, DataW.insert (Lit.int .i64 (keyB c b), DataW.held (Value.agg b.cs)) (eB c L) = eB c (insB c b L)
  | [] => rfl
  | y :: L => by
    have ih := eB_ins c b L
    unfold eB at ih ⊢
    simp only [List.map_cons, DataW.insert, before_int, insB]
    by_cases h : keyB c b < keyB c y
    · rw [if_pos (by simpa using h), if_pos h]; rfl
    · rw [if_neg (by simpa using h), if_neg h, List.map_cons]
      rw [ih]
theorem eB_cut (c : Cf) (k : Int) : ∀ L : List Bd, (eB c L).filter (ChangeMaps.notKey (Lit.int .i64 k)) = eB c (cutB c k L)
  | [] => rfl
  | y :: L => by
    have ih := eB_cut c k L
    unfold eB cutB at ih ⊢
    simp only [List.map_cons, List.filter_cons, ChangeMaps.notKey, same_int] at ih ⊢
    cases h : (keyB c y == k) with
    | true => simpa using ih
    | false => simpa using ih
theorem kint : Keyed Tryz.prog 3 := int_keyed Tryz.underlying3
theorem kflow : Keyed Tryz.prog 32 := Keyed.of_law (deep_law_gate laidOut (by decide +kernel) (by decide +kernel) (by kernel_rfl) (by kernel_rfl))
theorem zeroBd (w : World) : (zeroValue 63).run Tryz.prog w = .ok (.agg #[.int .i64 0, .int .u32 0, .int .u16 0, .int .i64 0, .int .i64 0, .int .i64 0]) w := by kernel_rfl
theorem zeroInt (w : World) : (zeroValue 3).run Tryz.prog w = .ok (.int .i64 0) w := by kernel_rfl
/-- block pb holds the bindings L by their places -/
structure PlM (W : World) (c : Cf) (pb n : Nat) (L : List Bd) : Prop where
  own : W.ownsMap Tryz.prog 3 rdV pb n (.map (eB c L))
section
variable {W W' : World} {c : Cf} {pb n : Nat} {L : List Bd}
theorem PlM.lt (h : PlM W c pb n L) : pb < W.heap.size := h.own.lt
theorem PlM.keep (h : PlM W c pb n L) (hb : W'.heap[pb]? = W.heap[pb]?) : PlM W' c pb n L := by
  obtain ⟨es, clock, h1, F1, hs, hD⟩ := h.own
  exact ⟨es, clock, hb.trans h1, F1, hs, hD⟩
theorem PlM.bel (h : PlM W c pb n L) (hb : Below W.heap.size W W') : PlM W' c pb n L := h.keep (hb.block pb h.lt)
theorem PlM.upd {S : Nat → Prop} (h : PlM W c pb n L) (hu : Upd S W W') (hS : ¬ S pb) : PlM W' c pb n L := h.keep (hu.block pb h.lt hS)
theorem PlM.made (W : World) (c : Cf) : PlM (W.alloc (.map #[] 0)) c W.heap.size 0 [] := ⟨World.ownsMap_made W _ _ _⟩
theorem PlM.len (h : PlM W c pb n L) : L.length ≤ n := by
  have := h.own.size_le
  simpa [Maps.size, eB] using this
/-- what the map tells of a place -/
def lookB (o : Option Bd) : Value := match o with | some b => .tuple #[.agg b.cs, .bool true] | none => .tuple #[.agg #[.int .i64 0, .int .u32 0, .int .u16 0, .int .i64 0, .int .i64 0, .int .i64 0], .bool false]
def lookZ (o : Option Bd) : Value := match o with | some b => .agg b.cs | none => .agg #[.int .i64 0, .int .u32 0, .int .u16 0, .int .i64 0, .int .i64 0, .int .i64 0]
set_option maxRecDepth 100000 in
theorem PlM.look (h : PlM W c pb n L) {k : Int} (hk : inr .i64 k) : (Instr.lookup 114 (.map (some pb)) (.int .i64 k) true).run Tryz.prog W = .ok (lookB (atB c k L)) W := by
  have hkey : keyOf Tryz.prog 3 (.int .i64 k) = some (.int .i64 k) := keyOf_int_mk Tryz.underlying3 hk
  obtain ⟨v, ps, hrun, hv⟩ := h.own.look_ok kint Tryz.underlying114 (zeroBd W) (zd := .held (.agg #[.int .i64 0, .int .u32 0, .int .u16 0, .int .i64 0, .int .i64 0, .int .i64 0])) rfl hkey
  rw [eB_at, eB_has] at *
  unfold rdV at hv
  rw [hrun]
  cases hf : atB c k L with
  | none =>
    rw [hf] at hv
    simp only [Option.some.injEq, Prod.mk.injEq, DataW.held.injEq] at hv
    rw [hv.1]; rfl
  | some b =>
    rw [hf] at hv
    simp only [Option.some.injEq, Prod.mk.injEq, DataW.held.injEq] at hv
    rw [hv.1]; rfl
set_option maxRecDepth 100000 in
theorem PlM.look0 (h : PlM W c pb n L) {k : Int} (hk : inr .i64 k) : (Instr.lookup 114 (.map (some pb)) (.int .i64 k) false).run Tryz.prog W = .ok (lookZ (atB c k L)) W := by
  have hkey : keyOf Tryz.prog 3 (.int .i64 k) = some (.int .i64 k) := keyOf_int_mk Tryz.underlying3 hk
  obtain ⟨v, ps, hrun, hv⟩ := h.own.lookup kint Tryz.underlying114 (zeroBd W) (zd := .held (.agg #[.int .i64 0, .int .u32 0, .int .u16 0, .int .i64 0, .int .i64 0, .int .i64 0])) (zp := []) rfl hkey
  rw [eB_at] at hv
  unfold rdV at hv
  rw [hrun]
  cases hf : atB c k L with
  | none =>
    rw [hf] at hv
    simp only [Option.some.injEq, Prod.mk.injEq, DataW.held.injEq] at hv
    rw [hv.1]; rfl
  | some b =>
    rw [hf] at hv
    simp only [Option.some.injEq, Prod.mk.injEq, DataW.held.injEq] at hv
    rw [hv.1]; rfl
set_option maxRecDepth 100000 in
theorem PlM.put (h : PlM W c pb n L) (hn : n < 1000000) (b : Bd) (hk : inr .i64 (keyB c b)) : ∃ W', (Instr.mapUpdate 114 (.map (some pb)) (.int .i64 (keyB c b)) (.agg b.cs)).run Tryz.prog W = .ok () W' ∧ PlM W' c pb (n + 1) (putB c b L) ∧ Upd (fun k => k = pb) W W' := by
  have hkey : keyOf Tryz.prog 3 (.int .i64 (keyB c b)) = some (.int .i64 (keyB c b)) := keyOf_int_mk Tryz.underlying3 hk
  obtain ⟨W', hrun, hown, hg⟩ := h.own.update kint Tryz.underlying114 (by unfold maxLen; omega) hkey (val := .agg b.cs) (d := .held (.agg b.cs)) (ps := []) rfl
  refine ⟨W', hrun, ⟨?_⟩, Upd.of_grown hg (fun g e => by injection e with e; exact e.symm)⟩
  have e : (DataW.map (eB c L)).put (.int .i64 (keyB c b)) (.held (.agg b.cs)) = .map (eB c (putB c b L)) := by
    rw [DataW.put_eq]
    unfold ChangeMaps.putKey
    rw [eB_cut, eB_ins]; rfl
  rw [← e]; exact hown
set_option maxRecDepth 100000 in
theorem PlM.del (h : PlM W c pb n L) (k : Int) (hk : inr .i64 k) (ty : TypeId) : ∃ W', (Builtin.delete_ #[114, 3] ty #[.map (some pb), .int .i64 k]).run Tryz.prog W = .ok (.tuple #[]) W' ∧ PlM W' c pb n (cutB c k L) ∧ Upd (fun k => k = pb) W W' := by
  have hkey : keyOf Tryz.prog 3 (.int .i64 k) = some (.int .i64 k) := keyOf_int_mk Tryz.underlying3 hk
  obtain ⟨W', hrun, hown, hg⟩ := h.own.drop kint Tryz.underlying114 hkey ty
  refine ⟨W', hrun, ⟨?_⟩, Upd.of_grown hg.grown (fun g e => by injection e with e; exact e.symm)⟩
  have e : (DataW.map (eB c L)).del (.int .i64 k) = .map (eB c (cutB c k L)) := by
    rw [DataW.del_eq]
    unfold ChangeMaps.delKey
    rw [eB_cut]
  rw [← e]; exact hown
end
/-- what a flow reads as -/
def litF (f : Fl) : Lit := .string (keyBytes [.int .i64 f.pr, .int .u32 f.ad, .int .u16 f.po])
set_option maxRecDepth 100000 in
theorem keyOf_flow {f : Fl} (h : f.rng) : keyOf Tryz.prog 32 (.agg f.cs) = some (litF f) := by
  obtain ⟨h1, h2, h3⟩ := h
  unfold inr at h1 h2 h3
  obtain ⟨m, hs⟩ : ∃ m, Tryz.prog.types.size = m + 1 := ⟨Tryz.prog.types.size - 1, by kernel_rfl⟩
  have hk : Tryz.prog.keyType 32 = true := by kernel_rfl
  have c0 : Tryz.prog.cellsOf 3 = 1 := by kernel_rfl
  have c1 : Tryz.prog.cellsOf 25 = 1 := by kernel_rfl
  have c2 : Tryz.prog.cellsOf 30 = 1 := by kernel_rfl
  have c3 : Tryz.prog.cellsOf 32 = 3 := by kernel_rfl
  unfold keyOf
  simp only [Tryz.underlying32]
  rw [if_pos (by simp [hk, Value.formed, Tryz.underlying32, c3, Fl.cs]), hs]
  unfold Program.keyLits
  simp only [Tryz.underlying32, Value.cells]
  rw [if_pos (by simp [c3, Fl.cs])]
  simp [Fl.cs, Program.keyLits, Tryz.underlying3, Tryz.underlying25, Tryz.underlying30, c0, c1, c2, h1, h2, h3, litF]
end Go.Proofs.YtbckoohljkmahaaGreat
namespace Go.Proofs.YtbckoohljkmahaaGreat
set_option linter.unusedVariables false
set_option linter.unusedSimpArgs false
open Go.RowKit Go.Maps
theorem litF_inj {f g : Fl} (hf : f.rng) (hg : g.rng) (h : litF f = litF g) : f = g := by
  have h1 := keyOf_flow hf
  have h2 := keyOf_flow hg
  rw [h] at h1
  have h3 := kflow.inj h1 h2
  obtain ⟨f1, f2, f3⟩ := f
  obtain ⟨g1, g2, g3⟩ := g
  simp [Fl.cs] at h3
  obtain ⟨rfl, rfl, rfl⟩ := h3
  rfl
/-- block fb holds the places of flows -/
structure FlG (W : World) (fb n : Nat) (G : Fl → Option Int) : Prop where
  ex : ∃ D : DataW Unit, W.ownsMap Tryz.prog 32 (plainElem Tryz.prog 3) fb n D ∧ IsMap D ∧ ∀ f : Fl, f.rng → Maps.has D (litF f) = (G f).isSome ∧ D.atKey (litF f) (.lit (.int .i64 0)) = .lit (.int .i64 ((G f).getD 0))
section
variable {W W' : World} {fb n : Nat} {G G' : Fl → Option Int}
theorem FlG.lt (h : FlG W fb n G) : fb < W.heap.size := by obtain ⟨D, h1, _⟩ := h.ex; exact h1.lt
theorem FlG.keep (h : FlG W fb n G) (hb : W'.heap[fb]? = W.heap[fb]?) : FlG W' fb n G := by
  obtain ⟨D, ⟨es, clock, h1, F1, hs, hD⟩, h2, h3⟩ := h.ex
  exact ⟨D, ⟨es, clock, hb.trans h1, F1, hs, hD⟩, h2, h3⟩
theorem FlG.bel (h : FlG W fb n G) (hb : Below W.heap.size W W') : FlG W' fb n G := h.keep (hb.block fb h.lt)
theorem FlG.upd {S : Nat → Prop} (h : FlG W fb n G) (hu : Upd S W W') (hS : ¬ S fb) : FlG W' fb n G := h.keep (hu.block fb h.lt hS)
theorem FlG.made (W : World) : FlG (W.alloc (.map #[] 0)) W.heap.size 0 (fun _ => none) := ⟨.map [], World.ownsMap_made W _ _ _, isMap_empty, fun f _ => ⟨rfl, rfl⟩⟩
theorem FlG.congr (h : FlG W fb n G) (he : ∀ f, G f = G' f) : FlG W fb n G' := by
  have : G = G' := funext he
  exact this ▸ h
def lookF (o : Option Int) : Value := .tuple #[.int .i64 (o.getD 0), .bool o.isSome]
set_option maxRecDepth 100000 in
theorem FlG.look (h : FlG W fb n G) {f : Fl} (hf : f.rng) : (Instr.lookup 115 (.map (some fb)) (.agg f.cs) true).run Tryz.prog W = .ok (lookF (G f)) W := by
  obtain ⟨D, hD, hM, hx⟩ := h.ex
  obtain ⟨v, ps, hrun, hv⟩ := hD.look_ok kflow Tryz.underlying115 (zeroInt W) (zd := .lit (.int .i64 0)) (zp := []) (plainElem_int Tryz.underlying3 (by decide)) (keyOf_flow hf)
  obtain ⟨h1, h2⟩ := hx f hf
  rw [h2] at hv
  obtain ⟨c, rfl, hc, _⟩ := plainElem_int_inv Tryz.underlying3 hv
  simp only [Prod.mk.injEq, DataW.lit.injEq, Lit.int.injEq, true_and] at hc
  rw [hrun, h1, ← hc.1]; rfl
set_option maxRecDepth 100000 in
theorem FlG.put (h : FlG W fb n G) (hn : n < 1000000) {f : Fl} (hf : f.rng) {k : Int} (hk : inr .i64 k) : ∃ W', (Instr.mapUpdate 115 (.map (some fb)) (.agg f.cs) (.int .i64 k)).run Tryz.prog W = .ok () W' ∧ FlG W' fb (n + 1) (fun g => if g = f then some k else G g) ∧ Upd (fun j => j = fb) W W' := by
  obtain ⟨D, hD, hM, hx⟩ := h.ex
  obtain ⟨W', hrun, hown, hg⟩ := hD.update kflow Tryz.underlying115 (by unfold maxLen; omega) (keyOf_flow hf) (plainElem_int (H := Unit) Tryz.underlying3 hk)
  refine ⟨W', hrun, ⟨_, hown, hM.put _ _, fun g hgr => ?_⟩, Upd.of_grown hg (fun g e => by injection e with e; exact e.symm)⟩
  by_cases e : g = f
  · subst e
    rw [if_pos rfl, has_put_same hM (kflow.key (keyOf_flow hf)), atKey_put_same hM (kflow.key (keyOf_flow hf))]
    exact ⟨rfl, rfl⟩
  · have hne : litF g ≠ litF f := fun h => e (litF_inj hgr hf h)
    rw [if_neg e, has_put_other hne, atKey_put_other hne]
    exact hx g hgr
set_option maxRecDepth 100000 in
theorem FlG.del (h : FlG W fb n G) {f : Fl} (hf : f.rng) (ty : TypeId) : ∃ W', (Builtin.delete_ #[115, 32] ty #[.map (some fb), .agg f.cs]).run Tryz.prog W = .ok (.tuple #[]) W' ∧ FlG W' fb n (fun g => if g = f then none else G g) ∧ Upd (fun j => j = fb) W W' := by
  obtain ⟨D, hD, hM, hx⟩ := h.ex
  obtain ⟨W', hrun, hown, hg⟩ := hD.drop kflow Tryz.underlying115 (keyOf_flow hf) ty
  refine ⟨W', hrun, ⟨_, hown, hM.del _, fun g hgr => ?_⟩, Upd.of_grown hg.grown (fun g e => by injection e with e; exact e.symm)⟩
  by_cases e : g = f
  · subst e
    rw [if_pos rfl, has_del_same, atKey_del_same]
    exact ⟨rfl, rfl⟩
  · have hne : litF g ≠ litF f := fun h => e (litF_inj hgr hf h)
    rw [if_neg e, has_del_other hne, atKey_del_other hne]
    exact hx g hgr
end
-- the operations
section
variable {P : Program} {ops : Array Oper} {rest : List Oper} {o : Oper} {a : Act} {Q : Exit → Act → World → Prop} {K : Act → World → Prop} {w w' : World}
theorem wp_look {t : TypeId} {m x : Operand} {ok : Bool} (ho : o.op = .lookup t m x ok) {mv xv v : Value} (hm : a.eval m = mv) (hx : a.eval x = xv) (hr : (Instr.lookup t mv xv ok).run P w = .ok v w) (h : K (a.put o.dst v) w) : o.wp P a w K Q := by
  unfold Oper.wp
  simp [execOp, ho, hm, hx, hr, Result.andThen]
  exact h
theorem wpList_look (hg : o.guard = none) {t : TypeId} {m x : Operand} {ok : Bool} (ho : o.op = .lookup t m x ok) {mv xv v : Value} (hm : a.eval m = mv) (hx : a.eval x = xv) (hr : (Instr.lookup t mv xv ok).run P w = .ok v w) (h : wpList P ops Q rest (a.put o.dst v) w) : wpList P ops Q (o :: rest) a w :=
  wpList_plain hg fun _ hK => wp_look ho hm hx hr (hK _ _ h)
theorem wp_upd {t : TypeId} {m x y : Operand} (ho : o.op = .mapUpdate t m x y) {mv xv yv : Value} (hm : a.eval m = mv) (hx : a.eval x = xv) (hy : a.eval y = yv) (hr : (Instr.mapUpdate t mv xv yv).run P w = .ok () w') (h : K (a.put o.dst undef) w') : o.wp P a w K Q := by
  unfold Oper.wp
  simp [execOp, ho, hm, hx, hy, hr, Result.andThen]
  exact h
theorem wp_del {t k : TypeId} {m x : Operand} (ho : o.op = .call { callee := .builtin .delete, args := #[m, x], argTypes := #[t, k] }) {mv xv : Value} (hm : a.eval m = mv) (hx : a.eval x = xv) (hr : (Builtin.delete_ #[t, k] o.type #[mv, xv]).run P w = .ok (.tuple #[]) w') (h : K (a.put o.dst (.tuple #[])) w') : o.wp P a w K Q := by
  unfold Oper.wp execOp
  simp only [ho, resolve, invoke, builtin, Sem.run_bind, Sem.run_pure, Result.andThen_ok, List.map_toArray, List.map_cons, List.map_nil, hm, hx, hr]
  exact h
theorem wpList_del (hg : o.guard = none) {t k : TypeId} {m x : Operand} (ho : o.op = .call { callee := .builtin .delete, args := #[m, x], argTypes := #[t, k] }) {mv xv : Value} (hm : a.eval m = mv) (hx : a.eval x = xv) (hr : (Builtin.delete_ #[t, k] o.type #[mv, xv]).run P w = .ok (.tuple #[]) w') (h : wpList P ops Q rest (a.put o.dst (.tuple #[])) w') : wpList P ops Q (o :: rest) a w :=
  wpList_plain hg fun _ hK => wp_del ho hm hx hr (hK _ _ h)
end
end Go.Proofs.YtbckoohljkmahaaGreat
namespace Go.Proofs.YtbckoohljkmahaaGreat
set_option linter.unusedVariables false
set_option linter.unusedSimpArgs false
open Go.RowKit
section
variable {c : Cf} {L : List Bd} {b b' : Bd} {k : Int}
/-- a binding that may be -/
structure BdOk (c : Cf) (b : Bd) : Prop where
  rng : b.fl.rng
  key : 0 ≤ keyB c b
  tr : 0 ≤ b.tr ∧ b.tr ≤ 4
  se : 0 ≤ b.se ∧ b.se ≤ 4294967295
/-- bindings that may be together: in order, each flow once -/
structure LInv (c : Cf) (L : List Bd) : Prop where
  srt : L.Pairwise fun a b => keyB c a < keyB c b
  ok : ∀ b, b ∈ L → BdOk c b
  dif : ∀ a b, a ∈ L → b ∈ L → a.fl = b.fl → a = b
theorem LInv.nil (c : Cf) : LInv c [] := ⟨List.Pairwise.nil, by simp, by simp⟩
theorem mem_insB {x : Bd} : ∀ L : List Bd, x ∈ insB c b L ↔ x = b ∨ x ∈ L
  | [] => by simp [insB]
  | y :: L => by
    unfold insB
    split
    · simp
    · simp only [List.mem_cons, mem_insB L]
      constructor
      · rintro (h | h | h)
        · exact .inr (.inl h)
        · exact .inl h
        · exact .inr (.inr h)
      · rintro (h | h | h)
        · exact .inr (.inl h)
        · exact .inl h
        · exact .inr (.inr h)
theorem mem_cutB {x : Bd} : x ∈ cutB c k L ↔ x ∈ L ∧ keyB c x ≠ k := by simp [cutB]
theorem insB_srt : ∀ {L : List Bd}, L.Pairwise (fun a b => keyB c a < keyB c b) → (∀ y, y ∈ L → keyB c y ≠ keyB c b) → (insB c b L).Pairwise fun a b => keyB c a < keyB c b
  | [], _, _ => by simp [insB]
  | y :: L, h, hn => by
    rw [List.pairwise_cons] at h
    unfold insB
    split
    · rename_i hlt
      refine List.pairwise_cons.2 ⟨fun z hz => ?_, List.pairwise_cons.2 h⟩
      rcases List.mem_cons.1 hz with rfl | hz
      · exact hlt
      · have := h.1 z hz; omega
    · rename_i hlt
      refine List.pairwise_cons.2 ⟨fun z hz => ?_, insB_srt h.2 (fun z hz => hn z (List.mem_cons_of_mem _ hz))⟩
      rcases (mem_insB L).1 hz with rfl | hz
      · have := hn y (by simp); omega
      · exact h.1 z hz
theorem cutB_srt (h : L.Pairwise fun a b => keyB c a < keyB c b) : (cutB c k L).Pairwise fun a b => keyB c a < keyB c b := h.filter _
theorem LInv.cut (h : LInv c L) (k : Int) : LInv c (cutB c k L) :=
  ⟨cutB_srt h.srt, fun b hb => h.ok b (mem_cutB.1 hb).1, fun a b ha hb => h.dif a b (mem_cutB.1 ha).1 (mem_cutB.1 hb).1⟩
theorem LInv.key_inj (h : LInv c L) {a b : Bd} (ha : a ∈ L) (hb : b ∈ L) (e : keyB c a = keyB c b) : a = b := by
  have := h.srt
  clear h
  induction L with
  | nil => simp at ha
  | cons y L ih =>
    rw [List.pairwise_cons] at this
    rcases List.mem_cons.1 ha with ha1 | ha1
    · rcases List.mem_cons.1 hb with hb1 | hb1
      · rw [ha1, hb1]
      · have := this.1 b hb1; rw [← ha1] at this; omega
    · rcases List.mem_cons.1 hb with hb1 | hb1
      · have := this.1 a ha1; rw [← hb1] at this; omega
      · exact ih ha1 hb1 this.2
theorem atB_some (h : atB c k L = some b) : b ∈ L ∧ keyB c b = k := by
  unfold atB at h
  exact ⟨List.mem_of_find?_eq_some h, by simpa using List.find?_some h⟩
theorem atB_none (h : atB c k L = none) : ∀ y, y ∈ L → keyB c y ≠ k := by
  unfold atB at h
  rw [List.find?_eq_none] at h
  intro y hy
  simpa using h y hy
theorem atB_of (h : LInv c L) (hb : b ∈ L) : atB c (keyB c b) L = some b := by
  cases hf : atB c (keyB c b) L with
  | none => exact absurd rfl (atB_none hf b hb)
  | some x =>
    obtain ⟨h1, h2⟩ := atB_some hf
    rw [h.key_inj h1 hb h2]
theorem ofB_some {f : Fl} (h : ofB f L = some b) : b ∈ L ∧ b.fl = f := by
  unfold ofB at h
  exact ⟨List.mem_of_find?_eq_some h, by simpa using List.find?_some h⟩
theorem ofB_none {f : Fl} (h : ofB f L = none) : ∀ y, y ∈ L → y.fl ≠ f := by
  unfold ofB at h
  rw [List.find?_eq_none] at h
  intro y hy
  simpa using h y hy
theorem ofB_of (h : LInv c L) (hb : b ∈ L) : ofB b.fl L = some b := by
  cases hf : ofB b.fl L with
  | none => exact absurd rfl (ofB_none hf b hb)
  | some x =>
    obtain ⟨h1, h2⟩ := ofB_some hf
    rw [h.dif x b h1 hb h2]
theorem mem_putB {x : Bd} : x ∈ putB c b L ↔ x = b ∨ (x ∈ L ∧ keyB c x ≠ keyB c b) := by
  unfold putB
  rw [mem_insB, mem_cutB]
theorem LInv.put_old (h : LInv c L) (hb : b ∈ L) (hf : b'.fl = b.fl) (hp : b'.po = b.po) (ho : BdOk c b') : LInv c (putB c b' L) := by
  have hk : keyB c b' = keyB c b := by unfold keyB; rw [hf, hp]
  refine ⟨insB_srt (cutB_srt h.srt) (fun y hy => (mem_cutB.1 hy).2), fun x hx => ?_, fun x y hx hy e => ?_⟩
  · rcases mem_putB.1 hx with rfl | ⟨hx, _⟩
    · exact ho
    · exact h.ok x hx
  · rcases mem_putB.1 hx with hx1 | ⟨hx1, hxk⟩
    · rcases mem_putB.1 hy with hy1 | ⟨hy1, hyk⟩
      · rw [hx1, hy1]
      · have := h.dif y b hy1 hb (by rw [← e, hx1, hf])
        exact absurd (by rw [this, hk]) hyk
    · rcases mem_putB.1 hy with hy1 | ⟨hy1, hyk⟩
      · have := h.dif x b hx1 hb (by rw [e, hy1, hf])
        exact absurd (by rw [this, hk]) hxk
      · exact h.dif x y hx1 hy1 e
theorem LInv.put_new (h : LInv c L) (hk : ∀ y, y ∈ L → keyB c y ≠ keyB c b) (hf : ∀ y, y ∈ L → y.fl ≠ b.fl) (ho : BdOk c b) : LInv c (putB c b L) := by
  refine ⟨insB_srt (cutB_srt h.srt) (fun y hy => (mem_cutB.1 hy).2), fun x hx => ?_, fun x y hx hy e => ?_⟩
  · rcases mem_putB.1 hx with rfl | ⟨hx, _⟩
    · exact ho
    · exact h.ok x hx
  · rcases mem_putB.1 hx with hx1 | ⟨hx1, hxk⟩
    · rcases mem_putB.1 hy with hy1 | ⟨hy1, hyk⟩
      · rw [hx1, hy1]
      · exact absurd (by rw [← e, hx1]) (hf y hy1)
    · rcases mem_putB.1 hy with hy1 | ⟨hy1, hyk⟩
      · exact absurd (by rw [e, hy1]) (hf x hx1)
      · exact h.dif x y hx1 hy1 e
/-- the place of each flow -/
def plOf (c : Cf) (L : List Bd) (f : Fl) : Option Int := (ofB f L).map (keyB c)
theorem plOf_some (h : LInv c L) {f : Fl} : plOf c L f = some k ↔ ∃ b, b ∈ L ∧ b.fl = f ∧ keyB c b = k := by
  unfold plOf
  constructor
  · intro e
    cases hf : ofB f L with
    | none => rw [hf] at e; cases e
    | some x =>
      rw [hf] at e
      obtain ⟨h1, h2⟩ := ofB_some hf
      exact ⟨x, h1, h2, by simpa using e⟩
  · rintro ⟨b, hb, rfl, rfl⟩
    rw [ofB_of h hb]; rfl
theorem plOf_ext {L L' : List Bd} (h : LInv c L) {G : Option Int} {f : Fl} (he : ∀ k, (∃ b, b ∈ L ∧ b.fl = f ∧ keyB c b = k) ↔ G = some k) : plOf c L f = G := by
  cases hg : G with
  | some k => exact (plOf_some h).2 ((he k).2 hg)
  | none =>
    cases hp : plOf c L f with
    | none => rfl
    | some k => have := (he k).1 ((plOf_some h).1 hp); rw [hg] at this; cases this
theorem plOf_put_old (h : LInv c L) (hb : b ∈ L) (hf : b'.fl = b.fl) (hp : b'.po = b.po) (ho : BdOk c b') (f : Fl) : plOf c (putB c b' L) f = plOf c L f := by
  have hk : keyB c b' = keyB c b := by unfold keyB; rw [hf, hp]
  refine plOf_ext (L' := L) (h.put_old hb hf hp ho) fun k => ?_
  rw [plOf_some h]
  constructor
  · rintro ⟨x, hx, rfl, rfl⟩
    rcases mem_putB.1 hx with rfl | ⟨hx, _⟩
    · exact ⟨b, hb, hf.symm, hk.symm⟩
    · exact ⟨x, hx, rfl, rfl⟩
  · rintro ⟨x, hx, rfl, rfl⟩
    by_cases e : keyB c x = keyB c b'
    · have := h.key_inj hx hb (e.trans hk)
      subst this
      exact ⟨b', mem_putB.2 (.inl rfl), hf, hk⟩
    · exact ⟨x, mem_putB.2 (.inr ⟨hx, e⟩), rfl, rfl⟩
theorem plOf_put_new (h : LInv c L) (hk : ∀ y, y ∈ L → keyB c y ≠ keyB c b) (hf : ∀ y, y ∈ L → y.fl ≠ b.fl) (ho : BdOk c b) (f : Fl) : plOf c (putB c b L) f = if f = b.fl then some (keyB c b) else plOf c L f := by
  refine plOf_ext (L' := L) (h.put_new hk hf ho) fun k => ?_
  by_cases e : f = b.fl
  · subst e
    rw [if_pos rfl]
    constructor
    · rintro ⟨x, hx, hxf, rfl⟩
      rcases mem_putB.1 hx with rfl | ⟨hx, _⟩
      · rfl
      · exact absurd hxf (hf x hx)
    · intro e; injection e with e
      exact ⟨b, mem_putB.2 (.inl rfl), rfl, e⟩
  · rw [if_neg e, plOf_some h]
    constructor
    · rintro ⟨x, hx, hxf, rfl⟩
      rcases mem_putB.1 hx with rfl | ⟨hx, _⟩
      · exact absurd hxf.symm e
      · exact ⟨x, hx, hxf, rfl⟩
    · rintro ⟨x, hx, hxf, rfl⟩
      exact ⟨x, mem_putB.2 (.inr ⟨hx, hk x hx⟩), hxf, rfl⟩
theorem plOf_cut (h : LInv c L) (hb : b ∈ L) (f : Fl) : plOf c (cutB c (keyB c b) L) f = if f = b.fl then none else plOf c L f := by
  refine plOf_ext (L' := L) (h.cut _) fun k => ?_
  by_cases e : f = b.fl
  · subst e
    rw [if_pos rfl]
    constructor
    · rintro ⟨x, hx, hxf, rfl⟩
      obtain ⟨h1, h2⟩ := mem_cutB.1 hx
      exact absurd (by rw [h.dif x b h1 hb hxf]) h2
    · intro e; cases e
  · rw [if_neg e, plOf_some h]
    constructor
    · rintro ⟨x, hx, hxf, rfl⟩
      exact ⟨x, (mem_cutB.1 hx).1, hxf, rfl⟩
    · rintro ⟨x, hx, hxf, rfl⟩
      refine ⟨x, mem_cutB.2 ⟨hx, fun hk => e ?_⟩, hxf, rfl⟩
      rw [← hxf, h.key_inj hx hb hk]
end
end Go.Proofs.YtbckoohljkmahaaGreat
namespace Go.Proofs.YtbckoohljkmahaaGreat
set_option linter.unusedVariables false
set_option linter.unusedSimpArgs false
open Go.RowKit Go.Maps
theorem nxt_bd (p st : Int) (o r f s k : Bool) (h : 0 ≤ st ∧ st ≤ 4) : 0 ≤ nxt p st o r f s k ∧ nxt p st o r f s k ≤ 4 := by
  unfold nxt endd
  have := clampS_bd st
  repeat' split
  all_goals omega
/-- a translator at block gn, its maps at pb and fm -/
structure NatM (W : World) (c : Cf) (gn pb fm np nf : Nat) (L : List Bd) : Prop where
  obj : Blk W gn 117 #[.int .i64 c.wk, .int .u32 c.ou, .int .i64 c.lo, .int .i64 c.hi, .int .i64 c.bk, .int .i64 c.rg, .map (some pb), .map (some fm)]
  pl : PlM W c pb np L
  fl : FlG W fm nf (plOf c L)
  ne : pb ≠ fm
  inv : LInv c L
section
variable {W W' : World} {c : Cf} {gn pb fm np nf : Nat} {L : List Bd}
theorem NatM.bel_ (h : NatM W c gn pb fm np nf L) (hb : Below W.heap.size W W') : NatM W' c gn pb fm np nf L := ⟨h.obj.bel hb, h.pl.bel hb, h.fl.bel hb, h.ne, h.inv⟩
theorem NatM.drew (h : NatM W c gn pb fm np nf L) : NatM W.drew c gn pb fm np nf L := h.bel_ (Below.refl _ _).drew
theorem NatM.alloc (h : NatM W c gn pb fm np nf L) (o : Obj) : NatM (W.alloc o) c gn pb fm np nf L := h.bel_ (bel_alloc _ _)
theorem PlM.notBlk (h : PlM W c pb np L) {g : Nat} {t : TypeId} {cs : Array Value} (hb : Blk W g t cs) : g ≠ pb := fun e => by
  obtain ⟨es, clock, h1, _⟩ := h.own
  have h2 : W.heap[g]? = some (.cells cs t (0, 0)) := hb
  rw [e, h1] at h2
  cases h2
theorem FlG.notBlk {G : Fl → Option Int} (h : FlG W fm nf G) {g : Nat} {t : TypeId} {cs : Array Value} (hb : Blk W g t cs) : g ≠ fm := fun e => by
  obtain ⟨D, ⟨es, clock, h1, _⟩, _⟩ := h.ex
  have h2 : W.heap[g]? = some (.cells cs t (0, 0)) := hb
  rw [e, h1] at h2
  cases h2
end
theorem bd_size : (Tryz.prog.info? 63).map (·.size) = some 6 := by kernel_rfl
theorem ml_size : (Tryz.prog.info? 57).map (·.size) = some 4 := by kernel_rfl
def NewR (w : World) (c : Cf) (e : Ending) (w' : World) : Prop := ∃ gn pb fm, e = .returned (.tuple #[.pointer (some ⟨gn, 0, none⟩), .int .i64 0]) ∧ NatM w' c gn pb fm 0 0 [] ∧ Below w.heap.size w w' ∧ w.heap.size ≤ gn ∧ w.heap.size ≤ pb ∧ w.heap.size ≤ fm
set_option maxRecDepth 100000 in
set_option maxHeartbeats 2000000 in
theorem New_ok (c : Cf) (w : World) (hc : c.ok) : Calls Tryz.prog 20 #[.agg #[.int .i64 c.wk, .int .u32 c.ou, .int .i64 c.lo, .int .i64 c.hi, .int .i64 c.bk, .int .i64 c.rg]] w (NewR w c) := by
  have kw := fun W => Wrong_ok c W hc
  replace kw := Lib.hid kw
  go_enter Tryz.func20, Tryz.ntmps20
  go_upto_region 1 with fail
  have bx := Blk.new w 36 #[.int .i64 c.wk, .int .u32 c.ou, .int .i64 c.lo, .int .i64 c.hi, .int .i64 c.bk, .int .i64 c.rg]
  have bel := bel_alloc w (.cells #[.int .i64 c.wk, .int .u32 c.ou, .int .i64 c.lo, .int .i64 c.hi, .int .i64 c.bk, .int .i64 c.rg] 36)
  generalize w.alloc (.cells #[.int .i64 c.wk, .int .u32 c.ou, .int .i64 c.lo, .int .i64 c.hi, .int .i64 c.bk, .int .i64 c.rg] 36) = W at *
  go_wp2_with (refine wpList_ldRow rfl rfl rfl bx Tryz.underlying36 cf_size ?_)
  refine (kw.out _).mono ?_
  rintro e w2 ⟨rfl, hb⟩
  replace bx := bx.bel hb
  replace bel := bel_after bel hb
  have hmm := @run_makeMap Tryz.prog
  have hp := PlM.made w2 c
  have hf := FlG.made (w2.alloc (.map #[] 0))
  rw [show (w2.alloc (.map #[] 0)).heap.size = w2.heap.size + 1 by simp] at hf
  replace hp := hp.bel (bel_alloc (w2.alloc (.map #[] 0)) (.map #[] 0))
  have bel2 : Below w.heap.size w ((w2.alloc (.map #[] 0)).alloc (.map #[] 0)) := (bel.alloc bel.size _).alloc (by simp; have := bel.size; omega) _
  have hsz := bel.size
  go_wp2_with (refine wpList_ldRow rfl rfl rfl bx Tryz.underlying36 cf_size ?_)
  go_ret2
  have ho := Blk.new ((w2.alloc (.map #[] 0)).alloc (.map #[] 0)) 117 #[.int .i64 c.wk, .int .u32 c.ou, .int .i64 c.lo, .int .i64 c.hi, .int .i64 c.bk, .int .i64 c.rg, .map (some w2.heap.size), .map (some (w2.heap.size + 1))]
  have bel3 := bel2.alloc (by simp; omega) (.cells #[.int .i64 c.wk, .int .u32 c.ou, .int .i64 c.lo, .int .i64 c.hi, .int .i64 c.bk, .int .i64 c.rg, .map (some w2.heap.size), .map (some (w2.heap.size + 1))] 117)
  rw [show ((w2.alloc (.map #[] 0)).alloc (.map #[] 0)).heap.size = w2.heap.size + 1 + 1 by simp] at ho
  exact ⟨_, _, _, rfl, ⟨ho, hp.bel (bel_alloc _ _), (hf.bel (bel_alloc _ _)).congr (fun f => rfl), by omega, LInv.nil c⟩, bel3, by omega, by omega, by omega⟩
def seenB (b : Bd) (p : Pt) (out : Bool) (tick : Int) : Bd :=
  { b with tr := nxt p.proto b.tr out (fb p.flags 4) (fb p.flags 1) (fb p.flags 2) (fb p.flags 16), se := if renewsS p.proto out = true then (if b.se < tick then tick else b.se) else b.se }
theorem seenB_ok {c : Cf} {b : Bd} (h : BdOk c b) (p : Pt) (out : Bool) {tick : Int} (ht : 0 ≤ tick ∧ tick ≤ 4294967295) : BdOk c (seenB b p out tick) :=
  ⟨h.rng, h.key, nxt_bd _ _ _ _ _ _ _ h.tr, by
    show 0 ≤ (if renewsS p.proto out = true then (if b.se < tick then tick else b.se) else b.se) ∧ _ ≤ (4294967295 : Int)
    have := h.se
    show 0 ≤ (if renewsS p.proto out = true then (if b.se < tick then tick else b.se) else b.se) ∧ (if renewsS p.proto out = true then (if b.se < tick then tick else b.se) else b.se) ≤ (4294967295 : Int)
    split
    · split <;> omega
    · omega⟩
def SeenR (w : World) (c : Cf) (gn pb fm np nf : Nat) (L : List Bd) (e : Ending) (w' : World) : Prop := e = .returned (.tuple #[]) ∧ NatM w' c gn pb fm np nf L ∧ Upd (fun k => k = pb) w w'
end Go.Proofs.YtbckoohljkmahaaGreat
namespace Go.Proofs.YtbckoohljkmahaaGreat
set_option linter.unusedVariables false
set_option linter.unusedSimpArgs false
open Go.RowKit Go.Maps
theorem keyB_rng {c : Cf} (hc : c.ok) (b : Bd) : inr .i64 (keyB c b) := by
  unfold keyB placeP
  have h1 := kindP_bd b.fl.pr
  have h2 := hc.lo
  have h3 := hc.hi
  split
  · exact i64_inr (by omega)
  · rename_i h
    have h4 : kindP b.fl.pr = 0 ∨ kindP b.fl.pr = 1 ∨ kindP b.fl.pr = 2 := by omega
    unfold Cf.n
    rcases h4 with h4 | h4 | h4 <;> rw [h4] <;> exact i64_inr (by omega)
theorem seen_err (c : Cf) (gn pb fm np nf : Nat) (L : List Bd) (at_ : Int) (ou : Bool) (xA : Option Addr) (xn xc : Nat) (ti po : Int) (p : Pt) (w : World) (hm : NatM w c gn pb fm np nf L) (he : p.err = true) :
    Calls Tryz.prog 49 #[.pointer (some ⟨gn, 0, none⟩), .int .i64 at_, .agg #[.bool ou, .slice xA xn xc, .int .i64 ti, .int .i64 po], p.val] w (SeenR w c gn pb fm np nf L) := by
  obtain ⟨pr, sr, ds, fl, ki, co, er, ⟨isz, i1, i2, i3, i4, i5⟩, pat, ba⟩ := p
  simp only at he
  subst he
  simp only [Pt.val]
  go_enter Tryz.func49, Tryz.ntmps49
  go_upto_region 1 with fail
  have bp := Blk.new (w.alloc (.cells #[.bool ou, .slice xA xn xc, .int .i64 ti, .int .i64 po] 57)) 107 #[.int .i64 pr, .int .u16 sr, .int .u16 ds, .int .i64 fl, .int .i64 ki, .int .i64 co, .bool true, .int .i64 isz, .int .i64 i1, .int .i64 i2, .int .i64 i3, .int .u32 i4, .int .u32 i5, .int .i64 pat, .bool ba]
  rw [show (w.alloc (.cells #[.bool ou, .slice xA xn xc, .int .i64 ti, .int .i64 po] 57)).heap.size = w.heap.size + 1 by simp] at bp
  have bel : Below w.heap.size w ((w.alloc (.cells #[.bool ou, .slice xA xn xc, .int .i64 ti, .int .i64 po] 57)).alloc (.cells #[.int .i64 pr, .int .u16 sr, .int .u16 ds, .int .i64 fl, .int .i64 ki, .int .i64 co, .bool true, .int .i64 isz, .int .i64 i1, .int .i64 i2, .int .i64 i3, .int .u32 i4, .int .u32 i5, .int .i64 pat, .bool ba] 107)) := (bel_alloc _ _).alloc (by simp) _
  generalize (w.alloc (.cells #[.bool ou, .slice xA xn xc, .int .i64 ti, .int .i64 po] 57)).alloc (.cells #[.int .i64 pr, .int .u16 sr, .int .u16 ds, .int .i64 fl, .int .i64 ki, .int .i64 co, .bool true, .int .i64 isz, .int .i64 i1, .int .i64 i2, .int .i64 i3, .int .u32 i4, .int .u32 i5, .int .i64 pat, .bool ba] 107) = W at *
  have p6 := bp.cell 6
  go_wp2_with fail
  go_end0
  exact ⟨rfl, hm.bel_ bel, Upd.of_below bel _⟩
set_option maxRecDepth 100000 in
set_option maxHeartbeats 4000000 in
theorem seen_any (c : Cf) (gn pb fm np nf : Nat) (L : List Bd) (b : Bd) (ou : Bool) (xA : Option Addr) (xn xc : Nat) (ti po : Int) (p : Pt) (w : World) (hm : NatM w c gn pb fm np nf L) (hc : c.ok) (hb : b ∈ L) (hn : np < 900000) (ht : 0 ≤ ti ∧ ti ≤ 4294967295) (he : p.err = false) :
    Calls Tryz.prog 49 #[.pointer (some ⟨gn, 0, none⟩), .int .i64 (keyB c b), .agg #[.bool ou, .slice xA xn xc, .int .i64 ti, .int .i64 po], p.val] w (SeenR w c gn pb fm (np + 1) nf (putB c (seenB b p ou ti) L)) := by
  have hok := hm.inv.ok b hb
  have hok2 := seenB_ok hok p ou ht
  have hinv := hm.inv.put_old hb (b' := seenB b p ou ti) rfl rfl hok2
  have hpl := fun f => plOf_put_old hm.inv hb (b' := seenB b p ou ti) rfl rfl hok2 f
  have hat := atB_of hm.inv hb
  have hkr := keyB_rng hc b
  have hkk : keyB c (seenB b p ou ti) = keyB c b := rfl
  have kn := fun W => Next_any p.proto b.tr ou p.flags W
  have kr := fun W => Renews_any p.proto ou W
  obtain ⟨S, hS⟩ : ∃ S, seenB b p ou ti = S := ⟨_, rfl⟩
  have hScs : S.cs = #[.int .i64 b.fl.pr, .int .u32 b.fl.ad, .int .u16 b.fl.po, .int .i64 b.po, .int .i64 (nxt p.proto b.tr ou (fb p.flags 4) (fb p.flags 1) (fb p.flags 2) (fb p.flags 16)), .int .i64 (if renewsS p.proto ou = true then (if b.se < ti then ti else b.se) else b.se)] := by rw [← hS]; rfl
  rw [hS] at hinv hpl hkk ⊢
  clear hS hok hok2
  obtain ⟨k, hk⟩ : ∃ k, keyB c b = k := ⟨_, rfl⟩
  rw [hk] at hat hkr hkk ⊢
  have hlk : lookZ (atB c k L) = .agg b.cs := by rw [hat]; rfl
  clear hk hat
  obtain ⟨⟨b0, b1, b2⟩, b3, b4, b5⟩ := b
  obtain ⟨pr, sr, ds, fl, ki, co, er, ⟨isz, i1, i2, i3, i4, i5⟩, pat, ba⟩ := p
  simp only at he
  subst he
  simp only [Pt.val, Bd.cs] at *
  generalize nxt pr b4 ou (fb fl 4) (fb fl 1) (fb fl 2) (fb fl 16) = nx at *
  generalize hrn : renewsS pr ou = rn at *
  clear hrn
  have q1 := hm.obj.cell 6
  have hgl := hm.obj.lt
  have hob := hm.obj
  replace hinv := Lib.hid hinv
  replace hpl := Lib.hid hpl
  replace hScs := Lib.hid hScs
  replace hlk := Lib.hid hlk
  replace hkk := Lib.hid hkk
  replace kn := Lib.hid kn
  replace kr := Lib.hid kr
  go_enter Tryz.func49, Tryz.ntmps49
  go_upto_region 1 with fail
  have bx := (Blk.new w 57 #[.bool ou, .slice xA xn xc, .int .i64 ti, .int .i64 po]).alloc (.cells #[.int .i64 pr, .int .u16 sr, .int .u16 ds, .int .i64 fl, .int .i64 ki, .int .i64 co, .bool false, .int .i64 isz, .int .i64 i1, .int .i64 i2, .int .i64 i3, .int .u32 i4, .int .u32 i5, .int .i64 pat, .bool ba] 107)
  have bp := Blk.new (w.alloc (.cells #[.bool ou, .slice xA xn xc, .int .i64 ti, .int .i64 po] 57)) 107 #[.int .i64 pr, .int .u16 sr, .int .u16 ds, .int .i64 fl, .int .i64 ki, .int .i64 co, .bool false, .int .i64 isz, .int .i64 i1, .int .i64 i2, .int .i64 i3, .int .u32 i4, .int .u32 i5, .int .i64 pat, .bool ba]
  rw [show (w.alloc (.cells #[.bool ou, .slice xA xn xc, .int .i64 ti, .int .i64 po] 57)).heap.size = w.heap.size + 1 by simp] at bp
  have bel : Below w.heap.size w ((w.alloc (.cells #[.bool ou, .slice xA xn xc, .int .i64 ti, .int .i64 po] 57)).alloc (.cells #[.int .i64 pr, .int .u16 sr, .int .u16 ds, .int .i64 fl, .int .i64 ki, .int .i64 co, .bool false, .int .i64 isz, .int .i64 i1, .int .i64 i2, .int .i64 i3, .int .u32 i4, .int .u32 i5, .int .i64 pat, .bool ba] 107)) := (bel_alloc _ _).alloc (by simp) _
  generalize (w.alloc (.cells #[.bool ou, .slice xA xn xc, .int .i64 ti, .int .i64 po] 57)).alloc (.cells #[.int .i64 pr, .int .u16 sr, .int .u16 ds, .int .i64 fl, .int .i64 ki, .int .i64 co, .bool false, .int .i64 isz, .int .i64 i1, .int .i64 i2, .int .i64 i3, .int .u32 i4, .int .u32 i5, .int .i64 pat, .bool ba] 107) = W at *
  have hM := hm.bel_ bel
  clear q1 hob
  have q6 := hM.obj.cell 6
  have p6 := bp.cell 6
  have hlt := bp.lt
  have bb := (Blk.new W 63 #[.int .i64 0, .int .u32 0, .int .u16 0, .int .i64 0, .int .i64 0, .int .i64 0]).setRow #[.int .i64 b0, .int .u32 b1, .int .u16 b2, .int .i64 b3, .int .i64 b4, .int .i64 b5]
  have belb : Below W.heap.size W ((W.alloc (.cells #[.int .i64 0, .int .u32 0, .int .u16 0, .int .i64 0, .int .i64 0, .int .i64 0] 63)).setRow W.heap.size #[.int .i64 b0, .int .u32 b1, .int .u16 b2, .int .i64 b3, .int .i64 b4, .int .i64 b5]) := below_setRow (bel_alloc W _) (Nat.le_refl _) _
  have hM2 := hM.bel_ belb
  have bx2 := bx.bel belb
  have bp2 := bp.bel belb
  have bel2 := bel_after bel belb
  have hgb0 : w.heap.size + 1 < W.heap.size := bp.lt
  have hlook := hM.pl.look0 hkr
  rw [hlk.out] at hlook
  go_upto_region 3 with (first
    | (refine wpList_look rfl rfl rfl rfl hlook ?_)
    | (refine wpList_stRow rfl rfl rfl rfl rfl (Blk.new W _ _) bd_size rfl (by simp [Value.oneCell']) ?_; generalize (W.alloc (.cells #[.int .i64 0, .int .u32 0, .int .u16 0, .int .i64 0, .int .i64 0, .int .i64 0] 63)).setRow W.heap.size #[.int .i64 b0, .int .u32 b1, .int .u16 b2, .int .i64 b3, .int .i64 b4, .int .i64 b5] = W2 at *; generalize W.heap.size = gb at *))
  clear hlook q6 p6 hM bx bp bel belb hlt
  have x0 := bx2.cell 0
  have p0 := bp2.cell 0
  have p3 := bp2.cell 3
  have c4 := bb.cell 4
  have f4 := bb.frozen 4
  go_wp2_with fail
  refine (kn.out _).mono ?_
  rintro e w' ⟨rfl, rfl⟩
  go_upto_region 4 with fail
  clear x0 p0 p3 c4 f4 kn
  have hu := Upd.one W2 gb 4 (.int .i64 nx)
  have hM3 : NatM (W2.setCell ⟨gb, 4, none⟩ (.int .i64 nx)) c gn pb fm np nf L := ⟨hM2.obj.upd hu (fun e => by have := hM2.obj; rw [e] at this; have h2 : W2.heap[gb]? = _ := this; rw [show W2.heap[gb]? = _ from bb] at h2; cases h2), hM2.pl.upd hu (fun e => hM2.pl.notBlk bb e.symm), hM2.fl.upd hu (fun e => hM2.fl.notBlk bb e.symm), hM2.ne, hM2.inv⟩
  have bel3 := bel2.setCell (p := ⟨gb, 4, none⟩) (by show w.heap.size ≤ gb; omega) (.int .i64 nx)
  have bx3 := bx2.far (p := ⟨gb, 4, none⟩) (by show w.heap.size ≠ gb; omega) (.int .i64 nx)
  have bp3 := bp2.far (p := ⟨gb, 4, none⟩) (by show w.heap.size + 1 ≠ gb; omega) (.int .i64 nx)
  have bb3 : Blk (W2.setCell ⟨gb, 4, none⟩ (.int .i64 nx)) gb 63 #[.int .i64 b0, .int .u32 b1, .int .u16 b2, .int .i64 b3, .int .i64 nx, .int .i64 b5] := bb.set_ 4 (.int .i64 nx)
  clear hu hM2 bel2 bx2 bp2 bb
  generalize W2.setCell ⟨gb, 4, none⟩ (.int .i64 nx) = W3 at *
  have x0 := bx3.cell 0
  have p0 := bp3.cell 0
  go_wp2_with fail
  refine (kr.out _).mono ?_
  rintro e w' ⟨rfl, rfl⟩
  clear x0 p0 kr
  obtain ⟨V, hV⟩ : ∃ V, (if rn = true then (if b5 < ti then ti else b5) else b5) = V := ⟨_, rfl⟩
  have hScs2 := hScs.out
  rw [hV] at hScs2
  replace hScs2 := Lib.hid hScs2
  cases rn with
  | true =>
    simp only [if_true] at hV
    have x2 := bx3.cell 2
    have c5 := bb3.cell 5
    have f5 := bb3.frozen 5
    go_upto_region 6 with fail
    clear x2 c5 f5
    have hu := Upd.one W3 gb 5 (.int .i64 V)
    have hM4 : NatM (W3.setCell ⟨gb, 5, none⟩ (.int .i64 V)) c gn pb fm np nf L := ⟨hM3.obj.upd hu (fun e => by have := hM3.obj; rw [e] at this; have h2 : W3.heap[gb]? = _ := this; rw [show W3.heap[gb]? = _ from bb3] at h2; cases h2), hM3.pl.upd hu (fun e => hM3.pl.notBlk bb3 e.symm), hM3.fl.upd hu (fun e => hM3.fl.notBlk bb3 e.symm), hM3.ne, hM3.inv⟩
    have bel4 := bel3.setCell (p := ⟨gb, 5, none⟩) (by show w.heap.size ≤ gb; omega) (.int .i64 V)
    have bb4 : Blk (W3.setCell ⟨gb, 5, none⟩ (.int .i64 V)) gb 63 #[.int .i64 b0, .int .u32 b1, .int .u16 b2, .int .i64 b3, .int .i64 nx, .int .i64 V] := bb3.set_ 5 (.int .i64 V)
    clear hu hM3 bel3 bx3 bp3 bb3 hV
    generalize W3.setCell ⟨gb, 5, none⟩ (.int .i64 V) = W4 at *
    have z6 : ∀ t : Tw (fun w' => Blk w' gn 117 #[.int .i64 c.wk, .int .u32 c.ou, .int .i64 c.lo, .int .i64 c.hi, .int .i64 c.bk, .int .i64 c.rg, .map (some pb), .map (some fm)] ∧ Blk w' gb 63 #[.int .i64 b0, .int .u32 b1, .int .u16 b2, .int .i64 b3, .int .i64 nx, .int .i64 V]), t.w.cell? ⟨gn, 6, none⟩ = some (.map (some pb)) := fun t => t.h.1.cell 6
    have z8 : ∀ w', (∃ t : Tw (fun w' => Blk w' gn 117 #[.int .i64 c.wk, .int .u32 c.ou, .int .i64 c.lo, .int .i64 c.hi, .int .i64 c.bk, .int .i64 c.rg, .map (some pb), .map (some fm)] ∧ Blk w' gb 63 #[.int .i64 b0, .int .u32 b1, .int .u16 b2, .int .i64 b3, .int .i64 nx, .int .i64 V]), w' = t.w) → Blk w' gb 63 #[.int .i64 b0, .int .u32 b1, .int .u16 b2, .int .i64 b3, .int .i64 nx, .int .i64 V] := fun w' ⟨t, ht⟩ => ht ▸ t.h.2
    have zz : Nonempty (Tw (fun w' => Blk w' gn 117 #[.int .i64 c.wk, .int .u32 c.ou, .int .i64 c.lo, .int .i64 c.hi, .int .i64 c.bk, .int .i64 c.rg, .map (some pb), .map (some fm)] ∧ Blk w' gb 63 #[.int .i64 b0, .int .u32 b1, .int .u16 b2, .int .i64 b3, .int .i64 nx, .int .i64 V])) := ⟨⟨_, hM4.obj, bb4⟩⟩
    refine wp_region_plan (fun w' => Blk w' gn 117 #[.int .i64 c.wk, .int .u32 c.ou, .int .i64 c.lo, .int .i64 c.hi, .int .i64 c.bk, .int .i64 c.rg, .map (some pb), .map (some fm)] ∧ Blk w' gb 63 #[.int .i64 b0, .int .u32 b1, .int .u16 b2, .int .i64 b3, .int .i64 nx, .int .i64 V]) [(0, true), (1, true), (2, true), (3, true), (4, true), (5, true), (6, false)] (by kernel_rfl) (by kernel_rfl) (by kernel_rfl) (by kernel_rfl) ⟨hM4.obj.drew, bb4.drew⟩ ?_
    replace hM4 := hM4.drew
    replace bb4 := bb4.drew
    replace bel4 := bel4.drew
    generalize W4.drew = W5 at *
    refine wpPl_qs 6 _ _ _ (by kernel_rfl) (by kernel_rfl) (by simp) ?_
    unfold clsS
    simp only [List.take_succ_cons, List.take_zero, List.drop_succ_cons, List.drop_zero, List.filterMap_cons, List.filterMap_nil, List.getElem?_toArray, List.getElem?_cons_zero, List.getElem?_cons_succ]
    repeat (first
      | go_big_quiet_skip
      | (go_big_quiet_want; first | (refine quiet_ldRow rfl rfl z8 Tryz.underlying63 bd_size ?_; go_simp; go_big_quiet_on) | (go_big_quiet_op; go_big_quiet_on))
      | (refine id (?_ : wpQuiet _ _ _ _ (_ :: _) _); first | go_big_quiet_skip | (go_big_quiet_want; first | (refine quiet_ldRow rfl rfl z8 Tryz.underlying63 bd_size ?_; go_simp; go_big_quiet_on) | (go_big_quiet_op; go_big_quiet_on))))
    refine wpQuiet_nil ?_
    obtain ⟨W6, hrun, hpl6, hup⟩ := hM4.pl.put (by omega) S (by rw [hkk.out]; exact hkr)
    have hS2 : S.cs = #[.int .i64 b0, .int .u32 b1, .int .u16 b2, .int .i64 b3, .int .i64 nx, .int .i64 V] := hScs2.out
    rw [hkk.out, hS2] at hrun
    refine wpPl_e _ (by rfl) (by kernel_rfl) (fun K hK => ?_)
    refine wp_upd rfl rfl rfl rfl hrun ?_
    refine hK _ _ ⟨hM4.obj.upd hup (fun e => hM4.pl.notBlk hM4.obj e), bb4.upd hup (fun e => hM4.pl.notBlk bb4 e)⟩ ?_
    clear hK K
    unfold wpPl
    refine NoPanic.normal ?_
    go_wp2_with fail
    go_end0
    exact ⟨rfl, ⟨hM4.obj.upd hup (fun e => hM4.pl.notBlk hM4.obj e), hpl6, (hM4.fl.upd hup (fun e => hM4.ne e.symm)).congr (fun f => (hpl.out f).symm), hM4.ne, hinv.out⟩, (Upd.of_below bel4 _).trans hup⟩
  | false =>
    simp only [Bool.false_eq_true, if_false] at hV
    subst hV
    go_upto_region 6 with fail
    have hM4 := hM3
    have bel4 := bel3
    have bb4 := bb3
    clear hM3 bel3 bx3 bp3 bb3
    have z6 : ∀ t : Tw (fun w' => Blk w' gn 117 #[.int .i64 c.wk, .int .u32 c.ou, .int .i64 c.lo, .int .i64 c.hi, .int .i64 c.bk, .int .i64 c.rg, .map (some pb), .map (some fm)] ∧ Blk w' gb 63 #[.int .i64 b0, .int .u32 b1, .int .u16 b2, .int .i64 b3, .int .i64 nx, .int .i64 b5]), t.w.cell? ⟨gn, 6, none⟩ = some (.map (some pb)) := fun t => t.h.1.cell 6
    have z8 : ∀ w', (∃ t : Tw (fun w' => Blk w' gn 117 #[.int .i64 c.wk, .int .u32 c.ou, .int .i64 c.lo, .int .i64 c.hi, .int .i64 c.bk, .int .i64 c.rg, .map (some pb), .map (some fm)] ∧ Blk w' gb 63 #[.int .i64 b0, .int .u32 b1, .int .u16 b2, .int .i64 b3, .int .i64 nx, .int .i64 b5]), w' = t.w) → Blk w' gb 63 #[.int .i64 b0, .int .u32 b1, .int .u16 b2, .int .i64 b3, .int .i64 nx, .int .i64 b5] := fun w' ⟨t, ht⟩ => ht ▸ t.h.2
    have zz : Nonempty (Tw (fun w' => Blk w' gn 117 #[.int .i64 c.wk, .int .u32 c.ou, .int .i64 c.lo, .int .i64 c.hi, .int .i64 c.bk, .int .i64 c.rg, .map (some pb), .map (some fm)] ∧ Blk w' gb 63 #[.int .i64 b0, .int .u32 b1, .int .u16 b2, .int .i64 b3, .int .i64 nx, .int .i64 b5])) := ⟨⟨_, hM4.obj, bb4⟩⟩
    refine wp_region_plan (fun w' => Blk w' gn 117 #[.int .i64 c.wk, .int .u32 c.ou, .int .i64 c.lo, .int .i64 c.hi, .int .i64 c.bk, .int .i64 c.rg, .map (some pb), .map (some fm)] ∧ Blk w' gb 63 #[.int .i64 b0, .int .u32 b1, .int .u16 b2, .int .i64 b3, .int .i64 nx, .int .i64 b5]) [(0, true), (1, true), (2, true), (3, true), (4, true), (5, true), (6, false)] (by kernel_rfl) (by kernel_rfl) (by kernel_rfl) (by kernel_rfl) ⟨hM4.obj.drew, bb4.drew⟩ ?_
    replace hM4 := hM4.drew
    replace bb4 := bb4.drew
    replace bel4 := bel4.drew
    generalize W3.drew = W5 at *
    refine wpPl_qs 6 _ _ _ (by kernel_rfl) (by kernel_rfl) (by simp) ?_
    unfold clsS
    simp only [List.take_succ_cons, List.take_zero, List.drop_succ_cons, List.drop_zero, List.filterMap_cons, List.filterMap_nil, List.getElem?_toArray, List.getElem?_cons_zero, List.getElem?_cons_succ]
    repeat (first
      | go_big_quiet_skip
      | (go_big_quiet_want; first | (refine quiet_ldRow rfl rfl z8 Tryz.underlying63 bd_size ?_; go_simp; go_big_quiet_on) | (go_big_quiet_op; go_big_quiet_on))
      | (refine id (?_ : wpQuiet _ _ _ _ (_ :: _) _); first | go_big_quiet_skip | (go_big_quiet_want; first | (refine quiet_ldRow rfl rfl z8 Tryz.underlying63 bd_size ?_; go_simp; go_big_quiet_on) | (go_big_quiet_op; go_big_quiet_on))))
    refine wpQuiet_nil ?_
    obtain ⟨W6, hrun, hpl6, hup⟩ := hM4.pl.put (by omega) S (by rw [hkk.out]; exact hkr)
    have hS2 : S.cs = #[.int .i64 b0, .int .u32 b1, .int .u16 b2, .int .i64 b3, .int .i64 nx, .int .i64 b5] := hScs2.out
    rw [hkk.out, hS2] at hrun
    refine wpPl_e _ (by rfl) (by kernel_rfl) (fun K hK => ?_)
    refine wp_upd rfl rfl rfl rfl hrun ?_
    refine hK _ _ ⟨hM4.obj.upd hup (fun e => hM4.pl.notBlk hM4.obj e), bb4.upd hup (fun e => hM4.pl.notBlk bb4 e)⟩ ?_
    clear hK K
    unfold wpPl
    refine NoPanic.normal ?_
    go_wp2_with fail
    go_end0
    exact ⟨rfl, ⟨hM4.obj.upd hup (fun e => hM4.pl.notBlk hM4.obj e), hpl6, (hM4.fl.upd hup (fun e => hM4.ne e.symm)).congr (fun f => (hpl.out f).symm), hM4.ne, hinv.out⟩, (Upd.of_below bel4 _).trans hup⟩
end Go.Proofs.YtbckoohljkmahaaGreat
namespace Go.Proofs.YtbckoohljkmahaaGreat
set_option linter.unusedVariables false
set_option linter.unusedSimpArgs false
open Go.RowKit
set_option maxRecDepth 100000 in
set_option maxHeartbeats 4000000 in
theorem Begins2_any (out : Bool) (l : List Int) (A : Option Addr) (len c : Nat) (w : World) (hr : Rd .u8 w w.heap.size A len l) (hlc : len ≤ c) (hcm : c ≤ 9223372036854775807) (hl : len ≤ 60000) :
    Calls Tryz.prog 17 #[.bool out, .slice A len c] w fun e w' => e = .returned (.bool (begP out l)) ∧ Below w.heap.size w w' := by
  have k1 := fun W (h : Below w.heap.size w W) => read_any l A len c W ((hr.below h).more h.size) hlc hcm hl
  unfold begP
  unfold ReadR at k1
  clear hr
  generalize rdE l = E at *
  generalize rdP l = p at *
  generalize rdH l = h at *
  obtain ⟨h0, h1, h2, h3, h4, h5⟩ := h
  obtain ⟨pr, sr, ds, fl, ki, co, er, ⟨isz, i1, i2, i3, i4, i5⟩, pat, ba⟩ := p
  simp only [Hd.val, Pt.val] at k1 ⊢
  have kb := fun W => Begins_any pr ki fl W
  generalize beginsS pr ki fl = B at *
  replace k1 := Lib.hid k1
  replace kb := Lib.hid kb
  cases out with
  | false =>
    simp only [Bool.false_and]
    go_enter Tryz.func17, Tryz.ntmps17
    have bel := Below.refl w.heap.size w
    go_wp2_with fail
    refine (k1.out _ bel).mono ?_
    rintro e w2 ⟨rfl, hb⟩
    replace bel := bel_after bel hb
    clear hb k1
    have bh1 := (Blk.new w2 105 #[.int .i64 0, .int .i64 0, .int .i64 0, .int .i64 0, .int .u32 0, .int .u32 0]).alloc (.cells #[.int .i64 0, .int .u16 0, .int .u16 0, .int .i64 0, .int .i64 0, .int .i64 0, .bool false, .int .i64 0, .int .i64 0, .int .i64 0, .int .i64 0, .int .u32 0, .int .u32 0, .int .i64 0, .bool false] 107)
    have bp1 := Blk.new (w2.alloc (.cells #[.int .i64 0, .int .i64 0, .int .i64 0, .int .i64 0, .int .u32 0, .int .u32 0] 105)) 107 #[.int .i64 0, .int .u16 0, .int .u16 0, .int .i64 0, .int .i64 0, .int .i64 0, .bool false, .int .i64 0, .int .i64 0, .int .i64 0, .int .i64 0, .int .u32 0, .int .u32 0, .int .i64 0, .bool false]
    rw [show (w2.alloc (.cells #[.int .i64 0, .int .i64 0, .int .i64 0, .int .i64 0, .int .u32 0, .int .u32 0] 105)).heap.size = w2.heap.size + 1 by simp] at bp1
    replace bp1 := bp1.setRow_far (g' := w2.heap.size) (by omega) #[.int .i64 h0, .int .i64 h1, .int .i64 h2, .int .i64 h3, .int .u32 h4, .int .u32 h5]
    have bp := bp1.setRow #[.int .i64 pr, .int .u16 sr, .int .u16 ds, .int .i64 fl, .int .i64 ki, .int .i64 co, .bool er, .int .i64 isz, .int .i64 i1, .int .i64 i2, .int .i64 i3, .int .u32 i4, .int .u32 i5, .int .i64 pat, .bool ba]
    replace bel := below_setRow (g := w2.heap.size + 1) (below_setRow (((bel.alloc bel.size (.cells #[.int .i64 0, .int .i64 0, .int .i64 0, .int .i64 0, .int .u32 0, .int .u32 0] 105)).alloc (by simp; have := bel.size; omega) (.cells #[.int .i64 0, .int .u16 0, .int .u16 0, .int .i64 0, .int .i64 0, .int .i64 0, .bool false, .int .i64 0, .int .i64 0, .int .i64 0, .int .i64 0, .int .u32 0, .int .u32 0, .int .i64 0, .bool false] 107))) bel.size #[.int .i64 h0, .int .i64 h1, .int .i64 h2, .int .i64 h3, .int .u32 h4, .int .u32 h5]) (by have := bel.size; omega) #[.int .i64 pr, .int .u16 sr, .int .u16 ds, .int .i64 fl, .int .i64 ki, .int .i64 co, .bool er, .int .i64 isz, .int .i64 i1, .int .i64 i2, .int .i64 i3, .int .u32 i4, .int .u32 i5, .int .i64 pat, .bool ba]
    go_upto_region 2 with (first | (refine wpList_stRow rfl rfl rfl rfl rfl bh1 hd_size rfl (by simp [Value.oneCell']) ?_) | (refine wpList_stRow rfl rfl rfl rfl rfl bp1 pt_size rfl (by simp [Value.oneCell']) ?_; generalize (((w2.alloc (.cells #[.int .i64 0, .int .i64 0, .int .i64 0, .int .i64 0, .int .u32 0, .int .u32 0] 105)).alloc (.cells #[.int .i64 0, .int .u16 0, .int .u16 0, .int .i64 0, .int .i64 0, .int .i64 0, .bool false, .int .i64 0, .int .i64 0, .int .i64 0, .int .i64 0, .int .u32 0, .int .u32 0, .int .i64 0, .bool false] 107)).setRow w2.heap.size #[.int .i64 h0, .int .i64 h1, .int .i64 h2, .int .i64 h3, .int .u32 h4, .int .u32 h5]).setRow (w2.heap.size + 1) #[.int .i64 pr, .int .u16 sr, .int .u16 ds, .int .i64 fl, .int .i64 ki, .int .i64 co, .bool er, .int .i64 isz, .int .i64 i1, .int .i64 i2, .int .i64 i3, .int .u32 i4, .int .u32 i5, .int .i64 pat, .bool ba] = W4 at *; generalize w2.heap.size = gh at *; clear bh1 bp1))
    have p0 := bp.cell 0
    have p3 := bp.cell 3
    have p4 := bp.cell 4
    have p6 := bp.cell 6
    go_wp2_with fail
    go_ret
    exact ⟨rfl, bel⟩
  | true =>
    by_cases hE : E = 0
    · subst hE
      cases er with
      | true =>
        simp only [Bool.not_true, Bool.and_false, Bool.false_and]
        go_enter Tryz.func17, Tryz.ntmps17
        have bel := Below.refl w.heap.size w
        go_wp2_with fail
        refine (k1.out _ bel).mono ?_
        rintro e w2 ⟨rfl, hb⟩
        replace bel := bel_after bel hb
        clear hb k1
        have bh1 := (Blk.new w2 105 #[.int .i64 0, .int .i64 0, .int .i64 0, .int .i64 0, .int .u32 0, .int .u32 0]).alloc (.cells #[.int .i64 0, .int .u16 0, .int .u16 0, .int .i64 0, .int .i64 0, .int .i64 0, .bool false, .int .i64 0, .int .i64 0, .int .i64 0, .int .i64 0, .int .u32 0, .int .u32 0, .int .i64 0, .bool false] 107)
        have bp1 := Blk.new (w2.alloc (.cells #[.int .i64 0, .int .i64 0, .int .i64 0, .int .i64 0, .int .u32 0, .int .u32 0] 105)) 107 #[.int .i64 0, .int .u16 0, .int .u16 0, .int .i64 0, .int .i64 0, .int .i64 0, .bool false, .int .i64 0, .int .i64 0, .int .i64 0, .int .i64 0, .int .u32 0, .int .u32 0, .int .i64 0, .bool false]
        rw [show (w2.alloc (.cells #[.int .i64 0, .int .i64 0, .int .i64 0, .int .i64 0, .int .u32 0, .int .u32 0] 105)).heap.size = w2.heap.size + 1 by simp] at bp1
        replace bp1 := bp1.setRow_far (g' := w2.heap.size) (by omega) #[.int .i64 h0, .int .i64 h1, .int .i64 h2, .int .i64 h3, .int .u32 h4, .int .u32 h5]
        have bp := bp1.setRow #[.int .i64 pr, .int .u16 sr, .int .u16 ds, .int .i64 fl, .int .i64 ki, .int .i64 co, .bool true, .int .i64 isz, .int .i64 i1, .int .i64 i2, .int .i64 i3, .int .u32 i4, .int .u32 i5, .int .i64 pat, .bool ba]
        replace bel := below_setRow (g := w2.heap.size + 1) (below_setRow (((bel.alloc bel.size (.cells #[.int .i64 0, .int .i64 0, .int .i64 0, .int .i64 0, .int .u32 0, .int .u32 0] 105)).alloc (by simp; have := bel.size; omega) (.cells #[.int .i64 0, .int .u16 0, .int .u16 0, .int .i64 0, .int .i64 0, .int .i64 0, .bool false, .int .i64 0, .int .i64 0, .int .i64 0, .int .i64 0, .int .u32 0, .int .u32 0, .int .i64 0, .bool false] 107))) bel.size #[.int .i64 h0, .int .i64 h1, .int .i64 h2, .int .i64 h3, .int .u32 h4, .int .u32 h5]) (by have := bel.size; omega) #[.int .i64 pr, .int .u16 sr, .int .u16 ds, .int .i64 fl, .int .i64 ki, .int .i64 co, .bool true, .int .i64 isz, .int .i64 i1, .int .i64 i2, .int .i64 i3, .int .u32 i4, .int .u32 i5, .int .i64 pat, .bool ba]
        go_upto_region 2 with (first | (refine wpList_stRow rfl rfl rfl rfl rfl bh1 hd_size rfl (by simp [Value.oneCell']) ?_) | (refine wpList_stRow rfl rfl rfl rfl rfl bp1 pt_size rfl (by simp [Value.oneCell']) ?_; generalize (((w2.alloc (.cells #[.int .i64 0, .int .i64 0, .int .i64 0, .int .i64 0, .int .u32 0, .int .u32 0] 105)).alloc (.cells #[.int .i64 0, .int .u16 0, .int .u16 0, .int .i64 0, .int .i64 0, .int .i64 0, .bool false, .int .i64 0, .int .i64 0, .int .i64 0, .int .i64 0, .int .u32 0, .int .u32 0, .int .i64 0, .bool false] 107)).setRow w2.heap.size #[.int .i64 h0, .int .i64 h1, .int .i64 h2, .int .i64 h3, .int .u32 h4, .int .u32 h5]).setRow (w2.heap.size + 1) #[.int .i64 pr, .int .u16 sr, .int .u16 ds, .int .i64 fl, .int .i64 ki, .int .i64 co, .bool true, .int .i64 isz, .int .i64 i1, .int .i64 i2, .int .i64 i3, .int .u32 i4, .int .u32 i5, .int .i64 pat, .bool ba] = W4 at *; generalize w2.heap.size = gh at *; clear bh1 bp1))
        have p0 := bp.cell 0
        have p3 := bp.cell 3
        have p4 := bp.cell 4
        have p6 := bp.cell 6
        go_wp2_with fail
        go_ret
        exact ⟨rfl, bel⟩
      | false =>
        simp only [Bool.not_false, Bool.and_true, Bool.true_and, BEq.rfl]
        go_enter Tryz.func17, Tryz.ntmps17
        have bel := Below.refl w.heap.size w
        go_wp2_with fail
        refine (k1.out _ bel).mono ?_
        rintro e w2 ⟨rfl, hb⟩
        replace bel := bel_after bel hb
        clear hb k1
        have bh1 := (Blk.new w2 105 #[.int .i64 0, .int .i64 0, .int .i64 0, .int .i64 0, .int .u32 0, .int .u32 0]).alloc (.cells #[.int .i64 0, .int .u16 0, .int .u16 0, .int .i64 0, .int .i64 0, .int .i64 0, .bool false, .int .i64 0, .int .i64 0, .int .i64 0, .int .i64 0, .int .u32 0, .int .u32 0, .int .i64 0, .bool false] 107)
        have bp1 := Blk.new (w2.alloc (.cells #[.int .i64 0, .int .i64 0, .int .i64 0, .int .i64 0, .int .u32 0, .int .u32 0] 105)) 107 #[.int .i64 0, .int .u16 0, .int .u16 0, .int .i64 0, .int .i64 0, .int .i64 0, .bool false, .int .i64 0, .int .i64 0, .int .i64 0, .int .i64 0, .int .u32 0, .int .u32 0, .int .i64 0, .bool false]
        rw [show (w2.alloc (.cells #[.int .i64 0, .int .i64 0, .int .i64 0, .int .i64 0, .int .u32 0, .int .u32 0] 105)).heap.size = w2.heap.size + 1 by simp] at bp1
        replace bp1 := bp1.setRow_far (g' := w2.heap.size) (by omega) #[.int .i64 h0, .int .i64 h1, .int .i64 h2, .int .i64 h3, .int .u32 h4, .int .u32 h5]
        have bp := bp1.setRow #[.int .i64 pr, .int .u16 sr, .int .u16 ds, .int .i64 fl, .int .i64 ki, .int .i64 co, .bool false, .int .i64 isz, .int .i64 i1, .int .i64 i2, .int .i64 i3, .int .u32 i4, .int .u32 i5, .int .i64 pat, .bool ba]
        replace bel := below_setRow (g := w2.heap.size + 1) (below_setRow (((bel.alloc bel.size (.cells #[.int .i64 0, .int .i64 0, .int .i64 0, .int .i64 0, .int .u32 0, .int .u32 0] 105)).alloc (by simp; have := bel.size; omega) (.cells #[.int .i64 0, .int .u16 0, .int .u16 0, .int .i64 0, .int .i64 0, .int .i64 0, .bool false, .int .i64 0, .int .i64 0, .int .i64 0, .int .i64 0, .int .u32 0, .int .u32 0, .int .i64 0, .bool false] 107))) bel.size #[.int .i64 h0, .int .i64 h1, .int .i64 h2, .int .i64 h3, .int .u32 h4, .int .u32 h5]) (by have := bel.size; omega) #[.int .i64 pr, .int .u16 sr, .int .u16 ds, .int .i64 fl, .int .i64 ki, .int .i64 co, .bool false, .int .i64 isz, .int .i64 i1, .int .i64 i2, .int .i64 i3, .int .u32 i4, .int .u32 i5, .int .i64 pat, .bool ba]
        go_upto_region 2 with (first | (refine wpList_stRow rfl rfl rfl rfl rfl bh1 hd_size rfl (by simp [Value.oneCell']) ?_) | (refine wpList_stRow rfl rfl rfl rfl rfl bp1 pt_size rfl (by simp [Value.oneCell']) ?_; generalize (((w2.alloc (.cells #[.int .i64 0, .int .i64 0, .int .i64 0, .int .i64 0, .int .u32 0, .int .u32 0] 105)).alloc (.cells #[.int .i64 0, .int .u16 0, .int .u16 0, .int .i64 0, .int .i64 0, .int .i64 0, .bool false, .int .i64 0, .int .i64 0, .int .i64 0, .int .i64 0, .int .u32 0, .int .u32 0, .int .i64 0, .bool false] 107)).setRow w2.heap.size #[.int .i64 h0, .int .i64 h1, .int .i64 h2, .int .i64 h3, .int .u32 h4, .int .u32 h5]).setRow (w2.heap.size + 1) #[.int .i64 pr, .int .u16 sr, .int .u16 ds, .int .i64 fl, .int .i64 ki, .int .i64 co, .bool false, .int .i64 isz, .int .i64 i1, .int .i64 i2, .int .i64 i3, .int .u32 i4, .int .u32 i5, .int .i64 pat, .bool ba] = W4 at *; generalize w2.heap.size = gh at *; clear bh1 bp1))
        have p0 := bp.cell 0
        have p3 := bp.cell 3
        have p4 := bp.cell 4
        have p6 := bp.cell 6
        go_wp2_with fail
        refine (kb.out _).mono ?_
        rintro e w' ⟨rfl, rfl⟩
        go_wp2_with fail
        go_ret
        exact ⟨rfl, bel⟩
    · have d1 : (E == 0) = false := by simpa using hE
      rw [d1]
      simp only [Bool.and_false, Bool.false_and]
      clear hE
      go_enter Tryz.func17, Tryz.ntmps17
      have bel := Below.refl w.heap.size w
      go_wp2_with fail
      refine (k1.out _ bel).mono ?_
      rintro e w2 ⟨rfl, hb⟩
      replace bel := bel_after bel hb
      clear hb k1
      have bh1 := (Blk.new w2 105 #[.int .i64 0, .int .i64 0, .int .i64 0, .int .i64 0, .int .u32 0, .int .u32 0]).alloc (.cells #[.int .i64 0, .int .u16 0, .int .u16 0, .int .i64 0, .int .i64 0, .int .i64 0, .bool false, .int .i64 0, .int .i64 0, .int .i64 0, .int .i64 0, .int .u32 0, .int .u32 0, .int .i64 0, .bool false] 107)
      have bp1 := Blk.new (w2.alloc (.cells #[.int .i64 0, .int .i64 0, .int .i64 0, .int .i64 0, .int .u32 0, .int .u32 0] 105)) 107 #[.int .i64 0, .int .u16 0, .int .u16 0, .int .i64 0, .int .i64 0, .int .i64 0, .bool false, .int .i64 0, .int .i64 0, .int .i64 0, .int .i64 0, .int .u32 0, .int .u32 0, .int .i64 0, .bool false]
      rw [show (w2.alloc (.cells #[.int .i64 0, .int .i64 0, .int .i64 0, .int .i64 0, .int .u32 0, .int .u32 0] 105)).heap.size = w2.heap.size + 1 by simp] at bp1
      replace bp1 := bp1.setRow_far (g' := w2.heap.size) (by omega) #[.int .i64 h0, .int .i64 h1, .int .i64 h2, .int .i64 h3, .int .u32 h4, .int .u32 h5]
      have bp := bp1.setRow #[.int .i64 pr, .int .u16 sr, .int .u16 ds, .int .i64 fl, .int .i64 ki, .int .i64 co, .bool er, .int .i64 isz, .int .i64 i1, .int .i64 i2, .int .i64 i3, .int .u32 i4, .int .u32 i5, .int .i64 pat, .bool ba]
      replace bel := below_setRow (g := w2.heap.size + 1) (below_setRow (((bel.alloc bel.size (.cells #[.int .i64 0, .int .i64 0, .int .i64 0, .int .i64 0, .int .u32 0, .int .u32 0] 105)).alloc (by simp; have := bel.size; omega) (.cells #[.int .i64 0, .int .u16 0, .int .u16 0, .int .i64 0, .int .i64 0, .int .i64 0, .bool false, .int .i64 0, .int .i64 0, .int .i64 0, .int .i64 0, .int .u32 0, .int .u32 0, .int .i64 0, .bool false] 107))) bel.size #[.int .i64 h0, .int .i64 h1, .int .i64 h2, .int .i64 h3, .int .u32 h4, .int .u32 h5]) (by have := bel.size; omega) #[.int .i64 pr, .int .u16 sr, .int .u16 ds, .int .i64 fl, .int .i64 ki, .int .i64 co, .bool er, .int .i64 isz, .int .i64 i1, .int .i64 i2, .int .i64 i3, .int .u32 i4, .int .u32 i5, .int .i64 pat, .bool ba]
      go_upto_region 2 with (first | (refine wpList_stRow rfl rfl rfl rfl rfl bh1 hd_size rfl (by simp [Value.oneCell']) ?_) | (refine wpList_stRow rfl rfl rfl rfl rfl bp1 pt_size rfl (by simp [Value.oneCell']) ?_; generalize (((w2.alloc (.cells #[.int .i64 0, .int .i64 0, .int .i64 0, .int .i64 0, .int .u32 0, .int .u32 0] 105)).alloc (.cells #[.int .i64 0, .int .u16 0, .int .u16 0, .int .i64 0, .int .i64 0, .int .i64 0, .bool false, .int .i64 0, .int .i64 0, .int .i64 0, .int .i64 0, .int .u32 0, .int .u32 0, .int .i64 0, .bool false] 107)).setRow w2.heap.size #[.int .i64 h0, .int .i64 h1, .int .i64 h2, .int .i64 h3, .int .u32 h4, .int .u32 h5]).setRow (w2.heap.size + 1) #[.int .i64 pr, .int .u16 sr, .int .u16 ds, .int .i64 fl, .int .i64 ki, .int .i64 co, .bool er, .int .i64 isz, .int .i64 i1, .int .i64 i2, .int .i64 i3, .int .u32 i4, .int .u32 i5, .int .i64 pat, .bool ba] = W4 at *; generalize w2.heap.size = gh at *; clear bh1 bp1))
      have p0 := bp.cell 0
      have p3 := bp.cell 3
      have p4 := bp.cell 4
      have p6 := bp.cell 6
      go_wp2_with fail
      go_ret
      exact ⟨rfl, bel⟩
end Go.Proofs.YtbckoohljkmahaaGreat
