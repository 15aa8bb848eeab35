/- Contracts and plain facts. -/
import Derived.Test.YtbichbdcibchlaaGreatPf01
import Derived.Test.YtbichbdcibchlaaGreatRows
import Derived.ProofKit
import Derived.OpenShut
import Derived.ShutString
import Derived.ChangeOld
import Derived.Deep.Slices
import Derived.Test.YtbichbdcibchlaaGreatProg
import Derived.RegionTactic
import Derived.Deep.DeepCutAuto
import Derived.Deep.CutBlock
import Derived.Lib.LazyBuf
namespace Go.Proofs.YtbichbdcibchlaaGreat
set_option linter.unusedVariables false
set_option linter.unusedSimpArgs false
set_option maxRecDepth 100000
set_option maxHeartbeats 16000000
open Go.RowKit
theorem and32 (f : Int) (m : Nat) (hm : m < 32) : bits .and .i64 f (m : Int) = (((f % 32).toNat &&& m : Nat) : Int) := by
 show IntKind.i64.wrap ((BitVec.ofInt 64 f &&& BitVec.ofInt 64 (m : Int)).toNat : Int) = _
 rw [BitVec.ofInt_natCast, BitVec.toNat_and, BitVec.toNat_ofNat, Nat.mod_eq_of_lt (by omega)]
 have hb : ((BitVec.ofInt 64 f).toNat : Int) = f % 18446744073709551616 := by rw [BitVec.toNat_ofInt]; omega
 have h1 : (BitVec.ofInt 64 f).toNat &&& m ≤ m := Nat.and_le_right
 have h2 : ((BitVec.ofInt 64 f).toNat &&& m) % 2 ^ 5 = ((BitVec.ofInt 64 f).toNat % 2 ^ 5) &&& (m % 2 ^ 5) := Nat.and_mod_two_pow
 rw [Nat.mod_eq_of_lt (show (BitVec.ofInt 64 f).toNat &&& m < 2 ^ 5 by omega), Nat.mod_eq_of_lt (show m < 2 ^ 5 by omega)] at h2
 have h3 : (BitVec.ofInt 64 f).toNat % 2 ^ 5 = (f % 32).toNat := by omega
 rw [h3] at h2
 rw [h2]
 exact IntWalk.i64_in _ (by omega)
def fb (f m : Int) : Bool := bits .and .i64 f m != 0
theorem fb_nat (f : Int) (m : Nat) (hm : m < 32) : fb f m = ((f % 32).toNat &&& m != 0) := by
 unfold fb; rw [and32 f m hm, Bool.eq_iff_iff]; simp
theorem nat18 : ∀ x : Fin 32, ((x.val &&& 18) == 2) = ((x.val &&& 2 != 0) && !(x.val &&& 16 != 0)) := by decide +kernel
theorem nat23 : ∀ x : Fin 32, ((x.val &&& 23) == 2) = ((x.val &&& 2 != 0) && !(x.val &&& 1 != 0) && !(x.val &&& 4 != 0) && !(x.val &&& 16 != 0)) := by decide +kernel
theorem flags18 (f : Int) : (bits .and .i64 f 18 == 2) = (fb f 2 && !fb f 16) := by
 have h := nat18 ⟨(f % 32).toNat, by omega⟩
 have e1 := fb_nat f 2 (by omega)
 have e2 := fb_nat f 16 (by omega)
 rw [show fb f 2 = _ from e1, show fb f 16 = _ from e2, ← h]
 have := and32 f 18 (by omega)
 rw [show bits .and .i64 f 18 = _ from this, Bool.eq_iff_iff]; simp; omega
theorem flags23 (f : Int) : (bits .and .i64 f 23 == 2) = (fb f 2 && !fb f 1 && !fb f 4 && !fb f 16) := by
 have h := nat23 ⟨(f % 32).toNat, by omega⟩
 rw [show fb f 2 = _ from fb_nat f 2 (by omega), show fb f 16 = _ from fb_nat f 16 (by omega), show fb f 1 = _ from fb_nat f 1 (by omega), show fb f 4 = _ from fb_nat f 4 (by omega), ← h]
 have := and32 f 23 (by omega)
 rw [show bits .and .i64 f 23 = _ from this, Bool.eq_iff_iff]; simp; omega
def endd (st : Int) (out : Bool) : Int :=
 if st = 0 ∨ st = 1 then (if out then 2 else 3) else if (st = 2 ∧ out = false) ∨ (st = 3 ∧ out = true) then 4 else st
def clampS (st : Int) : Int := if st < 0 ∨ 4 < st then 4 else st
def nxt (proto state : Int) (out r f s k : Bool) : Int :=
 if proto ≠ 6 then 0 else if r then 4 else if f then endd (clampS state) out
 else if s && !k && out && (clampS state == 4) then 0 else if k && !out && (clampS state == 0) then 1 else clampS state
theorem clampS_bd (st : Int) : 0 ≤ clampS st ∧ clampS st ≤ 4 := by unfold clampS; split <;> omega
section
open Go.ChangeShapes Go.WideShapes Go.ChangeAt Go.RowKit Go.Deep
def Rdg (P : Program) (w : World) : Nat → TypeId → List Value → Prop
 | 0, _, _ => False
 | fuel + 1, t, cs =>
  match P.underlying t with
  | some .bool => ∃ b, cs = [.bool b]
  | some (.int k) => ∃ n, cs = [.int k n] ∧ inr k n
  | some .string => ∃ s : ByteArray, cs = [.string s] ∧ s.size ≤ maxLen
  | some (.slice e) => ∃ A len cap, cs = [.slice A len cap] ∧ len ≤ cap ∧ cap ≤ maxLen ∧ (0 < len → ∃ a, A = some a ∧ ∀ i, i < len → ∃ ys, w.cells? 0 (a.add (i * P.cellsOf e)) (P.cellsOf e) = some ys ∧ Rdg P w fuel e ys)
  | some (.struct fs) => cs.length = P.cellsOf t ∧ ∀ (i : Nat) (f : Field), fs[i]? = some f → Rdg P w fuel f.type ((cs.drop f.offset).take (P.cellsOf f.type))
  | some (.array n e) => cs.length = P.cellsOf t ∧ ∀ i, i < n → Rdg P w fuel e ((cs.drop (i * P.cellsOf e)).take (P.cellsOf e))
  | _ => True
section
variable {H : Type} {enc : TypeId × Value → H} {P : Program} {w : World}
theorem rdg_of_trod : ∀ (fuel : Nat) (t : TypeId) (cs : List Value) (x : DataW H × List MemPlace), DataW.trod enc P w 0 (fun _ => true) true fuel t cs = some x → Rdg P w fuel t cs
 | 0, _, _, _, h => by simp [DataW.trod] at h
 | fuel + 1, t, cs, x, h => by
  unfold Rdg
  split
  ·rename_i ht; obtain ⟨b, hb, _⟩ := DataW.trod_bool ht h; exact ⟨b, hb⟩
  ·rename_i k ht; obtain ⟨n, hn, _, hw⟩ := DataW.trod_int ht h; exact ⟨n, hn, hw⟩
  ·rename_i ht; obtain ⟨s, hs, _, hw⟩ := DataW.trod_string ht h; exact ⟨s, hs, hw⟩
  ·rename_i e ht
   rcases DataW.trod_slice ht h with ⟨h0, _⟩ | ⟨a, len, cap, elems, rest, n, hf, hcs, _, hb, hl, hm, hlen, hel, _, _⟩
   ·exact ⟨none, 0, 0, h0, Nat.le_refl _, Nat.zero_le _, fun h => absurd h (by omega)⟩
   ·obtain rfl : fuel = n := by omega
    refine ⟨some a, len, cap, hcs, hl, hm, fun _ => ⟨a, rfl, fun i hi => ?_⟩⟩
    have h1 := hel i hi
    rw [List.getElem?_eq_getElem (show i < elems.length by omega)] at h1
    obtain ⟨ys, hy1, hy2⟩ := Option.bind_eq_some_iff.1 h1
    exact ⟨ys, hy1, rdg_of_trod fuel e ys _ hy2⟩
  ·rename_i fs ht
   obtain ⟨xs, n, hf, _, hl, hxl, hx⟩ := DataW.trod_struct ht h
   obtain rfl : fuel = n := by omega
   refine ⟨hl, fun i f hi => ?_⟩
   have h1 := hx i f hi
   have hlt : i < fs.size := (Array.getElem?_eq_some_iff.1 hi).1
   rw [List.getElem?_eq_getElem (show i < xs.length by omega)] at h1
   exact rdg_of_trod fuel _ _ _ h1
  ·rename_i n e ht
   obtain ⟨xs, m, hf, _, hl, hxl, hx⟩ := DataW.trod_array ht h
   obtain rfl : fuel = m := by omega
   refine ⟨hl, fun i hi => ?_⟩
   have h1 := hx i hi
   rw [List.getElem?_eq_getElem (show i < xs.length by omega)] at h1
   exact rdg_of_trod fuel _ _ _ h1
  ·trivial
def RdgAll (P : Program) (w : World) (ts : List TypeId) (vs : List Value) : Prop :=
 ts.length = vs.length ∧ ∀ (j : Nat) (t : TypeId) (v : Value), ts[j]? = some t → vs[j]? = some v → ∃ fuel, Rdg P w fuel t v.cells.toList
theorem rdgAll_of : ∀ {ts : List TypeId} {vs : List Value} {ds : List (DataW H)} {ps : List MemPlace}, DataW.TrodAll enc P w 0 (fun _ => true) true ts vs ds ps → RdgAll P w ts vs
 | [], [], [], _, _ => ⟨rfl, by simp⟩
 | t :: ts, v :: vs, d :: ds, ps, h => by
  obtain ⟨p, q, ⟨fuel, h1⟩, h2, _⟩ := h
  have ih := rdgAll_of h2
  refine ⟨by simp [ih.1], fun j t' v' ht hv => ?_⟩
  cases j with
  | zero => simp at ht hv; subst ht; subst hv; exact ⟨fuel, rdg_of_trod fuel _ _ _ h1⟩
  | succ j => exact ih.2 j t' v' (by simpa using ht) (by simpa using hv)
 | [], [], _ :: _, _, h => h.elim
 | [], _ :: _, _, _, h => h.elim
 | _ :: _, [], _, _, h => h.elim
 | _ :: _, _ :: _, [], _, h => h.elim
theorem trodAll_below (hl : laidOutB P = true) {W W' : World} (hb : Below W.heap.size W W') : ∀ {ts : List TypeId} {vs : List Value} {ds : List (DataW H)} {ps : List MemPlace},
  (ts.all fun t => P.readableRec t && decide (t < P.types.size)) = true →
  DataW.TrodAll enc P W 0 (fun _ => true) true ts vs ds ps → (∀ x ∈ ps, x.block < W.heap.size) → DataW.TrodAll enc P W' 0 (fun b => decide (b < W.heap.size)) true ts vs ds ps
 | [], [], [], _, _, h, _ => h
 | t :: ts, v :: vs, d :: ds, ps, ha, h, hp => by
  obtain ⟨p, q, h1, h2, rfl⟩ := h
  simp only [List.all_cons, Bool.and_eq_true, decide_eq_true_eq] at ha
  exact ⟨p, q, Below.trod hl ha.1.1 ha.1.2 h1 hb (fun x hx => hp x (List.mem_append_left _ hx)), trodAll_below hl hb ha.2 h2 (fun x hx => hp x (List.mem_append_right _ hx)), rfl⟩
 | [], [], _ :: _, _, _, h, _ => h.elim
 | [], _ :: _, _, _, _, h, _ => h.elim
 | _ :: _, [], _, _, _, h, _ => h.elim
 | _ :: _, _ :: _, [], _, _, h, _ => h.elim
theorem trodAll_lt {W : World} : ∀ {ts : List TypeId} {vs : List Value} {ds : List (DataW H)} {ps : List MemPlace},
  DataW.TrodAll enc P W 0 (fun _ => true) true ts vs ds ps → ∀ x ∈ ps, x.block < W.heap.size
 | [], [], [], ps, h, x, hx => by rw [show ps = [] from h] at hx; cases hx
 | t :: ts, v :: vs, d :: ds, ps, h, x, hx => by
  obtain ⟨p, q, ⟨m, hm⟩, h2, rfl⟩ := h
  rcases List.mem_append.1 hx with h | h
  ·exact DataW.trod_lt m _ _ _ hm x h
  ·exact trodAll_lt h2 x h
 | [], [], _ :: _, _, h, _, _ => h.elim
 | [], _ :: _, _, _, h, _, _ => h.elim
 | _ :: _, [], _, _, h, _, _ => h.elim
 | _ :: _, _ :: _, [], _, h, _, _ => h.elim
end
def Arg (P : Program) (W : World) (t : TypeId) (v : Value) : Prop := (∃ base, Value.okWide P W .any base t v) ∧ ∃ fuel, Rdg P W fuel t v.cells.toList
section
variable {P : Program} {W : World} {t e : TypeId} {v : Value}
theorem rdg_int {k : IntKind} {fuel : Nat} {cs : List Value} (ht : P.underlying t = some (.int k)) (h : Rdg P W fuel t cs) : ∃ n, cs = [.int k n] ∧ inr k n := by
 cases fuel with
 | zero => exact h.elim
 | succ m => unfold Rdg at h; rw [ht] at h; exact h
theorem rdg_bool {fuel : Nat} {cs : List Value} (ht : P.underlying t = some .bool) (h : Rdg P W fuel t cs) : ∃ b, cs = [.bool b] := by
 cases fuel with
 | zero => exact h.elim
 | succ m => unfold Rdg at h; rw [ht] at h; exact h
theorem rdg_slice {fuel : Nat} {cs : List Value} (ht : P.underlying t = some (.slice e)) (h : Rdg P W fuel t cs) :
  ∃ A len cap m, cs = [.slice A len cap] ∧ len ≤ cap ∧ cap ≤ maxLen ∧ (0 < len → ∃ a, A = some a ∧ ∀ i, i < len → ∃ ys, W.cells? 0 (a.add (i * P.cellsOf e)) (P.cellsOf e) = some ys ∧ Rdg P W m e ys) := by
 cases fuel with
 | zero => exact h.elim
 | succ m => unfold Rdg at h; rw [ht] at h; obtain ⟨A, len, cap, h1, h2, h3, h4⟩ := h; exact ⟨A, len, cap, m, h1, h2, h3, h4⟩
theorem rdg_struct {fs : Array Field} {fuel : Nat} {cs : List Value} (ht : P.underlying t = some (.struct fs)) (h : Rdg P W fuel t cs) :
  ∃ m, cs.length = P.cellsOf t ∧ ∀ (i : Nat) (f : Field), fs[i]? = some f → Rdg P W m f.type ((cs.drop f.offset).take (P.cellsOf f.type)) := by
 cases fuel with
 | zero => exact h.elim
 | succ m => unfold Rdg at h; rw [ht] at h; exact ⟨m, h⟩
theorem cells_one {a : Addr} {y : Value} (h : W.cells? 0 a 1 = some [y]) : W.cell? a = some y := by
 obtain ⟨_, _, h⟩ := World.cells?_some h
 have := h 0 (by omega)
 simpa [Addr.add] using this
theorem cell_block {a : Addr} {y : Value} (h : W.cell? a = some y) : a.spot = none ∧ a.block < W.heap.size := by
 refine ⟨World.cell?_spot h, ?_⟩
 rcases Nat.lt_or_ge a.block W.heap.size with h1 | h1
 ·exact h1
 ·simp [World.cell?, Array.getElem?_eq_none h1] at h
theorem rdg_ints {k : IntKind} {fuel : Nat} {cs : List Value} (ht : P.underlying t = some (.slice e)) (he : P.underlying e = some (.int k)) (hC : P.cellsOf e = 1) (h : Rdg P W fuel t cs) :
  ∃ A len cap l, cs = [.slice A len cap] ∧ len ≤ cap ∧ cap ≤ maxLen ∧ Rd k W W.heap.size A len l := by
 obtain ⟨A, len, cap, m, hcs, h1, h2, h3⟩ := rdg_slice ht h
 rcases Nat.eq_zero_or_pos len with h0 | h0
 ·subst h0; exact ⟨A, 0, cap, [], hcs, h1, h2, Rd.nil _ _ _ _⟩
 ·obtain ⟨a, rfl, hi⟩ := h3 h0
  rw [hC] at hi
  have hx : ∀ i, i < len → ∃ x, W.cell? (a.add i) = some (.int k x) ∧ inr k x := by
   intro i hl
   obtain ⟨ys, hy, hr⟩ := hi i hl
   obtain ⟨n, rfl, hn⟩ := rdg_int he hr
   exact ⟨n, by have := cells_one hy; rwa [Nat.mul_one] at this, hn⟩
  have hall : ∃ l : List Int, l.length = len ∧ ∀ i, i < len → W.cell? (a.add i) = some (.int k (l.getD i 0)) ∧ inr k (l.getD i 0) := by
   have : ∀ n, n ≤ len → ∃ l : List Int, l.length = n ∧ ∀ i, i < n → W.cell? (a.add i) = some (.int k (l.getD i 0)) ∧ inr k (l.getD i 0) := by
    intro n
    induction n with
    | zero => intro _; exact ⟨[], rfl, fun i hi => absurd hi (by omega)⟩
    | succ n ih =>
     intro hn
     obtain ⟨l, hl, hc⟩ := ih (by omega)
     obtain ⟨x, hx1, hx2⟩ := hx n (by omega)
     refine ⟨l ++ [x], by simp [hl], fun i hi => ?_⟩
     rcases Nat.lt_or_ge i n with h | h
     ·have := hc i h
      rw [List.getD_eq_getElem?_getD, List.getElem?_append_left (by omega), ← List.getD_eq_getElem?_getD]; exact this
     ·obtain rfl : i = n := by omega
      rw [List.getD_eq_getElem?_getD, List.getElem?_append_right (by omega)]
      simp [hl]; exact ⟨hx1, hx2⟩
   exact this len (Nat.le_refl _)
  obtain ⟨l, hl, hc⟩ := hall
  obtain ⟨c0, _⟩ := hc 0 h0
  have hsp := cell_block c0
  have e0 : a.add 0 = a := by simp [Addr.add]
  rw [e0] at hsp
  obtain ⟨b, o, s⟩ := a
  obtain ⟨hs1, hs2⟩ := hsp
  simp only at hs1 hs2
  subst hs1
  refine ⟨_, len, cap, l, hcs, h1, h2, ⟨hl, fun x hx => ?_, fun _ => ⟨b, o, rfl, hs2, fun j hj => ?_⟩⟩⟩
  ·obtain ⟨i, hi', rfl⟩ := List.getElem_of_mem hx
   have := (hc i (by omega)).2
   rwa [List.getD_eq_getElem?_getD, List.getElem?_eq_getElem hi'] at this
  ·have := (hc j hj).1
   rw [← this]
   simp [Addr.add]; split <;> simp_all
theorem arg_slice (ht : P.underlying t = some (.slice e)) (h : Arg P W t v) :
  ∃ A len cap m, v = .slice A len cap ∧ len ≤ cap ∧ cap ≤ maxLen ∧ (0 < len → ∃ a, A = some a ∧ ∀ i, i < len → ∃ ys, W.cells? 0 (a.add (i * P.cellsOf e)) (P.cellsOf e) = some ys ∧ Rdg P W m e ys) := by
 obtain ⟨⟨base, h1⟩, fuel, h2⟩ := h
 obtain ⟨a, len, cap, rfl⟩ := okWide_slice ht h1
 obtain ⟨A, len', cap', m, hcs, h3, h4, h5⟩ := rdg_slice ht h2
 simp [Value.cells] at hcs
 obtain ⟨rfl, rfl, rfl⟩ := hcs
 exact ⟨_, _, _, m, rfl, h3, h4, h5⟩
theorem slice_rows {A : Option Addr} {len sz m : Nat} (hsz : 0 < sz) (h : 0 < len → ∃ a, A = some a ∧ ∀ i, i < len → ∃ ys, W.cells? 0 (a.add (i * sz)) sz = some ys ∧ Rdg P W m e ys) :
  0 < len → ∃ b o, A = some ⟨b, o, none⟩ ∧ b < W.heap.size ∧ ∀ i, i < len → ∃ ys, (∀ j, j < sz → W.cell? ⟨b, o + i * sz + j, none⟩ = ys[j]?) ∧ ys.length = sz ∧ Rdg P W m e ys := by
 intro hp
 obtain ⟨a, rfl, hi⟩ := h hp
 obtain ⟨y0, h0, _⟩ := hi 0 hp
 obtain ⟨_, hl0, hc0⟩ := World.cells?_some h0
 have c0 := hc0 0 hsz
 have e0 : (a.add (0 * sz)).add 0 = a := by simp [Addr.add]
 rw [e0, List.getElem?_eq_getElem (by omega)] at c0
 obtain ⟨hs1, hs2⟩ := cell_block c0
 obtain ⟨b, o, s⟩ := a
 simp only at hs1 hs2
 subst hs1
 refine ⟨b, o, rfl, hs2, fun i hil => ?_⟩
 obtain ⟨ys, hy, hr⟩ := hi i hil
 obtain ⟨_, hl, hc⟩ := World.cells?_some hy
 refine ⟨ys, fun j hj => ?_, hl, hr⟩
 rw [← hc j hj]
 congr 1
 rw [add_add]
 unfold Addr.add; split
 ·rename_i h; rw [Nat.add_assoc, h]; rfl
 ·rw [Nat.add_assoc]
theorem fld_int {k : IntKind} {fs : Array Field} {m i : Nat} {f : Field} {cs : List Value} (hf : ∀ (i : Nat) (f : Field), fs[i]? = some f → Rdg P W m f.type ((cs.drop f.offset).take (P.cellsOf f.type)))
  (hi : fs[i]? = some f) (ht : P.underlying f.type = some (.int k)) (hC : P.cellsOf f.type = 1) : ∃ n, cs[f.offset]? = some (.int k n) ∧ inr k n := by
 have h := hf i f hi
 rw [hC] at h
 obtain ⟨n, hn, hr⟩ := rdg_int ht h
 refine ⟨n, ?_, hr⟩
 have : ((cs.drop f.offset).take 1)[0]? = some (.int k n) := by rw [hn]; rfl
 simpa using this
theorem fld_bool {fs : Array Field} {m i : Nat} {f : Field} {cs : List Value} (hf : ∀ (i : Nat) (f : Field), fs[i]? = some f → Rdg P W m f.type ((cs.drop f.offset).take (P.cellsOf f.type)))
  (hi : fs[i]? = some f) (ht : P.underlying f.type = some .bool) (hC : P.cellsOf f.type = 1) : ∃ b, cs[f.offset]? = some (.bool b) := by
 have h := hf i f hi
 rw [hC] at h
 obtain ⟨n, hn⟩ := rdg_bool ht h
 refine ⟨n, ?_⟩
 have : ((cs.drop f.offset).take 1)[0]? = some (.bool n) := by rw [hn]; rfl
 simpa using this
theorem args2 {args : Array Value} (h : args.size = 2) : ∃ a b, args = #[a, b] := by
 obtain ⟨l⟩ := args; match l, h with | [a, b], _ => exact ⟨a, b, rfl⟩
end
theorem own_ : ownKnob Tryz.prog.godebug = none := by kernel_rfl
theorem laidOut : laidOutB Tryz.prog = true := by kernel_rfl
theorem law_lifted {fid : FuncId} {f : Func} {spec : ChangeSpec} {dom : List PathCond} (os : Os) (started : os.Started) (H : Type) (enc : TypeId × Value → H)
  (hinit : Tryz.prog.inits.idxOf? fid = none) (hfn : Tryz.prog.funcs[fid]? = some f) (hres : f.resultTypes = #[4]) (hvars : spec.vars = [])
  (hspec : ∀ (H : Type) (ds : List (DataW H)), ds.length = f.params.size → (spec.fn H (ds ++ [])).results = [.lit (.bool true)] ∧ (spec.fn H (ds ++ [])).args = ds ∧ (spec.fn H (ds ++ [])).vars = [])
  (hread : (f.params.toList.all fun t => Tryz.prog.readableRec t && decide (t < Tryz.prog.types.size)) = true)
  (witness : ∃ (w : World) (tape : Tape) (i : Input), w.os = os ∧ (w.forCall tape i).Shaped Tryz.prog ∧ i.vars = [] ∧ Input.okWide Tryz.prog (w.forCall tape i) .any w.heap.size fid i ∧
   spec.pre6 enc Tryz.prog f dom false (w.forCall tape i).memory i.args ∧ Assume.holds {} Tryz.prog (lone (Frame.enter Tryz.prog fid i.args .normal) [] (w.forCall tape i)))
  (walk : ∀ (W : World) (args : Array Value), args.size = f.params.size → (∀ (j : Nat) t v, f.params[j]? = some t → args[j]? = some v → Arg Tryz.prog W t v) →
   Calls Tryz.prog fid args W fun e W' => e = .returned (.bool true) ∧ Below W.heap.size W W') :
  ReturnsInHanded {} Tryz.checked os fid .any (spec.pre6 enc Tryz.prog f dom false) (spec.post enc Tryz.prog f false true false false) := by
 refine returnsInHanded_of_change (C := Tryz.checked) own_ started hinit hfn witness ?_
 intro W base args ds gs before hval0 hW hcnd _
 have hW' := hW
 obtain ⟨p, q, hA0, hV, rfl, hfz, hnd⟩ := hW
 rw [hvars] at hV
 obtain ⟨rfl, rfl⟩ := trodVars_none hV
 have hA : DataW.TrodAll enc Tryz.prog W 0 (fun _ => true) true f.params.toList args.toList ds p := hA0
 have hlen : ds.length = f.params.size := by
  have : ∀ {ts : List TypeId} {vs : List Value} {ds : List (DataW H)} {ps : List MemPlace}, DataW.TrodAll enc Tryz.prog W 0 (fun _ => true) true ts vs ds ps → ds.length = ts.length := by
   intro ts
   induction ts with
   | nil => intro vs ds ps h; cases vs <;> cases ds <;> simp [DataW.TrodAll] at h ⊢
   | cons t ts ih =>
    intro vs ds ps h
    cases vs with
    | nil => exact h.elim
    | cons v vs =>
     cases ds with
     | nil => exact h.elim
     | cons d ds => obtain ⟨p, q, _, h2, _⟩ := h; simp [ih h2]
  simpa using this hA
 obtain ⟨s1, s2, s3⟩ := hspec H ds hlen
 have hR := rdgAll_of hA
 refine (walk W args (by simpa using hR.1.symm) (fun j t v h1 h2 => ⟨⟨base, hval0 j t v h1 h2⟩, hR.2 j t v (by simpa using h1) (by simpa using h2)⟩)).mono fun e W' ⟨he, bel⟩ => ?_
 subst he
 refine ⟨_, rfl, ds, [], p ++ [], [], p, [], hW', ?_, ?_, ?_, bel.frame _, fun h => by cases h⟩
 ·rw [s1, hres]
  exact trodAll_mk1 (shut_bool Tryz.underlying4 _)
 ·rw [s2]
  exact trodAll_below laidOut bel hread hA (trodAll_lt hA)
 ·rw [hvars, s3]
  rfl
end
structure Cf where
 wk : Int
 ou : Int
 lo : Int
 hi : Int
 bk : Int
 rg : Int
structure Cf.ok (c : Cf) : Prop where
 wk : 1 ≤ c.wk ∧ c.wk ≤ 64
 ou : c.ou ≠ 0 ∧ c.ou ≠ 4294967295
 lo : 1 ≤ c.lo ∧ c.lo ≤ c.hi
 hi : c.hi ≤ 65535 ∧ c.hi - c.lo < 1024
 bk : 2 ≤ c.bk ∧ c.bk ≤ 1024
 bp : bits .and .i64 c.bk (c.bk - 1) = 0
 rg : 1 ≤ c.rg ∧ c.rg ≤ 256
def Cf.n (c : Cf) : Int := c.hi - c.lo + 1
def kindP (p : Int) : Int := if p = 1 then 0 else if p = 6 then 1 else if p = 17 then 2 else -1
def placeP (c : Cf) (p port : Int) : Int := if kindP p < 0 ∨ port < c.lo ∨ c.hi < port then -1 else kindP p * c.n + port - c.lo
theorem cf_size : (Tryz.prog.info? 31).map (·.size) = some 6 := by kernel_rfl
theorem between_yes (n lo hi : Int) (w : World) (h : lo ≤ n ∧ n ≤ hi) : Calls Tryz.prog 34 #[.int .i64 n, .int .i64 lo, .int .i64 hi] w fun e w' => e = .returned (.bool true) ∧ w = w' := by
 obtain ⟨h1, h2⟩ := h
 have d1 : decide (lo ≤ n) = true := by simpa using h1
 have d2 : decide (n ≤ hi) = true := by simpa using h2
 go_enter Tryz.func34, Tryz.ntmps34
 go_wp2
 go_ret
 exact ⟨rfl, rfl⟩
theorem between_no (n lo hi : Int) (w : World) (h : n < lo ∨ hi < n) : Calls Tryz.prog 34 #[.int .i64 n, .int .i64 lo, .int .i64 hi] w fun e w' => e = .returned (.bool false) ∧ w = w' := by
 rcases Int.lt_or_le n lo with h1 | h1
 ·have d1 : decide (lo ≤ n) = false := by simp; omega
  go_enter Tryz.func34, Tryz.ntmps34
  go_wp2
  go_ret
  exact ⟨rfl, rfl⟩
 ·have d1 : decide (lo ≤ n) = true := by simpa using h1
  have d2 : decide (n ≤ hi) = false := by simp; omega
  go_enter Tryz.func34, Tryz.ntmps34
  go_wp2
  go_ret
  exact ⟨rfl, rfl⟩
theorem Wrong_ok (c : Cf) (w : World) (h : c.ok) : Calls Tryz.prog 14 #[.agg (A8 c.wk c.ou c.lo c.hi c.bk c.rg)] w fun e w' => e = .returned (.string ⟨#[]⟩) ∧ Below w.heap.size w w' := by
 obtain ⟨wk, ou, lo, hi, bk, rg⟩ := c
 obtain ⟨⟨a1, a2⟩, ⟨a3, a4⟩, ⟨a5, a6⟩, ⟨a7, a8⟩, ⟨a9, a10⟩, a11, ⟨a12, a13⟩⟩ := h
 simp only at *
 have d1 : (ou == 0) = false := by simpa using a3
 have d2 : (ou == 4294967295) = false := by simpa using a4
 have d3 : decide (lo < 1) = false := by simp; omega
 have d4 : decide (65535 < hi) = false := by simp; omega
 have d5 : decide (hi < lo) = false := by simp; omega
 have d6 : decide (1024 ≤ hi - lo) = false := by simp; omega
 have b1 := fun W => between_yes wk 1 64 W ⟨a1, a2⟩
 have b2 := fun W => between_yes bk 2 1024 W ⟨a9, a10⟩
 have b3 := fun W => between_yes rg 1 256 W ⟨a12, a13⟩
 replace a11 := Lib.hid a11
 replace b1 := Lib.hid b1
 replace b2 := Lib.hid b2
 replace b3 := Lib.hid b3
 clear a3 a4
 go_enter Tryz.func14, Tryz.ntmps14
 go_upto_region 1 with fail
 have bx := Blk.new w 31 (A8 wk ou lo hi bk rg)
 have bel := bel_alloc w (.cells (A8 wk ou lo hi bk rg) 31)
 generalize w.alloc (.cells (A8 wk ou lo hi bk rg) 31) = W at *
 have q0 := bx.cell 0
 have q1 := bx.cell 1
 have q2 := bx.cell 2
 have q3 := bx.cell 3
 have q4 := bx.cell 4
 have q5 := bx.cell 5
 go_wp2_with fail
 refine (b1.out _).mono ?_
 rintro e w' ⟨rfl, rfl⟩
 go_wp2_with fail
 refine (b2.out _).mono ?_
 rintro e w' ⟨rfl, rfl⟩
 have e1 := a11.out
 go_wp2_with fail
 refine (b3.out _).mono ?_
 rintro e w' ⟨rfl, rfl⟩
 go_wp2_with fail
 go_ret
 exact ⟨rfl, bel⟩
theorem Ports_ok (c : Cf) (w : World) (h : c.ok) : Calls Tryz.prog 33 #[.agg (A8 c.wk c.ou c.lo c.hi c.bk c.rg)] w fun e w' => e = .returned (.int .i64 c.n) ∧ Below w.heap.size w w' := by
 have kw := fun W => Wrong_ok c W h
 obtain ⟨_, _, ⟨a5, a6⟩, ⟨a7, a8⟩, _, _, _⟩ := h
 obtain ⟨wk, ou, lo, hi, bk, rg⟩ := c
 simp only [Cf.n] at *
 replace kw := Lib.hid kw
 go_enter Tryz.func33, Tryz.ntmps33
 go_upto_region 1 with fail
 have bx := Blk.new w 31 (A8 wk ou lo hi bk rg)
 have bel := bel_alloc w (.cells (A8 wk ou lo hi bk rg) 31)
 generalize w.alloc (.cells (A8 wk ou lo hi bk rg) 31) = W at *
 go_wp2_with (refine wpList_ldRow rfl rfl rfl bx Tryz.underlying31 cf_size ?_)
 refine (kw.out _).mono ?_
 rintro e w2 ⟨rfl, hb⟩
 replace bx := bx.bel hb
 replace bel := bel_after bel hb
 have q2 := bx.cell 2
 have q3 := bx.cell 3
 go_wp2_with fail
 go_ret
 exact ⟨rfl, bel⟩
theorem Kind_any (p : Int) (w : World) : Calls Tryz.prog 57 #[.int .i64 p] w fun e w' => e = .returned (.int .i64 (kindP p)) ∧ w = w' := by
 unfold kindP
 by_cases h1 : p = 1
 ·subst h1
  go_enter Tryz.func57, Tryz.ntmps57
  go_wp2
  go_ret
  exact ⟨rfl, rfl⟩
 ·by_cases h6 : p = 6
  ·subst h6
   go_enter Tryz.func57, Tryz.ntmps57
   go_wp2
   go_ret
   exact ⟨rfl, rfl⟩
  ·by_cases h17 : p = 17
   ·subst h17
    go_enter Tryz.func57, Tryz.ntmps57
    go_wp2
    go_ret
    exact ⟨rfl, rfl⟩
   ·rw [if_neg h1, if_neg h6, if_neg h17]
    have d1 : (p == 1) = false := by simpa using h1
    have d2 : (p == 6) = false := by simpa using h6
    have d3 : (p == 17) = false := by simpa using h17
    clear h1 h6 h17
    go_enter Tryz.func57, Tryz.ntmps57
    go_wp2
    go_ret
    exact ⟨rfl, rfl⟩
theorem kindP_bd (p : Int) : -1 ≤ kindP p ∧ kindP p ≤ 2 := by unfold kindP; split <;> (try split) <;> (try split) <;> omega
theorem Place_ok (c : Cf) (p port : Int) (w : World) (h : c.ok) : Calls Tryz.prog 27 #[.agg (A8 c.wk c.ou c.lo c.hi c.bk c.rg), .int .i64 p, .int .i64 port] w fun e w' => e = .returned (.int .i64 (placeP c p port)) ∧ Below w.heap.size w w' := by
 have kw := fun W => Ports_ok c W h
 have kk := fun W => Kind_any p W
 obtain ⟨_, _, ⟨a5, a6⟩, ⟨a7, a8⟩, _, _, _⟩ := h
 have hkb := kindP_bd p
 obtain ⟨V, hV⟩ : ∃ V, placeP c p port = V := ⟨_, rfl⟩
 rw [hV]
 unfold placeP at hV
 obtain ⟨wk, ou, lo, hi, bk, rg⟩ := c
 simp only [Cf.n] at *
 generalize kindP p = kp at *
 have hn : 1 ≤ hi - lo + 1 ∧ hi - lo + 1 ≤ 1024 := by omega
 obtain ⟨N, hN⟩ : ∃ N, hi - lo + 1 = N := ⟨_, rfl⟩
 rw [hN] at kw hV hn
 have n0 : (N == 0) = false := by simp; omega
 have b1 := fun W (h : lo ≤ port ∧ port ≤ hi) => between_yes port lo hi W h
 have b2 := fun W (h : port < lo ∨ hi < port) => between_no port lo hi W h
 replace hN := Lib.hid hN
 replace hV := Lib.hid hV
 replace kw := Lib.hid kw
 replace kk := Lib.hid kk
 replace b1 := Lib.hid b1
 replace b2 := Lib.hid b2
 go_enter Tryz.func27, Tryz.ntmps27
 go_upto_region 1 with fail
 have bx := Blk.new w 31 (A8 wk ou lo hi bk rg)
 have bel := bel_alloc w (.cells (A8 wk ou lo hi bk rg) 31)
 generalize w.alloc (.cells (A8 wk ou lo hi bk rg) 31) = W at *
 go_wp2_with (refine wpList_ldRow rfl rfl rfl bx Tryz.underlying31 cf_size ?_)
 refine (kw.out _).mono ?_
 rintro e w2 ⟨rfl, hb⟩
 replace bx := bx.bel hb
 replace bel := bel_after bel hb
 clear hb kw
 go_wp2_with fail
 refine (kk.out _).mono ?_
 rintro e w' ⟨rfl, rfl⟩
 have q2 := bx.cell 2
 have q3 := bx.cell 3
 by_cases hk : kp < 0
 ·have d1 : decide (kp < 0) = true := by simpa using hk
  have hVs := hV.out
  rw [if_pos (.inl hk)] at hVs
  subst hVs
  clear hV
  go_wp2_with fail
  go_ret
  exact ⟨rfl, bel⟩
 ·have d1 : decide (kp < 0) = false := by simpa using hk
  by_cases hp : port < lo ∨ hi < port
  ·have hVs := hV.out
   rw [if_pos (.inr hp)] at hVs
   subst hVs
   clear hV
   go_wp2_with fail
   refine (b2.out _ hp).mono ?_
   rintro e w' ⟨rfl, rfl⟩
   go_wp2_with fail
   go_ret
   exact ⟨rfl, bel⟩
  ·have hVs := hV.out
   rw [if_neg (by omega)] at hVs
   subst hVs
   clear hV
   obtain ⟨hm1, hm2⟩ : 0 ≤ kp * N ∧ kp * N ≤ 2048 := by
    have h3 : kp = 0 ∨ kp = 1 ∨ kp = 2 := by omega
    rcases h3 with rfl | rfl | rfl <;> omega
   have hN2 := hN.out
   go_wp2_with fail
   refine (b1.out _ (by omega)).mono ?_
   rintro e w' ⟨rfl, rfl⟩
   have w1 : wrap64 (kp * N) = kp * N := IntWalk.wrap64_in _ ⟨by omega, by omega⟩
   have w2 : wrap64 (kp * N + port) = kp * N + port := IntWalk.wrap64_in _ ⟨by omega, by omega⟩
   have w3 : wrap64 (kp * N + port - lo) = kp * N + port - lo := IntWalk.wrap64_in _ ⟨by omega, by omega⟩
   clear hm1 hm2
   go_wp2_with fail
   go_ret
   refine ⟨?_, bel⟩
   show Ending.returned (.int .i64 (wrap64 (kp * N + port - lo))) = _
   rw [w3]
theorem u16_shl_or_ (a b : Int) (h0 : 0 ≤ a ∧ a ≤ 255) (h1 : 0 ≤ b ∧ b ≤ 255) : bits .or .u16 (a * 256) b = a * 256 + b := by
 rw [u16_or _ _ (by omega) (by omega) (by omega) (by omega)]
 have : (a * 256).toNat ||| b.toNat = (a * 256).toNat + b.toNat := by
  have e : (a * 256).toNat = 2 ^ 8 * a.toNat := by omega
  rw [e, Nat.two_pow_add_eq_or_of_lt (by omega)]
 rw [this]; omega
def put2 (l : List Int) (i : Nat) (v : Int) : List Int := (l.set i (v / 256)).set (i + 1) (v % 256)
theorem put2_len (l : List Int) (i : Nat) (v : Int) : (put2 l i v).length = l.length := by unfold put2; rw [List.length_set, List.length_set]
def Wr (W : World) (base gw g n c : Nat) (out : Bool) (X : List Int) : Prop :=
 Blk W gw 141 #[.slice (some ⟨g, 0, none⟩) n c, .bool out] ∧ Own .u8 5 W base (.slice (some ⟨g, 0, none⟩) n c) X ∧ X.length = n ∧ base ≤ g ∧ n ≤ 60000
theorem wget_any (base gw g n c : Nat) (out : Bool) (X : List Int) (i : Nat) (W : World) (h : Wr W base gw g n c out X) (hi : i + 2 ≤ n) :
  Calls Tryz.prog 94 #[.pointer (some ⟨gw, 0, none⟩), .int .i64 i] W fun e w' => e = .returned (.int .u16 (n2 X i)) ∧ Below W.heap.size W w' := by
 obtain ⟨hb, ho, hX, _, hn⟩ := h
 obtain ⟨c0, _, x0⟩ := ho.at_ hX (j := i) (by omega)
 obtain ⟨c1, _, x1⟩ := ho.at_ hX (j := i + 1) (by omega)
 rw [n2_eq _ _ (by omega)]
 replace x0 := inr_u8 x0
 replace x1 := inr_u8 x1
 generalize X.getD i 0 = a at *
 generalize X.getD (i + 1) 0 = b at *
 have hor := u16_shl_or_ a b x0 x1
 obtain ⟨i1, hj⟩ : ∃ i1, i + 1 = i1 := ⟨_, rfl⟩
 have hi1 : (i : Int) + 1 = (i1 : Int) := by omega
 have k0 : (0 : Int) ≤ (i : Int) := by omega
 have k1 : (i : Int) < (n : Int) := by omega
 have k2 : (0 : Int) ≤ (i1 : Int) := by omega
 have k3 : (i1 : Int) < (n : Int) := by omega
 rw [hj] at c1
 clear hj
 clear ho hX
 go_enter Tryz.func94, Tryz.ntmps94
 go_upto_region 1 with fail
 have F0 : ∀ t : Tw (fun w' => Below W.heap.size W w'), t.w.cell? ⟨gw, 0, none⟩ = some (.slice (some ⟨g, 0, none⟩) n c) := fun t => (hb.below t.h hb.lt).cell 0
 have F1 : ∀ t : Tw (fun w' => Below W.heap.size W w'), t.w.cell? ⟨g, i, none⟩ = some (.int .u8 a) := fun t => (t.h.cell (p := ⟨g, i, none⟩) (cell_lt c0)).trans c0
 have F2 : ∀ t : Tw (fun w' => Below W.heap.size W w'), t.w.cell? ⟨g, i1, none⟩ = some (.int .u8 b) := fun t => (t.h.cell (p := ⟨g, i1, none⟩) (cell_lt c1)).trans c1
 have : Nonempty (Tw (fun w' => Below W.heap.size W w')) := ⟨⟨_, Below.refl _ _⟩⟩
 clear c0 c1 hb
 refine region_tw (fun w' => Below (W).heap.size (W) w') (by kernel_rfl) (by kernel_rfl) (Below.refl _ _).drew ?_
 unfold clsS
 repeat (first
  | go_big_quiet_skip
  | (go_big_quiet_want; go_big_quiet_op; first | go_big_quiet_on | go_big_quiet_call (
   (first |(fail)))))
 refine wpQuiet_nil ?_
 intro tq
 go_wp2
 go_ret
 exact ⟨rfl, tq.h⟩
theorem wset_any (base gw g n c : Nat) (out : Bool) (X : List Int) (i : Nat) (v : Int) (W : World) (h : Wr W base gw g n c out X) (hi : i + 2 ≤ n) (hv : 0 ≤ v ∧ v ≤ 65535) :
  Calls Tryz.prog 93 #[.pointer (some ⟨gw, 0, none⟩), .int .i64 i, .int .u16 v] W fun e w' => e = .returned (.tuple #[]) ∧ Wr w' base gw g n c out (put2 X i v) ∧ Upd (fun k => k = g) W w' := by
 obtain ⟨hb, ho, hX, hg, hn⟩ := h
 have hne := ho.ne hb (by decide)
 obtain ⟨c0, f0, x0⟩ := ho.at_ hX (j := i) (by omega)
 have ho2 := ho.set hX i (x := v / 256) (u8_inr (by omega))
 have hX2 : (X.set i (v / 256)).length = n := by rw [List.length_set]; exact hX
 have ho3 := ho2.set hX2 (i + 1) (x := v % 256) (u8_inr (by omega))
 have hX3 : (put2 X i v).length = n := by rw [put2_len]; exact hX
 obtain ⟨c1, f1, x1⟩ := ho.at_ hX (j := i + 1) (by omega)
 obtain ⟨i1, hj⟩ : ∃ i1, i + 1 = i1 := ⟨_, rfl⟩
 have hi1 : (i : Int) + 1 = (i1 : Int) := by omega
 have k0 : (0 : Int) ≤ (i : Int) := by omega
 have k1 : (i : Int) < (n : Int) := by omega
 have k2 : (0 : Int) ≤ (i1 : Int) := by omega
 have k3 : (i1 : Int) < (n : Int) := by omega
 have hii : i ≠ i1 := by omega
 unfold put2 at hX3 ⊢
 rw [hj] at c1 f1 ho3 hX3 ⊢
 clear hj
 go_enter Tryz.func93, Tryz.ntmps93
 have q0 := hb.cell 0
 have z0 : ∀ t : Tw (fun w' => w'.cell? ⟨gw, 0, none⟩ = some (.slice (some ⟨g, 0, none⟩) n c)), t.w.cell? ⟨gw, 0, none⟩ = some (.slice (some ⟨g, 0, none⟩) n c) := fun t => t.h
 have ne : Nonempty (Tw (fun w' => w'.cell? ⟨gw, 0, none⟩ = some (.slice (some ⟨g, 0, none⟩) n c))) := ⟨⟨_, q0⟩⟩
 go_upto_region 0 with fail
 refine wp_region_plan (fun w' => w'.cell? ⟨gw, 0, none⟩ = some (.slice (some ⟨g, 0, none⟩) n c)) [(0, true), (1, true), (2, true), (3, true), (4, true), (5, true), (6, true), (7, true), (8, true), (9, true), (10, true), (11, true), (12, true), (13, true), (14, true), (15, true), (16, true), (17, false), (18, true), (19, false)] (by kernel_rfl) (by kernel_rfl) (by kernel_rfl) (by kernel_rfl) (hb.drew.cell 0) ?_
 replace c0 : W.drew.cell? ⟨g, i, none⟩ = _ := c0
 replace f0 : W.drew.frozen? ⟨g, i, none⟩ = _ := f0
 replace hb := hb.drew
 have bel : Upd (fun k => k = g) W W.drew := (Upd.refl _ W).drew
 replace ho3 : Own .u8 5 ((W.drew.setCell ⟨g, i, none⟩ (.int .u8 (v / 256))).setCell ⟨g, i1, none⟩ (.int .u8 (v % 256))) base (.slice (some ⟨g, 0, none⟩) n c) ((X.set i (v / 256)).set i1 (v % 256)) := by
  have h2 := (ho.drew.set hX i (x := v / 256) (u8_inr (by omega))).set hX2 i1 (x := v % 256) (u8_inr (by omega))
  exact h2
 obtain ⟨c1, f1, _⟩ := (ho.drew.set hX i (x := v / 256) (u8_inr (by omega))).at_ hX2 (j := i1) (by omega)
 clear ho ho2 q0
 generalize W.drew = W1 at *
 refine wpPl_qs 17 _ _ _ (by kernel_rfl) (by kernel_rfl) (by simp) ?_
 unfold clsS
 simp only [qq1, qq2, qq3, qq4, List.filterMap_cons, qq6, qq7, qq8, qq9]
 repeat (first | go_big_quiet_skip | (go_big_quiet_want; go_big_quiet_op; go_big_quiet_on) | refine id (?_ : wpQuiet _ _ _ _ (_ :: _) _))
 refine wpQuiet_nil ?_
 clear z0
 refine wpPl_e _ (by rfl) (by kernel_rfl) (fun K hK => ?_)
 go_simp
 replace hb := hb.far (p := ⟨g, i, none⟩) hne (.int .u8 (v / 256))
 replace bel := bel.setCell (p := ⟨g, i, none⟩) (fun _ => rfl) (.int .u8 (v / 256))
 refine hK _ _ (hb.cell 0) ?_
 clear hK K c0 f0
 generalize W1.setCell ⟨g, i, none⟩ (.int .u8 (v / 256)) = W2 at *
 refine wpPl_qs 1 _ _ _ (by kernel_rfl) (by kernel_rfl) (by simp) ?_
 unfold clsS
 simp only [qq1, qq2, qq3, qq4, List.filterMap_cons, qq6, qq7, qq8, qq9]
 repeat (first | go_big_quiet_skip | (go_big_quiet_want; go_big_quiet_op; go_big_quiet_on) | refine id (?_ : wpQuiet _ _ _ _ (_ :: _) _))
 refine wpQuiet_nil ?_
 refine wpPl_e _ (by rfl) (by kernel_rfl) (fun K hK => ?_)
 go_simp
 replace hb := hb.far (p := ⟨g, i1, none⟩) hne (.int .u8 (v % 256))
 replace bel := bel.setCell (p := ⟨g, i1, none⟩) (fun _ => rfl) (.int .u8 (v % 256))
 refine hK _ _ (hb.cell 0) ?_
 clear hK K c1 f1
 generalize W2.setCell ⟨g, i1, none⟩ (.int .u8 (v % 256)) = W3 at *
 unfold wpPl
 refine NoPanic.normal ?_
 go_wp2
 go_end0
 exact ⟨rfl, ⟨hb, ho3, hX3, hg, hn⟩, bel⟩
theorem Wr.bel {W W' : World} {base gw g n c : Nat} {out : Bool} {X : List Int} (h : Wr W base gw g n c out X) (hb : Below W.heap.size W W') : Wr W' base gw g n c out X :=
 ⟨h.1.bel hb, h.2.1.below hb, h.2.2⟩
def fixW (s o n : Int) : Int := fixOf (fixOf s (o / 65536) (n / 65536)) (o % 65536) (n % 65536)
def put4 (l : List Int) (i : Nat) (v : Int) : List Int := put2 (put2 l i (v / 65536)) (i + 2) (v % 65536)
theorem n4_of {l : List Int} {i : Nat} (h : i + 4 ≤ l.length) : n2 l i * 65536 + n2 l (i + 2) = n4 l i := by
 rw [n4_eq _ _ h, n2_eq _ _ (by omega), n2_eq _ _ (by omega), show i + 2 + 1 = i + 3 from rfl]; omega
theorem or32_ (a b : Int) (ha : 0 ≤ a ∧ a ≤ 65535) (hb : 0 ≤ b ∧ b ≤ 65535) : bits .or .u32 (a * 65536) b = a * 65536 + b := by
 rw [u32_or _ _ (by omega) (by omega) (by omega) (by omega)]
 have : (a * 65536).toNat ||| b.toNat = (a * 65536).toNat + b.toNat := by
  have e : (a * 65536).toNat = 2 ^ 16 * a.toNat := by omega
  rw [e, Nat.two_pow_add_eq_or_of_lt (by omega)]
 rw [this]; omega
theorem Wr.bd {W : World} {base gw g n c : Nat} {out : Bool} {X : List Int} (h : Wr W base gw g n c out X) : ∀ x, x ∈ X → 0 ≤ x ∧ x ≤ 255 := fun x hx => inr_u8 (h.2.1.rng x hx)
theorem Wr.len {W : World} {base gw g n c : Nat} {out : Bool} {X : List Int} (h : Wr W base gw g n c out X) : X.length = n := h.2.2.1
theorem wwide_any (base gw g n c : Nat) (out : Bool) (X : List Int) (i : Nat) (W : World) (h : Wr W base gw g n c out X) (hi : i + 4 ≤ n) :
  Calls Tryz.prog 90 #[.pointer (some ⟨gw, 0, none⟩), .int .i64 i] W fun e w' => e = .returned (.int .u32 (n4 X i)) ∧ Below W.heap.size W w' := by
 have hl := h.len
 have a1 := n2_bd h.bd (i := i) (by omega)
 have a2 := n2_bd h.bd (i := i + 2) (by omega)
 rw [← n4_of (by omega)]
 have hor := or32_ (n2 X i) (n2 X (i + 2)) a1 a2
 obtain ⟨j, hj⟩ : ∃ j, i + 2 = j := ⟨_, rfl⟩
 have hj2 : (i : Int) + 2 = (j : Int) := by omega
 have hn : n ≤ 60000 := h.2.2.2.2
 have g1 := fun W' (hb : Below W.heap.size W W') => wget_any base gw g n c out X i W' (h.bel hb) (by omega)
 have g2 := fun W' (hb : Below W.heap.size W W') => wget_any base gw g n c out X (i + 2) W' (h.bel hb) (by omega)
 rw [hj] at g2 hor a2 ⊢
 generalize n2 X i = a at *
 generalize n2 X j = b at *
 have hi60 : (i : Int) ≤ 60000 := by omega
 replace g1 := Lib.hid g1
 replace g2 := Lib.hid g2
 clear hj hl hi
 go_enter Tryz.func90, Tryz.ntmps90
 go_wp2_with fail
 refine (g1.out _ (Below.refl _ _)).mono ?_
 rintro e w1 ⟨rfl, hb1⟩
 go_wp2_with fail
 refine (g2.out _ hb1).mono ?_
 rintro e w2 ⟨rfl, hb2⟩
 go_wp2
 go_ret
 exact ⟨rfl, bel_after hb1 hb2⟩
theorem fixW_bd {s o n : Int} (hs : 0 ≤ s ∧ s ≤ 65535) (ho : 0 ≤ o ∧ o ≤ 4294967295) (hn : 0 ≤ n ∧ n ≤ 4294967295) : 0 ≤ fixW s o n ∧ fixW s o n ≤ 65535 :=
 fixOf_bd (fixOf_bd hs (o := o / 65536) (n := n / 65536) (by omega) (by omega)) (o := o % 65536) (n := n % 65536) (by omega) (by omega)
theorem put4_len (l : List Int) (i : Nat) (v : Int) : (put4 l i v).length = l.length := by unfold put4; rw [put2_len, put2_len]
def WStep (W : World) (base gw g n c : Nat) (out : Bool) (Y : List Int) (r : Value) (e : Ending) (w' : World) : Prop := e = .returned r ∧ Wr w' base gw g n c out Y ∧ Upd (fun k => k = g) W w'
theorem wsetWide_any (base gw g n c : Nat) (out : Bool) (X : List Int) (i : Nat) (v : Int) (W : World) (h : Wr W base gw g n c out X) (hi : i + 4 ≤ n) (hv : 0 ≤ v ∧ v ≤ 4294967295) :
  Calls Tryz.prog 91 #[.pointer (some ⟨gw, 0, none⟩), .int .i64 i, .int .u32 v] W (WStep W base gw g n c out (put4 X i v) (.tuple #[])) := by
 have hn : n ≤ 60000 := h.2.2.2.2
 have g1 := wset_any base gw g n c out X i (v / 65536) W h (by omega) (by omega)
 have g2 := fun W' (h' : Wr W' base gw g n c out (put2 X i (v / 65536))) => wset_any base gw g n c out (put2 X i (v / 65536)) (i + 2) (v % 65536) W' h' (by omega) (by omega)
 unfold put4
 obtain ⟨j, hj⟩ : ∃ j, i + 2 = j := ⟨_, rfl⟩
 have hj2 : (i : Int) + 2 = (j : Int) := by omega
 rw [hj] at g2 ⊢
 generalize put2 X i (v / 65536) = Y at *
 generalize put2 Y j (v % 65536) = Z at *
 have hi60 : (i : Int) ≤ 60000 := by omega
 replace g1 := Lib.hid g1
 replace g2 := Lib.hid g2
 clear hj hi h
 go_enter Tryz.func91, Tryz.ntmps91
 go_wp2_with fail
 refine g1.out.mono ?_
 rintro e w1 ⟨rfl, h1, b1⟩
 go_wp2_with fail
 refine (g2.out _ h1).mono ?_
 rintro e w2 ⟨rfl, h2, b2⟩
 go_wp2
 go_end0
 exact ⟨rfl, h2, b1.trans b2⟩
theorem wthere_any (base gw g n c : Nat) (out : Bool) (X : List Int) (i : Nat) (W : World) (h : Wr W base gw g n c out X) (hi : i ≤ 60000) :
  Calls Tryz.prog 96 #[.pointer (some ⟨gw, 0, none⟩), .int .i64 i] W fun e w' => e = .returned (.bool (decide (i + 2 ≤ n))) ∧ W = w' := by
 obtain ⟨hb, _, _, _, hn⟩ := h
 have q0 := hb.cell 0
 have hd : decide (((i : Int) + 2) ≤ (n : Int)) = decide (i + 2 ≤ n) := by congr 1; apply propext; omega
 generalize decide (i + 2 ≤ n) = B at *
 go_enter Tryz.func96, Tryz.ntmps96
 go_wp2
 go_ret
 exact ⟨rfl, rfl⟩
theorem wfix_any (base gw g n c : Nat) (out : Bool) (X : List Int) (i : Nat) (o v : Int) (W : World) (h : Wr W base gw g n c out X) (hi : i + 2 ≤ n) (ho : 0 ≤ o ∧ o ≤ 4294967295) (hv : 0 ≤ v ∧ v ≤ 4294967295) :
  Calls Tryz.prog 92 #[.pointer (some ⟨gw, 0, none⟩), .int .i64 i, .int .u32 o, .int .u32 v] W (WStep W base gw g n c out (put2 X i (fixW (n2 X i) o v)) (.tuple #[])) := by
 have hl := h.len
 have a1 := n2_bd h.bd (i := i) (by omega)
 have f1 := fixW_bd a1 ho hv
 have g1 := wget_any base gw g n c out X i W h hi
 have g2 := fun W' => FixWide_any (n2 X i) o v W' a1 ho hv
 have g3 := fun W' (hb : Below W.heap.size W W') => wset_any base gw g n c out X i (fixW (n2 X i) o v) W' (h.bel hb) hi f1
 have e1 : fixOf (fixOf (n2 X i) (o / 65536) (v / 65536)) (o % 65536) (v % 65536) = fixW (n2 X i) o v := rfl
 rw [e1] at g2
 have hbs : base ≤ W.heap.size := by have := h.2.1.lt g rfl; have := h.2.2.2.1; omega
 generalize fixW (n2 X i) o v = S at *
 generalize n2 X i = a at *
 replace g1 := Lib.hid g1
 replace g2 := Lib.hid g2
 replace g3 := Lib.hid g3
 clear e1 hl h
 go_enter Tryz.func92, Tryz.ntmps92
 go_wp2_with fail
 refine g1.out.mono ?_
 rintro e w1 ⟨rfl, b1⟩
 go_wp2_with fail
 refine (g2.out _).mono ?_
 rintro e w2 ⟨rfl, rfl⟩
 go_wp2_with fail
 refine (g3.out _ b1).mono ?_
 rintro e w3 ⟨rfl, h3, b3⟩
 go_wp2
 go_end0
 exact ⟨rfl, h3, (Upd.of_below b1 _).trans b3⟩
def addrAt (at_ : Nat) (src : Bool) : Nat := if src then at_ + 12 else at_ + 16
def addrL (l : List Int) (at_ : Nat) (src : Bool) (v : Int) : List Int :=
 put2 (put4 l (addrAt at_ src) v) (at_ + 10) (fixW (n2 (put4 l (addrAt at_ src) v) (at_ + 10)) (n4 l (addrAt at_ src)) v)
theorem addrL_len (l : List Int) (at_ : Nat) (src : Bool) (v : Int) : (addrL l at_ src v).length = l.length := by unfold addrL; rw [put2_len, put4_len]
theorem Wr.base_le {W : World} {base gw g n c : Nat} {out : Bool} {X : List Int} (h : Wr W base gw g n c out X) : base ≤ W.heap.size := by
 have := (h.2.1.lt g rfl).2; have := h.2.2.2.1; omega
theorem waddr_any (base gw g n c : Nat) (out : Bool) (X : List Int) (i : Nat) (src : Bool) (v : Int) (W : World) (h : Wr W base gw g n c out X) (hi : i + 20 ≤ n) (hv : 0 ≤ v ∧ v ≤ 4294967295) :
  Calls Tryz.prog 79 #[.pointer (some ⟨gw, 0, none⟩), .int .i64 i, .bool src, .int .u32 v] W (WStep W base gw g n c out (addrL X i src v) (.int .u32 (n4 X (addrAt i src)))) := by
 have hl := h.len
 have hn : n ≤ 60000 := h.2.2.2.2
 have hp : addrAt i src + 4 ≤ n := by unfold addrAt; split <;> omega
 have ho := n4_bd h.bd (i := addrAt i src) (by omega)
 have hbs := h.base_le
 have g1 := wwide_any base gw g n c out X (addrAt i src) W h hp
 have g2 := fun W' (hb : Below W.heap.size W W') => wsetWide_any base gw g n c out X (addrAt i src) v W' (h.bel hb) hp hv
 have g3 := fun W' (h' : Wr W' base gw g n c out (put4 X (addrAt i src) v)) => wfix_any base gw g n c out (put4 X (addrAt i src) v) (i + 10) (n4 X (addrAt i src)) v W' h' (by omega) ho hv
 unfold addrL
 obtain ⟨j, hj⟩ : ∃ j, i + 10 = j := ⟨_, rfl⟩
 have hj2 : (i : Int) + 10 = (j : Int) := by omega
 rw [hj] at g3 ⊢
 have hpl : (src = true → (i : Int) + 12 = (addrAt i src : Int)) ∧ (src = false → (i : Int) + 16 = (addrAt i src : Int)) := by
  unfold addrAt
  cases src
  ·exact ⟨(fun h => by cases h), (fun _ => by simp)⟩
  ·exact ⟨(fun _ => by simp), (fun h => by cases h)⟩
 generalize addrAt i src = p at *
 generalize put2 (put4 X p v) j (fixW (n2 (put4 X p v) j) (n4 X p) v) = Z at *
 generalize put4 X p v = Y at *
 generalize n4 X p = o at *
 have hi60 : (i : Int) ≤ 60000 := by omega
 replace g1 := Lib.hid g1
 replace g2 := Lib.hid g2
 replace g3 := Lib.hid g3
 clear hj hl h hi hp
 cases src with
 | true =>
  have hq := hpl.1 rfl
  clear hpl
  go_enter Tryz.func79, Tryz.ntmps79
  go_wp2_with fail
  refine g1.out.mono ?_
  rintro e w1 ⟨rfl, b1⟩
  go_wp2_with fail
  refine (g2.out _ b1).mono ?_
  rintro e w2 ⟨rfl, h2, b2⟩
  go_wp2_with fail
  refine (g3.out _ h2).mono ?_
  rintro e w3 ⟨rfl, h3, b3⟩
  go_wp2
  go_ret
  exact ⟨rfl, h3, ((Upd.of_below b1 _).trans b2).trans b3⟩
 | false =>
  have hq := hpl.2 rfl
  clear hpl
  go_enter Tryz.func79, Tryz.ntmps79
  go_wp2_with fail
  refine g1.out.mono ?_
  rintro e w1 ⟨rfl, b1⟩
  go_wp2_with fail
  refine (g2.out _ b1).mono ?_
  rintro e w2 ⟨rfl, h2, b2⟩
  go_wp2_with fail
  refine (g3.out _ h2).mono ?_
  rintro e w3 ⟨rfl, h3, b3⟩
  go_wp2
  go_ret
  exact ⟨rfl, h3, ((Upd.of_below b1 _).trans b2).trans b3⟩
def nevS (s : Int) : Int := if s = 0 then 65535 else s
def echoS (l : List Int) (i : Nat) (v : Int) : Int := nevS (fixOf (n2 (put2 l (i + 4) v) (i + 2)) (n2 l (i + 4)) v)
def echoW (l : List Int) (i : Nat) (v : Int) : List Int := put2 (put2 l (i + 4) v) (i + 2) (echoS l i v)
theorem nevS_bd {s : Int} (h : 0 ≤ s ∧ s ≤ 65535) : 0 ≤ nevS s ∧ nevS s ≤ 65535 := by unfold nevS; split <;> omega
theorem wecho_any (base gw g n c : Nat) (out : Bool) (X : List Int) (i : Nat) (v : Int) (W : World) (h : Wr W base gw g n c out X) (hi : i + 6 ≤ n) (hv : 0 ≤ v ∧ v ≤ 65535) :
  Calls Tryz.prog 81 #[.pointer (some ⟨gw, 0, none⟩), .int .i64 i, .int .u16 v] W (WStep W base gw g n c out (echoW X i v) (.tuple #[])) := by
 have hl := h.len
 have hn : n ≤ 60000 := h.2.2.2.2
 have hbs := h.base_le
 have a1 := n2_bd h.bd (i := i + 4) (by omega)
 have hY8 : ∀ x, x ∈ put2 X (i + 4) v → 0 ≤ x ∧ x ≤ 255 := fun x hx => by
  unfold put2 at hx
  rcases List.mem_or_eq_of_mem_set hx with h1 | h1
  ·rcases List.mem_or_eq_of_mem_set h1 with h2 | h2
   ·exact h.bd x h2
   ·omega
  ·omega
 have a2 := n2_bd hY8 (i := i + 2) (by rw [put2_len]; omega)
 have f1 := fixOf_bd a2 a1 hv
 have f2 := nevS_bd f1
 have g1 := wget_any base gw g n c out X (i + 4) W h (by omega)
 have g2 := fun W' (hb : Below W.heap.size W W') => wset_any base gw g n c out X (i + 4) v W' (h.bel hb) (by omega) hv
 have g3 := fun W' (h' : Wr W' base gw g n c out (put2 X (i + 4) v)) => wget_any base gw g n c out (put2 X (i + 4) v) (i + 2) W' h' (by omega)
 have g4 := fun W' => Fix_any (n2 (put2 X (i + 4) v) (i + 2)) (n2 X (i + 4)) v W' a2 a1 hv
 have g5 := fun W' (h' : Wr W' base gw g n c out (put2 X (i + 4) v)) => wset_any base gw g n c out (put2 X (i + 4) v) (i + 2) (nevS (fixOf (n2 (put2 X (i + 4) v) (i + 2)) (n2 X (i + 4)) v)) W' h' (by omega) f2
 unfold echoW echoS
 obtain ⟨j4, hj4⟩ : ∃ j, i + 4 = j := ⟨_, rfl⟩
 obtain ⟨j2, hj2⟩ : ∃ j, i + 2 = j := ⟨_, rfl⟩
 have e4 : (i : Int) + 4 = (j4 : Int) := by omega
 have e2 : (i : Int) + 2 = (j2 : Int) := by omega
 rw [hj4] at g1 g2 g4 ⊢
 rw [hj4, hj2] at g3 g5
 rw [hj2] at g4 ⊢
 rw [hj4] at f1 f2
 rw [hj2] at f1 f2
 generalize fixOf (n2 (put2 X j4 v) j2) (n2 X j4) v = S at *
 generalize put2 (put2 X j4 v) j2 (nevS S) = Z at *
 generalize n2 (put2 X j4 v) j2 = b at *
 generalize put2 X j4 v = Y at *
 generalize n2 X j4 = a at *
 have hi60 : (i : Int) ≤ 60000 := by omega
 clear hj2 hj4 hl h hi hY8 a1 a2
 replace g1 := Lib.hid g1
 replace g2 := Lib.hid g2
 replace g3 := Lib.hid g3
 replace g4 := Lib.hid g4
 by_cases hS : S = 0
 ·have eS : nevS S = 65535 := by unfold nevS; rw [if_pos hS]
  rw [eS] at g5
  replace g5 := Lib.hid g5
  have d1 : (S == 0) = true := by simpa using hS
  clear f2 eS f1
  replace hS := Lib.hid hS
  go_enter Tryz.func81, Tryz.ntmps81
  go_wp2_with fail
  refine g1.out.mono ?_
  rintro e w1 ⟨rfl, b1⟩
  go_wp2_with fail
  refine (g2.out _ b1).mono ?_
  rintro e w2 ⟨rfl, h2, b2⟩
  go_wp2_with fail
  refine (g3.out _ h2).mono ?_
  rintro e w3 ⟨rfl, b3⟩
  have bs2 : base ≤ w2.heap.size := h2.base_le
  replace h2 := h2.bel b3
  go_wp2_with fail
  refine (g4.out _).mono ?_
  rintro e w4 ⟨rfl, rfl⟩
  go_wp2_with fail
  refine (g5.out _ h2).mono ?_
  rintro e w5 ⟨rfl, h5, b5⟩
  go_wp2
  go_end0
  exact ⟨rfl, h5, (((Upd.of_below b1 _).trans b2).trans (Upd.of_below b3 _)).trans b5⟩
 ·have eS : nevS S = S := by unfold nevS; rw [if_neg hS]
  rw [eS] at g5
  replace g5 := Lib.hid g5
  have d1 : (S == 0) = false := by simpa using hS
  clear f2 eS
  replace hS := Lib.hid hS
  go_enter Tryz.func81, Tryz.ntmps81
  go_wp2_with fail
  refine g1.out.mono ?_
  rintro e w1 ⟨rfl, b1⟩
  go_wp2_with fail
  refine (g2.out _ b1).mono ?_
  rintro e w2 ⟨rfl, h2, b2⟩
  go_wp2_with fail
  refine (g3.out _ h2).mono ?_
  rintro e w3 ⟨rfl, b3⟩
  have bs2 : base ≤ w2.heap.size := h2.base_le
  replace h2 := h2.bel b3
  go_wp2_with fail
  refine (g4.out _).mono ?_
  rintro e w4 ⟨rfl, rfl⟩
  go_wp2_with fail
  refine (g5.out _ h2).mono ?_
  rintro e w5 ⟨rfl, h5, b5⟩
  go_wp2
  go_end0
  exact ⟨rfl, h5, (((Upd.of_below b1 _).trans b2).trans (Upd.of_below b3 _)).trans b5⟩
theorem put2_bd {X : List Int} (hX : ∀ x, x ∈ X → 0 ≤ x ∧ x ≤ 255) (i : Nat) {v : Int} (hv : 0 ≤ v ∧ v ≤ 65535) : ∀ x, x ∈ put2 X i v → 0 ≤ x ∧ x ≤ 255 := fun x hx => by
 unfold put2 at hx
 rcases List.mem_or_eq_of_mem_set hx with h1 | h1
 ·rcases List.mem_or_eq_of_mem_set h1 with h2 | h2
  ·exact hX x h2
  ·omega
 ·omega
def portAt (i : Nat) (src : Bool) : Nat := if src then i else i + 2
def sumAt (i : Nat) (udp : Bool) : Nat := if udp then i + 6 else i + 16
def carS (Y : List Int) (q : Nat) (udp : Bool) (was port o a : Int) : Int :=
 if udp = true ∧ fixOf (n2 (put2 Y q (fixW (n2 Y q) o a)) q) was port = 0 then 65535 else fixOf (n2 (put2 Y q (fixW (n2 Y q) o a)) q) was port
def carW (l : List Int) (i : Nat) (udp src : Bool) (port o a : Int) : List Int :=
 if l.length < sumAt i udp + 2 ∨ (udp = true ∧ n2 (put2 l (portAt i src) port) (sumAt i udp) = 0) then put2 l (portAt i src) port else
 put2 (put2 (put2 l (portAt i src) port) (sumAt i udp) (fixW (n2 (put2 l (portAt i src) port) (sumAt i udp)) o a)) (sumAt i udp)
  (carS (put2 l (portAt i src) port) (sumAt i udp) udp (n2 l (portAt i src)) port o a)
theorem carW_len (l : List Int) (i : Nat) (udp src : Bool) (port o a : Int) : (carW l i udp src port o a).length = l.length := by
 unfold carW
 split
 ·rw [put2_len]
 ·rw [put2_len, put2_len, put2_len]
theorem wcar_go (base gw g n c : Nat) (out : Bool) (X : List Int) (i p q : Nat) (proto : Int) (src : Bool) (port o a : Int) (W : World) (h : Wr W base gw g n c out X) (hi : i ≤ 50000) (hp : p + 2 ≤ n) (hq6 : q ≤ 60000) (hport : 0 ≤ port ∧ port ≤ 65535) (ho : 0 ≤ o ∧ o ≤ 4294967295) (ha : 0 ≤ a ∧ a ≤ 4294967295)
  (hpp : (if src then (i : Int) else (i : Int) + 2) = (p : Int)) (hqq : (if proto == 17 then (i : Int) + 6 else (i : Int) + 16) = (q : Int)) (Y : List Int) (hY : Y = put2 X p port) (Z : List Int)
  (hZ : Z = (if n < q + 2 ∨ ((proto == 17) = true ∧ n2 Y q = 0) then Y else put2 (put2 Y q (fixW (n2 Y q) o a)) q (carS Y q (proto == 17) (n2 X p) port o a))) :
  Calls Tryz.prog 82 #[.pointer (some ⟨gw, 0, none⟩), .int .i64 i, .int .i64 proto, .bool src, .int .u16 port, .int .u32 o, .int .u32 a] W (WStep W base gw g n c out Z (.tuple #[])) := by
 have hl := h.len
 have hbs := h.base_le
 have hn : n ≤ 60000 := h.2.2.2.2
 have hb1 := n2_bd h.bd (i := p) (by omega)
 have hY8 : ∀ x, x ∈ Y → 0 ≤ x ∧ x ≤ 255 := by rw [hY]; exact put2_bd h.bd p hport
 have hYl : Y.length = n := by rw [hY, put2_len]; exact hl
 have hY1b := fun (hq : q + 2 ≤ n) => fixW_bd (n2_bd hY8 (i := q) (by omega)) ho ha
 have cg1 := wget_any base gw g n c out X p W h hp
 have cs1 : ∀ w1, Wr w1 base gw g n c out X → Calls Tryz.prog 93 #[.pointer (some ⟨gw, 0, none⟩), .int .i64 p, .int .u16 port] w1 fun e w' => e = .returned (.tuple #[]) ∧ Wr w' base gw g n c out Y ∧ Upd (fun k => k = g) w1 w' := fun w1 h1 => by rw [hY]; exact wset_any base gw g n c out X p port w1 h1 hp hport
 have ct := fun w1 (h1 : Wr w1 base gw g n c out Y) => wthere_any base gw g n c out Y q w1 h1 hq6
 generalize n2 X p = was at *
 clear hY hl
 replace h := Lib.hid h
 replace cg1 := Lib.hid cg1
 replace cs1 := Lib.hid cs1
 by_cases hq : q + 2 ≤ n
 ·rw [decide_eq_true hq] at ct
  replace ct := Lib.hid ct
  have cz := fun w1 (h1 : Wr w1 base gw g n c out Y) => wget_any base gw g n c out Y q w1 h1 hq
  have cf := fun w1 (h1 : Wr w1 base gw g n c out Y) => wfix_any base gw g n c out Y q o a w1 h1 hq ho ha
  have y1 := put2_bd hY8 q (hY1b hq)
  have y1l : (put2 Y q (fixW (n2 Y q) o a)).length = n := by rw [put2_len]; exact hYl
  unfold carS at hZ
  generalize put2 Y q (fixW (n2 Y q) o a) = Y1 at *
  have b2d := n2_bd y1 (i := q) (by omega)
  have cg2 := fun w1 (h1 : Wr w1 base gw g n c out Y1) => wget_any base gw g n c out Y1 q w1 h1 hq
  have cx := fun W' => Fix_any (n2 Y1 q) was port W' b2d hb1 hport
  have sbd := fixOf_bd b2d hb1 hport
  generalize fixOf (n2 Y1 q) was port = S at *
  have cs2 := fun v (hv : 0 ≤ v ∧ v ≤ 65535) w1 (h1 : Wr w1 base gw g n c out Y1) => wset_any base gw g n c out Y1 q v w1 h1 hq hv
  unfold WStep at cf ⊢
  generalize n2 Y q = z at *
  generalize n2 Y1 q = z1 at *
  clear y1 y1l hY8 hYl hY1b b2d hb1
  replace cz := Lib.hid cz
  replace cf := Lib.hid cf
  replace cg2 := Lib.hid cg2
  replace cx := Lib.hid cx
  by_cases hpr : proto = 17
  ·subst hpr
   simp only [beq_self_eq_true, if_true, true_and] at hqq hZ
   by_cases hz : z = 0
   ·rw [if_pos (.inr hz)] at hZ
    subst hZ hz
    cases src with
    | true =>
     simp only [if_true] at hpp
     obtain rfl : p = i := by omega
     clear hpp
     go_enter Tryz.func82, Tryz.ntmps82
     go_wp2_with fail
     refine (cg1.out).mono ?_
     rintro e w1 ⟨rfl, b1⟩
     go_wp2_with fail
     refine (cs1.out w1 (h.out.bel b1)).mono ?_
     rintro e w2 ⟨rfl, h2, b2⟩
     replace b2 := (Upd.of_below b1 _).trans b2
     clear b1
     go_wp2_with fail
     refine (ct.out w2 h2).mono ?_
     rintro e w3 ⟨rfl, rfl⟩
     go_wp2_with fail
     refine (cz.out w2 h2).mono ?_
     rintro e w4 ⟨rfl, b4⟩
     replace b2 := b2.trans (Upd.of_below b4 _)
     replace h2 := h2.bel b4
     clear b4
     go_wp2
     exact bodyPost_ret (results_none (by rfl) _ _ _) rfl ⟨rfl, h2, b2⟩
    | false =>
     simp only [Bool.false_eq_true, if_false] at hpp
     go_enter Tryz.func82, Tryz.ntmps82
     go_wp2_with fail
     refine (cg1.out).mono ?_
     rintro e w1 ⟨rfl, b1⟩
     go_wp2_with fail
     refine (cs1.out w1 (h.out.bel b1)).mono ?_
     rintro e w2 ⟨rfl, h2, b2⟩
     replace b2 := (Upd.of_below b1 _).trans b2
     clear b1
     go_wp2_with fail
     refine (ct.out w2 h2).mono ?_
     rintro e w3 ⟨rfl, rfl⟩
     go_wp2_with fail
     refine (cz.out w2 h2).mono ?_
     rintro e w4 ⟨rfl, b4⟩
     replace b2 := b2.trans (Upd.of_below b4 _)
     replace h2 := h2.bel b4
     clear b4
     go_wp2
     exact bodyPost_ret (results_none (by rfl) _ _ _) rfl ⟨rfl, h2, b2⟩
   ·rw [if_neg (by omega)] at hZ
    have dz : (z == 0) = false := by simpa using hz
    by_cases hS : S = 0
    ·rw [if_pos hS] at hZ
     replace cs2 := cs2 65535 (by omega)
     have dS : (S == 0) = true := by simpa using hS
     rw [← hZ] at cs2
     replace cs2 := Lib.hid cs2
     clear hz hS hZ sbd
     cases src with
     | true =>
      simp only [if_true] at hpp
      obtain rfl : p = i := by omega
      clear hpp
      go_enter Tryz.func82, Tryz.ntmps82
      go_wp2_with fail
      refine (cg1.out).mono ?_
      rintro e w1 ⟨rfl, b1⟩
      go_wp2_with fail
      refine (cs1.out w1 (h.out.bel b1)).mono ?_
      rintro e w2 ⟨rfl, h2, b2⟩
      replace b2 := (Upd.of_below b1 _).trans b2
      clear b1
      go_wp2_with fail
      refine (ct.out w2 h2).mono ?_
      rintro e w3 ⟨rfl, rfl⟩
      go_wp2_with fail
      refine (cz.out w2 h2).mono ?_
      rintro e w4 ⟨rfl, b4⟩
      replace b2 := b2.trans (Upd.of_below b4 _)
      replace h2 := h2.bel b4
      clear b4
      go_wp2_with fail
      refine (cf.out _ h2).mono ?_
      rintro e w5 ⟨rfl, h5, b5⟩
      replace b2 := b2.trans b5
      clear b5 h2
      go_wp2_with fail
      refine (cg2.out _ h5).mono ?_
      rintro e w6 ⟨rfl, b6⟩
      replace b2 := b2.trans (Upd.of_below b6 _)
      replace h5 := h5.bel b6
      clear b6
      go_wp2_with fail
      refine (cx.out _).mono ?_
      rintro e w7 ⟨rfl, rfl⟩
      go_wp2_with fail
      refine (cs2.out _ h5).mono ?_
      rintro e w8 ⟨rfl, h8, b8⟩
      go_wp2
      go_end0
      exact ⟨rfl, h8, b2.trans b8⟩
     | false =>
      simp only [Bool.false_eq_true, if_false] at hpp
      go_enter Tryz.func82, Tryz.ntmps82
      go_wp2_with fail
      refine (cg1.out).mono ?_
      rintro e w1 ⟨rfl, b1⟩
      go_wp2_with fail
      refine (cs1.out w1 (h.out.bel b1)).mono ?_
      rintro e w2 ⟨rfl, h2, b2⟩
      replace b2 := (Upd.of_below b1 _).trans b2
      clear b1
      go_wp2_with fail
      refine (ct.out w2 h2).mono ?_
      rintro e w3 ⟨rfl, rfl⟩
      go_wp2_with fail
      refine (cz.out w2 h2).mono ?_
      rintro e w4 ⟨rfl, b4⟩
      replace b2 := b2.trans (Upd.of_below b4 _)
      replace h2 := h2.bel b4
      clear b4
      go_wp2_with fail
      refine (cf.out _ h2).mono ?_
      rintro e w5 ⟨rfl, h5, b5⟩
      replace b2 := b2.trans b5
      clear b5 h2
      go_wp2_with fail
      refine (cg2.out _ h5).mono ?_
      rintro e w6 ⟨rfl, b6⟩
      replace b2 := b2.trans (Upd.of_below b6 _)
      replace h5 := h5.bel b6
      clear b6
      go_wp2_with fail
      refine (cx.out _).mono ?_
      rintro e w7 ⟨rfl, rfl⟩
      go_wp2_with fail
      refine (cs2.out _ h5).mono ?_
      rintro e w8 ⟨rfl, h8, b8⟩
      go_wp2
      go_end0
      exact ⟨rfl, h8, b2.trans b8⟩
    ·rw [if_neg hS] at hZ
     replace cs2 := cs2 S sbd
     have dS : (S == 0) = false := by simpa using hS
     rw [← hZ] at cs2
     replace cs2 := Lib.hid cs2
     clear hz hS hZ sbd
     cases src with
     | true =>
      simp only [if_true] at hpp
      obtain rfl : p = i := by omega
      clear hpp
      go_enter Tryz.func82, Tryz.ntmps82
      go_wp2_with fail
      refine (cg1.out).mono ?_
      rintro e w1 ⟨rfl, b1⟩
      go_wp2_with fail
      refine (cs1.out w1 (h.out.bel b1)).mono ?_
      rintro e w2 ⟨rfl, h2, b2⟩
      replace b2 := (Upd.of_below b1 _).trans b2
      clear b1
      go_wp2_with fail
      refine (ct.out w2 h2).mono ?_
      rintro e w3 ⟨rfl, rfl⟩
      go_wp2_with fail
      refine (cz.out w2 h2).mono ?_
      rintro e w4 ⟨rfl, b4⟩
      replace b2 := b2.trans (Upd.of_below b4 _)
      replace h2 := h2.bel b4
      clear b4
      go_wp2_with fail
      refine (cf.out _ h2).mono ?_
      rintro e w5 ⟨rfl, h5, b5⟩
      replace b2 := b2.trans b5
      clear b5 h2
      go_wp2_with fail
      refine (cg2.out _ h5).mono ?_
      rintro e w6 ⟨rfl, b6⟩
      replace b2 := b2.trans (Upd.of_below b6 _)
      replace h5 := h5.bel b6
      clear b6
      go_wp2_with fail
      refine (cx.out _).mono ?_
      rintro e w7 ⟨rfl, rfl⟩
      go_wp2_with fail
      refine (cs2.out _ h5).mono ?_
      rintro e w8 ⟨rfl, h8, b8⟩
      go_wp2
      go_end0
      exact ⟨rfl, h8, b2.trans b8⟩
     | false =>
      simp only [Bool.false_eq_true, if_false] at hpp
      go_enter Tryz.func82, Tryz.ntmps82
      go_wp2_with fail
      refine (cg1.out).mono ?_
      rintro e w1 ⟨rfl, b1⟩
      go_wp2_with fail
      refine (cs1.out w1 (h.out.bel b1)).mono ?_
      rintro e w2 ⟨rfl, h2, b2⟩
      replace b2 := (Upd.of_below b1 _).trans b2
      clear b1
      go_wp2_with fail
      refine (ct.out w2 h2).mono ?_
      rintro e w3 ⟨rfl, rfl⟩
      go_wp2_with fail
      refine (cz.out w2 h2).mono ?_
      rintro e w4 ⟨rfl, b4⟩
      replace b2 := b2.trans (Upd.of_below b4 _)
      replace h2 := h2.bel b4
      clear b4
      go_wp2_with fail
      refine (cf.out _ h2).mono ?_
      rintro e w5 ⟨rfl, h5, b5⟩
      replace b2 := b2.trans b5
      clear b5 h2
      go_wp2_with fail
      refine (cg2.out _ h5).mono ?_
      rintro e w6 ⟨rfl, b6⟩
      replace b2 := b2.trans (Upd.of_below b6 _)
      replace h5 := h5.bel b6
      clear b6
      go_wp2_with fail
      refine (cx.out _).mono ?_
      rintro e w7 ⟨rfl, rfl⟩
      go_wp2_with fail
      refine (cs2.out _ h5).mono ?_
      rintro e w8 ⟨rfl, h8, b8⟩
      go_wp2
      go_end0
      exact ⟨rfl, h8, b2.trans b8⟩
  ·have dp : (proto == 17) = false := by simpa using hpr
   rw [dp] at hqq hZ
   simp only [Bool.false_eq_true, if_false, false_and, or_false] at hqq hZ
   rw [if_neg (by omega)] at hZ
   replace cs2 := cs2 S sbd
   rw [← hZ] at cs2
   replace cs2 := Lib.hid cs2
   clear hpr hZ sbd
   cases src with
   | true =>
    simp only [if_true] at hpp
    obtain rfl : p = i := by omega
    clear hpp
    go_enter Tryz.func82, Tryz.ntmps82
    go_wp2_with fail
    refine (cg1.out).mono ?_
    rintro e w1 ⟨rfl, b1⟩
    go_wp2_with fail
    refine (cs1.out w1 (h.out.bel b1)).mono ?_
    rintro e w2 ⟨rfl, h2, b2⟩
    replace b2 := (Upd.of_below b1 _).trans b2
    clear b1
    go_wp2_with fail
    refine (ct.out w2 h2).mono ?_
    rintro e w3 ⟨rfl, rfl⟩
    go_wp2_with fail
    refine (cf.out _ h2).mono ?_
    rintro e w5 ⟨rfl, h5, b5⟩
    replace b2 := b2.trans b5
    clear b5 h2
    go_wp2_with fail
    refine (cg2.out _ h5).mono ?_
    rintro e w6 ⟨rfl, b6⟩
    replace b2 := b2.trans (Upd.of_below b6 _)
    replace h5 := h5.bel b6
    clear b6
    go_wp2_with fail
    refine (cx.out _).mono ?_
    rintro e w7 ⟨rfl, rfl⟩
    go_wp2_with fail
    refine (cs2.out _ h5).mono ?_
    rintro e w8 ⟨rfl, h8, b8⟩
    go_wp2
    go_end0
    exact ⟨rfl, h8, b2.trans b8⟩
   | false =>
    simp only [Bool.false_eq_true, if_false] at hpp
    go_enter Tryz.func82, Tryz.ntmps82
    go_wp2_with fail
    refine (cg1.out).mono ?_
    rintro e w1 ⟨rfl, b1⟩
    go_wp2_with fail
    refine (cs1.out w1 (h.out.bel b1)).mono ?_
    rintro e w2 ⟨rfl, h2, b2⟩
    replace b2 := (Upd.of_below b1 _).trans b2
    clear b1
    go_wp2_with fail
    refine (ct.out w2 h2).mono ?_
    rintro e w3 ⟨rfl, rfl⟩
    go_wp2_with fail
    refine (cf.out _ h2).mono ?_
    rintro e w5 ⟨rfl, h5, b5⟩
    replace b2 := b2.trans b5
    clear b5 h2
    go_wp2_with fail
    refine (cg2.out _ h5).mono ?_
    rintro e w6 ⟨rfl, b6⟩
    replace b2 := b2.trans (Upd.of_below b6 _)
    replace h5 := h5.bel b6
    clear b6
    go_wp2_with fail
    refine (cx.out _).mono ?_
    rintro e w7 ⟨rfl, rfl⟩
    go_wp2_with fail
    refine (cs2.out _ h5).mono ?_
    rintro e w8 ⟨rfl, h8, b8⟩
    go_wp2
    go_end0
    exact ⟨rfl, h8, b2.trans b8⟩
 ·rw [decide_eq_false hq] at ct
  replace ct := Lib.hid ct
  rw [if_pos (.inl (by omega))] at hZ
  subst hZ
  clear hY1b
  unfold WStep
  by_cases hpr : proto = 17
  ·subst hpr
   simp only [beq_self_eq_true, if_true] at hqq
   cases src with
   | true =>
    simp only [if_true] at hpp
    obtain rfl : p = i := by omega
    clear hpp
    go_enter Tryz.func82, Tryz.ntmps82
    go_wp2_with fail
    refine (cg1.out).mono ?_
    rintro e w1 ⟨rfl, b1⟩
    go_wp2_with fail
    refine (cs1.out w1 (h.out.bel b1)).mono ?_
    rintro e w2 ⟨rfl, h2, b2⟩
    replace b2 := (Upd.of_below b1 _).trans b2
    clear b1
    go_wp2_with fail
    refine (ct.out w2 h2).mono ?_
    rintro e w3 ⟨rfl, rfl⟩
    go_wp2
    exact bodyPost_ret (results_none (by rfl) _ _ _) rfl ⟨rfl, h2, b2⟩
   | false =>
    simp only [Bool.false_eq_true, if_false] at hpp
    go_enter Tryz.func82, Tryz.ntmps82
    go_wp2_with fail
    refine (cg1.out).mono ?_
    rintro e w1 ⟨rfl, b1⟩
    go_wp2_with fail
    refine (cs1.out w1 (h.out.bel b1)).mono ?_
    rintro e w2 ⟨rfl, h2, b2⟩
    replace b2 := (Upd.of_below b1 _).trans b2
    clear b1
    go_wp2_with fail
    refine (ct.out w2 h2).mono ?_
    rintro e w3 ⟨rfl, rfl⟩
    go_wp2
    exact bodyPost_ret (results_none (by rfl) _ _ _) rfl ⟨rfl, h2, b2⟩
  ·have dp : (proto == 17) = false := by simpa using hpr
   rw [dp] at hqq
   simp only [Bool.false_eq_true, if_false] at hqq
   clear hpr
   cases src with
   | true =>
    simp only [if_true] at hpp
    obtain rfl : p = i := by omega
    clear hpp
    go_enter Tryz.func82, Tryz.ntmps82
    go_wp2_with fail
    refine (cg1.out).mono ?_
    rintro e w1 ⟨rfl, b1⟩
    go_wp2_with fail
    refine (cs1.out w1 (h.out.bel b1)).mono ?_
    rintro e w2 ⟨rfl, h2, b2⟩
    replace b2 := (Upd.of_below b1 _).trans b2
    clear b1
    go_wp2_with fail
    refine (ct.out w2 h2).mono ?_
    rintro e w3 ⟨rfl, rfl⟩
    go_wp2
    exact bodyPost_ret (results_none (by rfl) _ _ _) rfl ⟨rfl, h2, b2⟩
   | false =>
    simp only [Bool.false_eq_true, if_false] at hpp
    go_enter Tryz.func82, Tryz.ntmps82
    go_wp2_with fail
    refine (cg1.out).mono ?_
    rintro e w1 ⟨rfl, b1⟩
    go_wp2_with fail
    refine (cs1.out w1 (h.out.bel b1)).mono ?_
    rintro e w2 ⟨rfl, h2, b2⟩
    replace b2 := (Upd.of_below b1 _).trans b2
    clear b1
    go_wp2_with fail
    refine (ct.out w2 h2).mono ?_
    rintro e w3 ⟨rfl, rfl⟩
    go_wp2
    exact bodyPost_ret (results_none (by rfl) _ _ _) rfl ⟨rfl, h2, b2⟩
theorem wcar_any (base gw g n c : Nat) (out : Bool) (X : List Int) (i : Nat) (proto : Int) (src : Bool) (port o a : Int) (W : World) (h : Wr W base gw g n c out X) (hi : i + 4 ≤ n) (hport : 0 ≤ port ∧ port ≤ 65535) (ho : 0 ≤ o ∧ o ≤ 4294967295) (ha : 0 ≤ a ∧ a ≤ 4294967295) (hn5 : n ≤ 50000) :
  Calls Tryz.prog 82 #[.pointer (some ⟨gw, 0, none⟩), .int .i64 i, .int .i64 proto, .bool src, .int .u16 port, .int .u32 o, .int .u32 a] W (WStep W base gw g n c out (carW X i (proto == 17) src port o a) (.tuple #[])) := by
 refine wcar_go base gw g n c out X i (portAt i src) (sumAt i (proto == 17)) proto src port o a W h (by omega) ?_ ?_ hport ho ha ?_ ?_ _ rfl _ ?_
 ·unfold portAt; split <;> omega
 ·unfold sumAt; split <;> omega
 ·unfold portAt; cases src <;> simp
 ·unfold sumAt; cases (proto == 17) <;> simp
 ·unfold carW; rw [h.len]
theorem fix_mod {s o n : Int} (hs : 0 ≤ s ∧ s ≤ 65535) (ho : 0 ≤ o ∧ o ≤ 65535) (hn : 0 ≤ n ∧ n ≤ 65535) : ∃ q : Int, fixOf s o n = s + o - n + 65535 * q := by
 unfold fixOf fo
 split
 ·exact ⟨-1, by omega⟩
 ·exact ⟨(65535 - s + (65535 - o) + n - 1) / 65535 - 1, by omega⟩
theorem fixW_mod {s o n : Int} (hs : 0 ≤ s ∧ s ≤ 65535) (ho : 0 ≤ o ∧ o ≤ 4294967295) (hn : 0 ≤ n ∧ n ≤ 4294967295) : ∃ q : Int, fixW s o n = s + (o / 65536 + o % 65536) - (n / 65536 + n % 65536) + 65535 * q := by
 unfold fixW
 obtain ⟨q1, h1⟩ := fix_mod hs (o := o / 65536) (n := n / 65536) (by omega) (by omega)
 have hb := fixOf_bd hs (o := o / 65536) (n := n / 65536) (by omega) (by omega)
 obtain ⟨q2, h2⟩ := fix_mod hb (o := o % 65536) (n := n % 65536) (by omega) (by omega)
 exact ⟨q1 + q2, by rw [h2, h1]; omega⟩
theorem getD_set_ne_ {l : List Int} {i j : Nat} {x : Int} (h : i ≠ j) : (l.set i x).getD j 0 = l.getD j 0 := by
 simp only [List.getD_eq_getElem?_getD, List.getElem?_set_ne h]
theorem sb_put2 (l : List Int) (i : Nat) (v : Int) (he : i % 2 = 0) (h : i + 2 ≤ l.length) : sb true (put2 l i v) = sb true l + (v - n2 l i) := by
 unfold put2
 rw [sb_set (l.set i (v / 256)) (i + 1) (v % 256) (by rw [List.length_set]; omega) true, sb_set l i (v / 256) (by omega) true, getD_set_ne_ (by omega), n2_eq l i h]
 have h1 : (i % 2 = 0) = (true = true) := by simp [he]
 have h2 : ¬ (((i + 1) % 2 = 0) = (true = true)) := by simp; omega
 rw [if_pos h1, if_neg h2]
 omega
theorem n2_put2_ne {l : List Int} {i j : Nat} {v : Int} (h : i + 2 ≤ j ∨ j + 2 ≤ i) (hj : j + 2 ≤ l.length) : n2 (put2 l i v) j = n2 l j := by
 rw [n2_eq _ _ (by rw [put2_len]; omega), n2_eq _ _ hj]
 unfold put2
 rw [getD_set_ne_ (by omega), getD_set_ne_ (by omega), getD_set_ne_ (by omega), getD_set_ne_ (by omega)]
theorem n2_put2 {l : List Int} {i : Nat} {v : Int} (h : i + 2 ≤ l.length) (hv : 0 ≤ v ∧ v ≤ 65535) : n2 (put2 l i v) i = v := by
 rw [n2_eq _ _ (by rw [put2_len]; omega)]
 unfold put2
 rw [getD_set_ne_ (by omega)]
 simp only [List.getD_eq_getElem?_getD]
 rw [List.getElem?_set_self (by omega), List.getElem?_set_self (by rw [List.length_set]; omega)]
 show v / 256 * 256 + v % 256 = v
 omega
theorem sb_put4 (l : List Int) (i : Nat) (v : Int) (he : i % 2 = 0) (h : i + 4 ≤ l.length) : sb true (put4 l i v) = sb true l + ((v / 65536 + v % 65536) - (n2 l i + n2 l (i + 2))) := by
 unfold put4
 rw [sb_put2 _ _ _ (by omega) (by rw [put2_len]; omega), sb_put2 _ _ _ he (by omega), n2_put2_ne (by omega) (by omega)]
 omega
theorem sb_addr (l : List Int) (i : Nat) (src : Bool) (v : Int) (he : i % 2 = 0) (h : i + 20 ≤ l.length) (hl : ∀ x, x ∈ l → 0 ≤ x ∧ x ≤ 255) (hv : 0 ≤ v ∧ v ≤ 4294967295) : ∃ q : Int, sb true (addrL l i src v) = sb true l + 65535 * q := by
 have hp : addrAt i src + 4 ≤ l.length ∧ addrAt i src % 2 = 0 ∧ i + 12 ≤ addrAt i src := by
  unfold addrAt
  cases src <;> simp <;> omega
 unfold addrL
 generalize addrAt i src = p at *
 have h0 : n2 (put4 l p v) (i + 10) = n2 l (i + 10) := by
  unfold put4
  rw [n2_put2_ne (by omega) (by rw [put2_len]; omega), n2_put2_ne (by omega) (by omega)]
 have hb := n2_bd hl (i := i + 10) (by omega)
 have h4 := n4_bd hl (i := p) (by omega)
 have a1 := n2_bd hl (i := p) (by omega)
 have a2 := n2_bd hl (i := p + 2) (by omega)
 have e4 := n4_of (l := l) (i := p) (by omega)
 rw [h0]
 obtain ⟨q, hq⟩ := fixW_mod (s := n2 l (i + 10)) (o := n4 l p) (n := v) hb h4 hv
 refine ⟨q, ?_⟩
 rw [sb_put2 _ _ _ (by omega) (by rw [put4_len]; omega), h0, sb_put4 _ _ _ (by omega) (by omega), hq]
 have d1 : n4 l p / 65536 = n2 l p := by omega
 have d2 : n4 l p % 65536 = n2 l (p + 2) := by omega
 rw [d1, d2]
 omega
theorem nevS_mod (s : Int) : ∃ q : Int, nevS s = s + 65535 * q := by
 unfold nevS
 split
 ·exact ⟨1, by omega⟩
 ·exact ⟨0, by omega⟩
theorem sb_echo (l : List Int) (i : Nat) (v : Int) (he : i % 2 = 0) (h : i + 6 ≤ l.length) (hl : ∀ x, x ∈ l → 0 ≤ x ∧ x ≤ 255) (hv : 0 ≤ v ∧ v ≤ 65535) : ∃ q : Int, sb true (echoW l i v) = sb true l + 65535 * q := by
 have h0 : n2 (put2 l (i + 4) v) (i + 2) = n2 l (i + 2) := n2_put2_ne (by omega) (by omega)
 have a1 := n2_bd hl (i := i + 4) (by omega)
 have a2 := n2_bd hl (i := i + 2) (by omega)
 unfold echoW echoS
 rw [h0]
 obtain ⟨q1, h1⟩ := fix_mod a2 a1 hv
 obtain ⟨q2, h2⟩ := nevS_mod (fixOf (n2 l (i + 2)) (n2 l (i + 4)) v)
 refine ⟨q1 + q2, ?_⟩
 rw [sb_put2 _ _ _ (by omega) (by rw [put2_len]; omega), h0, sb_put2 _ _ _ (by omega) (by omega), h2, h1]
 omega
theorem sb_car (l : List Int) (i : Nat) (udp src : Bool) (port o a : Int) (he : i % 2 = 0) (h : sumAt i udp + 2 ≤ l.length) (hl : ∀ x, x ∈ l → 0 ≤ x ∧ x ≤ 255) (hp : 0 ≤ port ∧ port ≤ 65535) (ho : 0 ≤ o ∧ o ≤ 4294967295) (ha : 0 ≤ a ∧ a ≤ 4294967295)
  (hz : ¬ (udp = true ∧ n2 l (sumAt i udp) = 0)) : ∃ q : Int, sb true (carW l i udp src port o a) = sb true l + (o / 65536 + o % 65536) - (a / 65536 + a % 65536) + 65535 * q := by
 have hpq : portAt i src + 2 ≤ sumAt i udp ∧ portAt i src % 2 = 0 ∧ sumAt i udp % 2 = 0 := by
  unfold portAt sumAt
  cases src <;> cases udp <;> simp <;> omega
 unfold carW
 generalize portAt i src = p at *
 generalize sumAt i udp = q at *
 have h0 : n2 (put2 l p port) q = n2 l q := n2_put2_ne (by omega) (by omega)
 rw [h0, if_neg (by intro e; rcases e with e | e; omega; exact hz e)]
 have b1 := n2_bd hl (i := p) (by omega)
 have b2 := n2_bd hl (i := q) (by omega)
 have w1 := fixW_bd b2 ho ha
 obtain ⟨k1, e1⟩ := fixW_mod b2 ho ha
 have h1 : n2 (put2 (put2 l p port) q (fixW (n2 l q) o a)) q = fixW (n2 l q) o a := n2_put2 (by rw [put2_len]; omega) w1
 have hS : ∃ k : Int, carS (put2 l p port) q udp (n2 l p) port o a = fixW (n2 l q) o a + n2 l p - port + 65535 * k := by
  unfold carS
  rw [h0, h1]
  obtain ⟨k2, e2⟩ := fix_mod w1 b1 hp
  split
  ·rename_i hc
   have := hc.2
   exact ⟨k2 + 1, by omega⟩
  ·exact ⟨k2, by omega⟩
 obtain ⟨k, hk⟩ := hS
 refine ⟨k1 + k, ?_⟩
 rw [sb_put2 _ _ _ (by omega) (by rw [put2_len, put2_len]; omega), h1, sb_put2 _ _ _ (by omega) (by rw [put2_len]; omega), h0, sb_put2 _ _ _ (by omega) (by omega), hk, e1]
 omega
theorem put2_far {l : List Int} {i j : Nat} {v : Int} (h1 : j ≠ i) (h2 : j ≠ i + 1) : (put2 l i v).getD j 0 = l.getD j 0 := by
 unfold put2; rw [getD_set_ne_ (by omega), getD_set_ne_ (by omega)]
theorem put4_far {l : List Int} {i j : Nat} {v : Int} (h : j < i ∨ i + 4 ≤ j) : (put4 l i v).getD j 0 = l.getD j 0 := by
 unfold put4; rw [put2_far (by omega) (by omega), put2_far (by omega) (by omega)]
theorem addrL_far {l : List Int} {i j : Nat} {src : Bool} {v : Int} (h1 : j < addrAt i src ∨ addrAt i src + 4 ≤ j) (h2 : j ≠ i + 10) (h3 : j ≠ i + 11) : (addrL l i src v).getD j 0 = l.getD j 0 := by
 unfold addrL; rw [put2_far (by omega) (by omega), put4_far h1]
theorem echoW_far {l : List Int} {i j : Nat} {v : Int} (h : j < i + 2 ∨ i + 6 ≤ j) : (echoW l i v).getD j 0 = l.getD j 0 := by
 unfold echoW; rw [put2_far (by omega) (by omega), put2_far (by omega) (by omega)]
theorem carW_far {l : List Int} {i j : Nat} {udp src : Bool} {port o a : Int} (h1 : j ≠ portAt i src) (h2 : j ≠ portAt i src + 1) (h3 : j ≠ sumAt i udp) (h4 : j ≠ sumAt i udp + 1) : (carW l i udp src port o a).getD j 0 = l.getD j 0 := by
 unfold carW
 split
 ·rw [put2_far h1 h2]
 ·rw [put2_far h3 h4, put2_far h3 h4, put2_far h1 h2]
theorem put4_n4 {l : List Int} {i : Nat} {v : Int} (h : i + 4 ≤ l.length) (hv : 0 ≤ v ∧ v ≤ 4294967295) : n4 (put4 l i v) i = v := by
 rw [← n4_of (by rw [put4_len]; omega)]
 unfold put4
 rw [n2_put2_ne (by omega) (by rw [put2_len]; omega), n2_put2 (by omega) (by omega), n2_put2 (by rw [put2_len]; omega) (by omega)]
 omega
theorem addrL_n4 {l : List Int} {i : Nat} {src : Bool} {v : Int} (h : i + 20 ≤ l.length) (hv : 0 ≤ v ∧ v ≤ 4294967295) : n4 (addrL l i src v) (addrAt i src) = v := by
 have hp : addrAt i src + 4 ≤ l.length ∧ i + 12 ≤ addrAt i src := by
  unfold addrAt
  cases src <;> simp <;> omega
 unfold addrL
 generalize addrAt i src = p at *
 rw [← n4_of (by rw [put2_len, put4_len]; omega), n2_put2_ne (by omega) (by rw [put4_len]; omega), n2_put2_ne (by omega) (by rw [put4_len]; omega), n4_of (by rw [put4_len]; omega), put4_n4 (by omega) hv]
theorem put2_left {A B : List Int} {i : Nat} {v : Int} (h : i + 2 ≤ A.length) : put2 (A ++ B) i v = put2 A i v ++ B := by
 unfold put2
 rw [List.set_append_left _ _ (by omega), List.set_append_left _ _ (by rw [List.length_set]; omega)]
theorem put2_right (A B : List Int) (j : Nat) (v : Int) : put2 (A ++ B) (A.length + j) v = A ++ put2 B j v := by
 unfold put2
 rw [List.set_append_right _ _ (by omega), List.set_append_right _ _ (by omega), show A.length + j - A.length = j by omega, show A.length + j + 1 - A.length = j + 1 by omega]
theorem getD_left {A B : List Int} {i : Nat} (h : i < A.length) : (A ++ B).getD i 0 = A.getD i 0 := by
 simp only [List.getD_eq_getElem?_getD, List.getElem?_append_left h]
theorem getD_right (A B : List Int) (j : Nat) : (A ++ B).getD (A.length + j) 0 = B.getD j 0 := by
 simp only [List.getD_eq_getElem?_getD, List.getElem?_append_right (show A.length ≤ A.length + j by omega), show A.length + j - A.length = j by omega]
theorem seg_right (A B : List Int) (j n : Nat) : seg (A ++ B) (A.length + j) n = seg B j n := by
 unfold seg
 rw [List.drop_append, List.drop_of_length_le (by omega), List.nil_append, show A.length + j - A.length = j by omega]
theorem n2_right (A B : List Int) (j : Nat) : n2 (A ++ B) (A.length + j) = n2 B j := by unfold n2; rw [seg_right]
theorem n4_right (A B : List Int) (j : Nat) : n4 (A ++ B) (A.length + j) = n4 B j := by unfold n4; rw [seg_right]
theorem n2_left {A B : List Int} {i : Nat} (h : i + 2 ≤ A.length) : n2 (A ++ B) i = n2 A i := by
 rw [n2_eq _ _ (by rw [List.length_append]; omega), n2_eq _ _ h, getD_left (by omega), getD_left (by omega)]
theorem n4_left {A B : List Int} {i : Nat} (h : i + 4 ≤ A.length) : n4 (A ++ B) i = n4 A i := by
 rw [n4_eq _ _ (by rw [List.length_append]; omega), n4_eq _ _ h, getD_left (by omega), getD_left (by omega), getD_left (by omega), getD_left (by omega)]
theorem put4_left {A B : List Int} {i : Nat} {v : Int} (h : i + 4 ≤ A.length) : put4 (A ++ B) i v = put4 A i v ++ B := by
 unfold put4
 rw [put2_left (by omega), put2_left (by rw [put2_len]; omega)]
theorem put4_right (A B : List Int) (j : Nat) (v : Int) : put4 (A ++ B) (A.length + j) v = A ++ put4 B j v := by
 unfold put4
 rw [put2_right, show A.length + j + 2 = A.length + (j + 2) by omega, put2_right]
theorem addrAt_bd (i : Nat) (src : Bool) : addrAt i src = i + 12 ∨ addrAt i src = i + 16 := by unfold addrAt; cases src <;> simp
theorem addrL_left {A B : List Int} {i : Nat} {src : Bool} {v : Int} (h : i + 20 ≤ A.length) : addrL (A ++ B) i src v = addrL A i src v ++ B := by
 have := addrAt_bd i src
 unfold addrL
 rw [put4_left (by omega), n2_left (by rw [put4_len]; omega), n4_left (by omega), put2_left (by rw [put4_len]; omega)]
theorem addrAt_add (a i : Nat) (src : Bool) : addrAt (a + i) src = a + addrAt i src := by unfold addrAt; cases src <;> simp <;> omega
theorem addrL_right (A B : List Int) (i : Nat) (src : Bool) (v : Int) : addrL (A ++ B) (A.length + i) src v = A ++ addrL B i src v := by
 unfold addrL
 rw [addrAt_add, put4_right, n4_right, show A.length + i + 10 = A.length + (i + 10) by omega, n2_right, put2_right]
theorem echoW_right (A B : List Int) (i : Nat) (v : Int) : echoW (A ++ B) (A.length + i) v = A ++ echoW B i v := by
 unfold echoW echoS
 rw [show A.length + i + 4 = A.length + (i + 4) by omega, show A.length + i + 2 = A.length + (i + 2) by omega, put2_right, n2_right, n2_right, put2_right]
theorem portAt_add (a i : Nat) (src : Bool) : portAt (a + i) src = a + portAt i src := by unfold portAt; cases src <;> simp <;> omega
theorem sumAt_add (a i : Nat) (udp : Bool) : sumAt (a + i) udp = a + sumAt i udp := by unfold sumAt; cases udp <;> simp <;> omega
theorem carW_right (A B : List Int) (i : Nat) (udp src : Bool) (port o a : Int) : carW (A ++ B) (A.length + i) udp src port o a = A ++ carW B i udp src port o a := by
 have hc : ((A ++ B).length < A.length + sumAt i udp + 2) = (B.length < sumAt i udp + 2) := by rw [List.length_append]; apply propext; omega
 unfold carW carS
 simp only [portAt_add, sumAt_add, put2_right, n2_right, hc]
 split <;> rfl
def carChg (B : List Int) (proto : Int) (src : Bool) (port old addr : Int) : List Int := if proto = 1 then echoW B 0 port else carW B 0 (proto == 17) src port old addr
theorem carChg_len (B : List Int) (proto : Int) (src : Bool) (port old addr : Int) : (carChg B proto src port old addr).length = B.length := by
 unfold carChg
 split
 ·unfold echoW; rw [put2_len, put2_len]
 ·rw [carW_len]
def errMid (E I J : List Int) (proto : Int) (src : Bool) (port addr : Int) : List Int := E ++ (addrL I 0 src addr ++ carChg J proto src port (n4 I (addrAt 0 src)) addr)
def errChg (E I J : List Int) (proto : Int) (src : Bool) (port addr : Int) : List Int :=
 put2 (put2 (errMid E I J proto src port addr) 2 0) 2 (sumOf (put2 (errMid E I J proto src port addr) 2 0))
theorem errMid_len (E I J : List Int) (proto : Int) (src : Bool) (port addr : Int) : (errMid E I J proto src port addr).length = E.length + I.length + J.length := by
 unfold errMid
 rw [List.length_append, List.length_append, addrL_len, carChg_len]; omega
theorem errChg_len (E I J : List Int) (proto : Int) (src : Bool) (port addr : Int) : (errChg E I J proto src port addr).length = E.length + I.length + J.length := by
 unfold errChg
 rw [put2_len, put2_len, errMid_len]
/-! ### as the walk tells it -/
def innerW (l : List Int) (at_ isz : Nat) (iproto : Int) (size : Nat) (src : Bool) (addr port : Int) : List Int :=
 let l1 := addrL l at_ src addr
 let l2 := if iproto = 1 then echoW l1 (at_ + isz) port else carW l1 (at_ + isz) (iproto == 17) src port (n4 l (addrAt at_ src)) addr
 put2 (put2 l2 (size + 2) 0) (size + 2) (sumOf ((put2 l2 (size + 2) 0).drop size))
def chgW (l : List Int) (h : Hd) (p : Pt) (out : Bool) (addr port : Int) : List Int :=
 let l1 := addrL l 0 out addr
 if p.err = true then innerW l1 p.pat.toNat p.inner.size.toNat p.inner.proto h.size.toNat (!out) addr port else
 if p.proto = 1 then echoW l1 h.size.toNat port else carW l1 h.size.toNat (p.proto == 17) out port (n4 l (addrAt 0 out)) addr
theorem chgW_plain {A B : List Int} {h : Hd} {p : Pt} {out : Bool} {addr port : Int} (he : p.err = false) (hA : 20 ≤ A.length) (hs : h.size.toNat = A.length) :
  chgW (A ++ B) h p out addr port = addrL A 0 out addr ++ carChg B p.proto out port (n4 A (addrAt 0 out)) addr := by
 have hb := addrAt_bd 0 out
 have e : A.length = (addrL A 0 out addr).length + 0 := by rw [addrL_len]; rfl
 unfold chgW carChg
 simp only [he, Bool.false_eq_true, if_false]
 rw [addrL_left (by omega), hs, n4_left (by omega), e, echoW_right, carW_right]
 split <;> rfl
theorem chgW_err {A E I J : List Int} {h : Hd} {p : Pt} {out : Bool} {addr port : Int} (he : p.err = true) (hA : 20 ≤ A.length) (hE : E.length = 8) (hI : 20 ≤ I.length) (hs : h.size.toNat = A.length) (hp : p.pat.toNat = A.length + 8) (hz : p.inner.size.toNat = I.length) :
  chgW (A ++ (E ++ (I ++ J))) h p out addr port = addrL A 0 out addr ++ errChg E I J p.inner.proto (!out) port addr := by
 have hb := addrAt_bd 0 (!out)
 have eA : (addrL A 0 out addr).length = A.length := addrL_len _ _ _ _
 unfold chgW innerW
 simp only [he, if_true]
 rw [addrL_left (by omega), hs, hp, hz]
 have e1 : A.length + 8 = (addrL A 0 out addr ++ E).length + 0 := by simp only [List.length_append, addrL_len, hE] <;> omega
 have e2 : A.length + 8 + I.length = (addrL A 0 out addr ++ E ++ addrL I 0 (!out) addr).length + 0 := by simp only [List.length_append, addrL_len, hE] <;> omega
 have h1 : addrL (addrL A 0 out addr ++ (E ++ (I ++ J))) (A.length + 8) (!out) addr = addrL A 0 out addr ++ E ++ addrL I 0 (!out) addr ++ J := by
  rw [e1, ← List.append_assoc, addrL_right, addrL_left (by omega), ← List.append_assoc]
 have h2 : n4 (addrL A 0 out addr ++ (E ++ (I ++ J))) (addrAt (A.length + 8) (!out)) = n4 I (addrAt 0 (!out)) := by
  rw [e1, addrAt_add, ← List.append_assoc, n4_right, n4_left (by omega)]
 rw [h1, h2, e2, echoW_right, carW_right]
 have h3 : (if p.inner.proto = 1 then addrL A 0 out addr ++ E ++ addrL I 0 (!out) addr ++ echoW J 0 port else addrL A 0 out addr ++ E ++ addrL I 0 (!out) addr ++ carW J 0 (p.inner.proto == 17) (!out) port (n4 I (addrAt 0 (!out))) addr) =
   addrL A 0 out addr ++ errMid E I J p.inner.proto (!out) port addr := by
  unfold errMid carChg
  split <;> simp only [List.append_assoc]
 rw [h3, ← eA, put2_right, List.drop_left, put2_right]
 rfl
section
variable {P : Program} {ops : Array Oper} {Q : Exit → Act → World → Prop}
end
def Up (w w' : World) : Prop := Below w.heap.size w w'
theorem Up.rfl_ (w : World) : Up w w := Below.refl _ _
theorem Up.one (w : World) : Nonempty (Tw (Up w)) := ⟨⟨w, Up.rfl_ w⟩⟩
theorem Clone_any (l : List Int) (b o len c B : Nat) (w : World) (hr : Rd .u8 w B (some ⟨b, o, none⟩) len l) (hB : B ≤ w.heap.size) (hl : len ≤ 60000) :
  Calls Tryz.prog 78 #[.slice (some ⟨b, o, none⟩) len c] w fun e w' => ∃ v', e = .returned v' ∧ Own .u8 5 w' w.heap.size v' l ∧ Below w.heap.size w w' := by
 obtain ⟨i0, hi, hz0, hz1, hz2⟩ := info_parts info_u8_
 have own0 := Own.new .u8 w 5 w.heap.size (Nat.le_refl _) [] (by simp) #[] rfl 0 rfl (by simp)
 have hr2 := (hr.alloc hB (.cells #[] 5))
 have bel0 := bel_alloc w (.cells #[] 5)
 have hnil := run_eql_slice_nil (P := Tryz.prog) w 36 5 (some ⟨b, o, none⟩) len c Tryz.underlying36
 go_enter Tryz.func78, Tryz.ntmps78
 go_wp2_with (at_builtin; refine wpList_app _ rfl (.tmp 5) (.tmp 6) 36 rfl .u8 w.heap.size 5 i0 (.int .u8 0) 1 Tryz.underlying36 hi hz0 hz1 hz2 rfl (.slice (some ⟨w.heap.size, 0, none⟩) 0 0) rfl [] own0 B _ _ _ rfl l hr2 (by simp; omega) (by decide) (by simp) ?_; intro v1 w1 own1 hg1 hv1; rw [List.nil_append] at own1; have bel1 : Below w.heap.size w w1 := bel0.grown hg1 (by simp) (fun k h => by simp [Value.ownBlock] at h; omega))
 go_ret
 exact ⟨_, rfl, own1, bel1⟩
structure WBx (W0 W : World) (base gw g n c : Nat) (out : Bool) (X : List Int) (pv : Array Value) : Prop where
 wr : Wr W base gw g n c out X
 bx : Blk W W0.heap.size 76 pv
 up : Upd (fun k => k = g) W0 W
 lt : g < W0.heap.size ∧ gw < W0.heap.size
theorem WBx.step {W0 W w' : World} {base gw g n c : Nat} {out : Bool} {X Y : List Int} {pv : Array Value} (h : WBx W0 W base gw g n c out X pv) (h1 : Wr w' base gw g n c out Y) (h2 : Upd (fun k => k = g) W w') : WBx W0 w' base gw g n c out Y pv :=
 ⟨h1, h.bx.upd h2 (by have := h.lt; omega), h.up.trans (h2.mono (fun _ _ h => h)), h.lt⟩
theorem WBx.drew {W0 W : World} {base gw g n c : Nat} {out : Bool} {X : List Int} {pv : Array Value} (h : WBx W0 W base gw g n c out X pv) : WBx W0 W.drew base gw g n c out X pv :=
 ⟨⟨h.wr.1.drew, h.wr.2.1.drew, h.wr.2.2⟩, h.bx.drew, h.up.drew, h.lt⟩
theorem winner_any (base gw g n c : Nat) (out : Bool) (X : List Int) (pa isz size : Nat) (pr sr ds fl ki co i1 i2 ip i4 i5 : Int) (er ba : Bool) (addr port : Int) (W0 : World) (h : Wr W0 base gw g n c out X) (hp : pa + isz + 8 ≤ n) (h20 : 20 ≤ isz) (hs0 : 20 ≤ size) (hs : size + 8 ≤ pa + isz) (hn : n ≤ 10000) (hnc : n ≤ c) (hcm : c ≤ 9223372036854775807) (ha : 0 ≤ addr ∧ addr ≤ 4294967295) (hport : 0 ≤ port ∧ port ≤ 65535) :
  Calls Tryz.prog 80 #[.pointer (some ⟨gw, 0, none⟩), .agg (A0 pr sr ds fl ki co er isz i1 i2 ip i4 i5 pa ba), .int .i64 size, .int .u32 addr, .int .u16 port] W0 (WStep W0 base gw g n c out (innerW X pa isz ip size (!out) addr port) (.tuple #[])) := by
 have hl := h.len
 have hb := addrAt_bd pa (!out)
 have ho := n4_bd h.bd (i := addrAt pa (!out)) (by omega)
 have g1 := fun W' (h' : Wr W' base gw g n c out X) => waddr_any base gw g n c out X pa (!out) addr W' h' (by omega) ha
 unfold innerW
 simp only []
 have hlt : g < W0.heap.size ∧ gw < W0.heap.size := ⟨(h.2.1.lt g rfl).2, h.1.lt⟩
 obtain ⟨q, hq⟩ : ∃ q, pa + isz = q := ⟨_, rfl⟩
 have hqI : (pa : Int) + (isz : Int) = (q : Int) := by omega
 obtain ⟨s2, hs2⟩ : ∃ s, size + 2 = s := ⟨_, rfl⟩
 have hs2I : (size : Int) + 2 = (s2 : Int) := by omega
 rw [hq, hs2]
 have g5 := fun Y W' (h' : Wr W' base gw g n c out Y) => wset_any base gw g n c out Y s2 0 W' h' (by omega) (by omega)
 have g6 := fun Y W' (h' : Wr W' base gw g n c out Y) (v : Int) (hv : 0 ≤ v ∧ v ≤ 65535) => wset_any base gw g n c out Y s2 v W' h' (by omega) hv
 have g7 := fun (Y : List Int) W' (h' : Wr W' base gw g n c out Y) => Of_any (Y.drop size) (some ⟨g, size, none⟩) (n - size) (c - size) _ W' (by omega) (by
  have := (h'.2.1.rd h'.2.2.1).drop (m := size) (cap := c) (by omega) (by omega)
  rw [if_neg (by omega)] at this
  simpa [Addr.add, show size ≠ 0 by omega] using this)
 have hcs : ((c : Int) = (size : Int)) = False := eq_false (by omega)
 have hcs2 : (c = size) = False := eq_false (by omega)
 have hc0 : (0 : Int) ≤ (size : Int) := by omega
 have hc1 : (size : Int) ≤ (n : Int) := by omega
 have hc2 : (n : Int) - (size : Int) = ((n - size : Nat) : Int) := by omega
 have hbd : ∀ Y : List Int, (∀ x, x ∈ Y → 0 ≤ x ∧ x ≤ 255) → 0 ≤ sumOf (Y.drop size) ∧ sumOf (Y.drop size) ≤ 65535 := fun Y hY => sumOf_bd (fun x hx => hY x (List.mem_of_mem_drop hx))
 generalize addrL X pa (!out) addr = X1 at *
 generalize n4 X (addrAt pa (!out)) = old at *
 replace g1 := Lib.hid g1
 replace g5 := Lib.hid g5
 replace g6 := Lib.hid g6
 replace g7 := Lib.hid g7
 replace hq := Lib.hid hq
 replace hs2 := Lib.hid hs2
 by_cases hip : ip = 1
 ·subst hip
  simp only [if_true]
  have g2 := fun W' (h' : Wr W' base gw g n c out X1) => wecho_any base gw g n c out X1 q port W' h' (by omega) hport
  replace g2 := Lib.hid g2
  go_enter Tryz.func80, Tryz.ntmps80
  go_upto_region 1 with fail
  have hx : WBx W0 (W0.alloc (.cells (A0 pr sr ds fl ki co er isz i1 i2 1 i4 i5 pa ba) 76)) base gw g n c out X (A0 pr sr ds fl ki co er isz i1 i2 1 i4 i5 pa ba) := ⟨h.bel (bel_alloc _ _), Blk.new _ _ _, (Upd.refl _ _).alloc _, hlt⟩
  replace hx := hx.drew
  have z1 : ∀ t : Tw (fun w' => w'.cell? ⟨W0.heap.size, 13, none⟩ = some (.int .i64 pa) ∧ w'.cell? ⟨gw, 1, none⟩ = some (.bool out) ∧ w'.cell? ⟨W0.heap.size, 10, none⟩ = some (.int .i64 1)), t.w.cell? ⟨W0.heap.size, 13, none⟩ = some (.int .i64 pa) := fun t => t.h.1
  have z2 : ∀ t : Tw (fun w' => w'.cell? ⟨W0.heap.size, 13, none⟩ = some (.int .i64 pa) ∧ w'.cell? ⟨gw, 1, none⟩ = some (.bool out) ∧ w'.cell? ⟨W0.heap.size, 10, none⟩ = some (.int .i64 1)), t.w.cell? ⟨gw, 1, none⟩ = some (.bool out) := fun t => t.h.2.1
  have ne : Nonempty (Tw (fun w' => w'.cell? ⟨W0.heap.size, 13, none⟩ = some (.int .i64 pa) ∧ w'.cell? ⟨gw, 1, none⟩ = some (.bool out) ∧ w'.cell? ⟨W0.heap.size, 10, none⟩ = some (.int .i64 1))) := ⟨⟨_, hx.bx.cell 13, hx.wr.1.cell 1, hx.bx.cell 10⟩⟩
  refine wp_region_plan (fun w' => w'.cell? ⟨W0.heap.size, 13, none⟩ = some (.int .i64 pa) ∧ w'.cell? ⟨gw, 1, none⟩ = some (.bool out) ∧ w'.cell? ⟨W0.heap.size, 10, none⟩ = some (.int .i64 1)) [(0, true), (1, true), (2, true), (3, true), (4, true), (5, true), (6, true), (7, true), (8, true), (9, false), (10, true)] (by kernel_rfl) (by kernel_rfl) (by kernel_rfl) (by kernel_rfl) ⟨hx.bx.cell 13, hx.wr.1.cell 1, hx.bx.cell 10⟩ ?_
  generalize (W0.alloc (.cells (A0 pr sr ds fl ki co er isz i1 i2 1 i4 i5 pa ba) 76)).drew = W1 at *
  refine wpPl_qs 9 _ _ _ (by kernel_rfl) (by kernel_rfl) (by simp) ?_
  unfold clsS
  simp only [qq1, qq2, qq3, qq4, List.filterMap_cons, qq6, qq7, qq8, qq9]
  repeat (first | go_big_quiet_skip | (go_big_quiet_want; go_big_quiet_op; go_big_quiet_on) | refine id (?_ : wpQuiet _ _ _ _ (_ :: _) _))
  refine wpQuiet_nil ?_
  refine wpPl_e _ (by rfl) (by kernel_rfl) (fun K hK => ?_)
  go_simp
  refine (g1.out _ hx.wr).mono ?_
  rintro e w1 ⟨rfl, h1, u1⟩
  replace hx := hx.step h1 u1
  clear h1 u1
  refine hK _ _ ⟨hx.bx.cell 13, hx.wr.1.cell 1, hx.bx.cell 10⟩ ?_
  clear hK K
  refine wpPl_qs 1 _ _ _ (by kernel_rfl) (by kernel_rfl) (by simp) ?_
  unfold clsS
  simp only [qq1, qq2, qq3, qq4, List.filterMap_cons, qq6, qq7, qq8, qq9]
  repeat (first | go_big_quiet_skip | (go_big_quiet_want; go_big_quiet_op; go_big_quiet_on) | refine id (?_ : wpQuiet _ _ _ _ (_ :: _) _))
  refine wpQuiet_nil ?_
  unfold wpPl
  refine NoPanic.normal ?_
  have q13 := hx.bx.cell 13
  have q7 := hx.bx.cell 7
  have q10 := hx.bx.cell 10
  go_wp2_with fail
  refine (g2.out _ hx.wr).mono ?_
  rintro e w2 ⟨rfl, h2, u2⟩
  replace hx := hx.step h2 u2
  clear h2 u2 q13 q7 q10
  go_wp2_with fail
  refine (g5.out _ _ hx.wr).mono ?_
  rintro e w3 ⟨rfl, h3, u3⟩
  replace hx := hx.step h3 u3
  clear h3 u3
  have r0 := hx.wr.1.cell 0
  go_wp2_with fail
  refine (g7.out _ _ hx.wr).mono ?_
  rintro e w4 ⟨rfl, rfl⟩
  go_wp2_with fail
  refine (g6.out _ _ hx.wr _ (hbd _ hx.wr.bd)).mono ?_
  rintro e w5 ⟨rfl, h5, u5⟩
  replace hx := hx.step h5 u5
  clear h5 u5 r0
  go_wp2
  go_end0
  exact ⟨rfl, hx.wr, hx.up⟩
 ·rw [if_neg hip]
  have d1 : (ip == 1) = false := by simpa using hip
  have g2 := fun W' (h' : Wr W' base gw g n c out X1) => wcar_any base gw g n c out X1 q ip (!out) port old addr W' h' (by omega) hport ho ha (by omega)
  replace g2 := Lib.hid g2
  replace hip := Lib.hid hip
  go_enter Tryz.func80, Tryz.ntmps80
  go_upto_region 1 with fail
  have hx : WBx W0 (W0.alloc (.cells (A0 pr sr ds fl ki co er isz i1 i2 ip i4 i5 pa ba) 76)) base gw g n c out X (A0 pr sr ds fl ki co er isz i1 i2 ip i4 i5 pa ba) := ⟨h.bel (bel_alloc _ _), Blk.new _ _ _, (Upd.refl _ _).alloc _, hlt⟩
  replace hx := hx.drew
  have z1 : ∀ t : Tw (fun w' => w'.cell? ⟨W0.heap.size, 13, none⟩ = some (.int .i64 pa) ∧ w'.cell? ⟨gw, 1, none⟩ = some (.bool out) ∧ w'.cell? ⟨W0.heap.size, 10, none⟩ = some (.int .i64 ip)), t.w.cell? ⟨W0.heap.size, 13, none⟩ = some (.int .i64 pa) := fun t => t.h.1
  have z2 : ∀ t : Tw (fun w' => w'.cell? ⟨W0.heap.size, 13, none⟩ = some (.int .i64 pa) ∧ w'.cell? ⟨gw, 1, none⟩ = some (.bool out) ∧ w'.cell? ⟨W0.heap.size, 10, none⟩ = some (.int .i64 ip)), t.w.cell? ⟨gw, 1, none⟩ = some (.bool out) := fun t => t.h.2.1
  have ne : Nonempty (Tw (fun w' => w'.cell? ⟨W0.heap.size, 13, none⟩ = some (.int .i64 pa) ∧ w'.cell? ⟨gw, 1, none⟩ = some (.bool out) ∧ w'.cell? ⟨W0.heap.size, 10, none⟩ = some (.int .i64 ip))) := ⟨⟨_, hx.bx.cell 13, hx.wr.1.cell 1, hx.bx.cell 10⟩⟩
  refine wp_region_plan (fun w' => w'.cell? ⟨W0.heap.size, 13, none⟩ = some (.int .i64 pa) ∧ w'.cell? ⟨gw, 1, none⟩ = some (.bool out) ∧ w'.cell? ⟨W0.heap.size, 10, none⟩ = some (.int .i64 ip)) [(0, true), (1, true), (2, true), (3, true), (4, true), (5, true), (6, true), (7, true), (8, true), (9, false), (10, true)] (by kernel_rfl) (by kernel_rfl) (by kernel_rfl) (by kernel_rfl) ⟨hx.bx.cell 13, hx.wr.1.cell 1, hx.bx.cell 10⟩ ?_
  generalize (W0.alloc (.cells (A0 pr sr ds fl ki co er isz i1 i2 ip i4 i5 pa ba) 76)).drew = W1 at *
  refine wpPl_qs 9 _ _ _ (by kernel_rfl) (by kernel_rfl) (by simp) ?_
  unfold clsS
  simp only [qq1, qq2, qq3, qq4, List.filterMap_cons, qq6, qq7, qq8, qq9]
  repeat (first | go_big_quiet_skip | (go_big_quiet_want; go_big_quiet_op; go_big_quiet_on) | refine id (?_ : wpQuiet _ _ _ _ (_ :: _) _))
  refine wpQuiet_nil ?_
  refine wpPl_e _ (by rfl) (by kernel_rfl) (fun K hK => ?_)
  go_simp
  refine (g1.out _ hx.wr).mono ?_
  rintro e w1 ⟨rfl, h1, u1⟩
  replace hx := hx.step h1 u1
  clear h1 u1
  refine hK _ _ ⟨hx.bx.cell 13, hx.wr.1.cell 1, hx.bx.cell 10⟩ ?_
  clear hK K
  refine wpPl_qs 1 _ _ _ (by kernel_rfl) (by kernel_rfl) (by simp) ?_
  unfold clsS
  simp only [qq1, qq2, qq3, qq4, List.filterMap_cons, qq6, qq7, qq8, qq9]
  repeat (first | go_big_quiet_skip | (go_big_quiet_want; go_big_quiet_op; go_big_quiet_on) | refine id (?_ : wpQuiet _ _ _ _ (_ :: _) _))
  refine wpQuiet_nil ?_
  unfold wpPl
  refine NoPanic.normal ?_
  have q13 := hx.bx.cell 13
  have q7 := hx.bx.cell 7
  have q10 := hx.bx.cell 10
  go_upto_region 5 with fail
  have z1 : ∀ t : Tw (fun w' => w'.cell? ⟨W0.heap.size, 13, none⟩ = some (.int .i64 pa) ∧ w'.cell? ⟨gw, 1, none⟩ = some (.bool out) ∧ w'.cell? ⟨W0.heap.size, 10, none⟩ = some (.int .i64 ip)), t.w.cell? ⟨W0.heap.size, 10, none⟩ = some (.int .i64 ip) := fun t => t.h.2.2
  have z2 : ∀ t : Tw (fun w' => w'.cell? ⟨W0.heap.size, 13, none⟩ = some (.int .i64 pa) ∧ w'.cell? ⟨gw, 1, none⟩ = some (.bool out) ∧ w'.cell? ⟨W0.heap.size, 10, none⟩ = some (.int .i64 ip)), t.w.cell? ⟨gw, 1, none⟩ = some (.bool out) := fun t => t.h.2.1
  have ne : Nonempty (Tw (fun w' => w'.cell? ⟨W0.heap.size, 13, none⟩ = some (.int .i64 pa) ∧ w'.cell? ⟨gw, 1, none⟩ = some (.bool out) ∧ w'.cell? ⟨W0.heap.size, 10, none⟩ = some (.int .i64 ip))) := ⟨⟨_, q13, hx.wr.1.cell 1, q10⟩⟩
  replace hx := hx.drew
  refine wp_region_plan (fun w' => w'.cell? ⟨W0.heap.size, 13, none⟩ = some (.int .i64 pa) ∧ w'.cell? ⟨gw, 1, none⟩ = some (.bool out) ∧ w'.cell? ⟨W0.heap.size, 10, none⟩ = some (.int .i64 ip)) [(0, true), (1, true), (2, true), (3, true), (4, true), (5, true), (6, true), (7, true), (8, true), (9, true), (10, true), (11, true), (12, true), (13, false)] (by kernel_rfl) (by kernel_rfl) (by kernel_rfl) (by kernel_rfl) ⟨hx.bx.cell 13, hx.wr.1.cell 1, hx.bx.cell 10⟩ ?_
  refine wpPl_qs 13 _ _ _ (by kernel_rfl) (by kernel_rfl) (by simp) ?_
  unfold clsS
  simp only [qq1, qq2, qq3, qq4, List.filterMap_cons, qq6, qq7, qq8, qq9]
  repeat (first | go_big_quiet_skip | (go_big_quiet_want; go_big_quiet_op; go_big_quiet_on) | refine id (?_ : wpQuiet _ _ _ _ (_ :: _) _))
  refine wpQuiet_nil ?_
  refine wpPl_e _ (by rfl) (by kernel_rfl) (fun K hK => ?_)
  go_simp
  refine (g2.out _ hx.wr).mono ?_
  rintro e w2 ⟨rfl, h2, u2⟩
  have hy := hx.step h2 u2
  refine hK _ _ ⟨hy.bx.cell 13, hy.wr.1.cell 1, hy.bx.cell 10⟩ ?_
  clear hK K hy z1 z2 ne
  unfold wpPl
  refine NoPanic.normal ?_
  replace hx := hx.step h2 u2
  clear h2 u2 q13 q7 q10
  go_wp2_with fail
  refine (g5.out _ _ hx.wr).mono ?_
  rintro e w3 ⟨rfl, h3, u3⟩
  replace hx := hx.step h3 u3
  clear h3 u3
  have r0 := hx.wr.1.cell 0
  go_wp2_with fail
  refine (g7.out _ _ hx.wr).mono ?_
  rintro e w4 ⟨rfl, rfl⟩
  go_wp2_with fail
  refine (g6.out _ _ hx.wr _ (hbd _ hx.wr.bd)).mono ?_
  rintro e w5 ⟨rfl, h5, u5⟩
  replace hx := hx.step h5 u5
  clear h5 u5 r0
  go_wp2
  go_end0
  exact ⟨rfl, hx.wr, hx.up⟩
variable {α : Type}
theorem flat_at {cs : α → List Value} {sz : Nat} (hs : ∀ x, (cs x).length = sz) : ∀ (l : List α) (j f : Nat) (x : α), l[j]? = some x → f < sz → (l.flatMap cs)[j * sz + f]? = (cs x)[f]?
 | [], j, f, x, h, _ => by simp at h
 | y :: l, 0, f, x, h, hf => by
   simp only [List.getElem?_cons_zero, Option.some.injEq] at h
   subst h
   rw [List.flatMap_cons, Nat.zero_mul, Nat.zero_add, List.getElem?_append_left (by rw [hs]; omega)]
 | y :: l, j + 1, f, x, h, hf => by
   simp only [List.getElem?_cons_succ] at h
   rw [List.flatMap_cons, List.getElem?_append_right (by rw [hs, Nat.add_mul]; omega)]
   have := flat_at hs l j f x h hf
   rw [hs]
   rw [show (j + 1) * sz + f - sz = j * sz + f by rw [Nat.add_mul]; omega]
   exact this
theorem flat_len {cs : α → List Value} {sz : Nat} (hs : ∀ x, (cs x).length = sz) : ∀ (l : List α), (l.flatMap cs).length = l.length * sz
 | [] => by simp
 | y :: l => by rw [List.flatMap_cons, List.length_append, hs, flat_len hs l, List.length_cons, Nat.add_mul]; omega
theorem flat_split {cs : α → List Value} {sz : Nat} (hs : ∀ x, (cs x).length = sz) (h0 : 0 < sz) (l : List α) (j : Nat) (u : Value) (h : (l.flatMap cs)[j]? = some u) : ∃ x, l[j / sz]? = some x ∧ (cs x)[j % sz]? = some u := by
 have hj : j < l.length * sz := by
  obtain ⟨h1, _⟩ := List.getElem?_eq_some_iff.1 h
  rwa [flat_len hs] at h1
 have hd : j / sz < l.length := Nat.div_lt_of_lt_mul (by rw [Nat.mul_comm]; exact hj)
 refine ⟨l[j / sz], List.getElem?_eq_getElem hd, ?_⟩
 have := flat_at hs l (j / sz) (j % sz) _ (List.getElem?_eq_getElem hd) (Nat.mod_lt _ h0)
 rw [show j / sz * sz + j % sz = j by rw [Nat.mul_comm]; exact Nat.div_add_mod j sz] at this
 rw [← this, h]
structure RdT (cs : α → List Value) (sz : Nat) (w : World) (B : Nat) (A : Option Addr) (n : Nat) (l : List α) : Prop where
 len : l.length = n
 cel : 0 < n → ∃ b o, A = some ⟨b, o, none⟩ ∧ b < B ∧ ∀ j x, l[j]? = some x → ∀ f u, (cs x)[f]? = some u → w.cell? ⟨b, o + j * sz + f, none⟩ = some u
section
variable {cs : α → List Value} {sz : Nat} {w w' : World} {B B' n : Nat} {A : Option Addr} {l : List α}
theorem RdT.new (hs : ∀ x, (cs x).length = sz) (w : World) (t : TypeId) (l : List α) (a : Array Value) (ha : a = (l.flatMap cs).toArray) (n : Nat) (hn : l.length = n) :
  RdT cs sz (w.alloc (.cells a t)) (w.heap.size + 1) (some ⟨w.heap.size, 0, none⟩) n l := by
 subst ha
 refine ⟨hn, fun h0 => ⟨_, 0, rfl, by omega, fun j x hj f u hu => ?_⟩⟩
 rw [cell_of_row _ _ _ _ _ _ (heap_alloc_new w _)]
 have hf : f < sz := by rw [← hs x]; exact (List.getElem?_eq_some_iff.1 hu).1
 have := flat_at hs l j f x hj hf
 rw [Nat.zero_add]
 simp only [List.getElem?_toArray]
 rw [this, hu]
end
structure OwnT (cs : α → List Value) (sz : Nat) (e : TypeId) (w : World) (base : Nat) (v : Value) (l : List α) : Prop where
 row : w.ownsRow base e sz v l.length (l.flatMap cs)
section
variable {cs : α → List Value} {sz : Nat} {w w' : World} {e : TypeId} {base : Nat} {v : Value} {l : List α}
theorem OwnT.form (h : OwnT cs sz e w base v l) {n : Nat} (hn : l.length = n) : ∃ A c, v = .slice A n c ∧ n ≤ c ∧ c ≤ maxLen := by
 subst hn
 rcases h.row.2 with ⟨rfl, h0⟩ | ⟨g, cap, cur, rfl, hg, hh, hnc, hcm, hcs, hx⟩
 ·rw [h0]; exact ⟨none, 0, rfl, Nat.le_refl _, Nat.zero_le _⟩
 ·exact ⟨_, cap, rfl, hnc, hcm⟩
theorem OwnT.lt (h : OwnT cs sz e w base v l) : ∀ g, v.ownBlock = some g → base ≤ g ∧ g < w.heap.size := h.row.lt
theorem OwnT.keep (h : OwnT cs sz e w base v l) {row : Option Nat} (hg : w.grownBy w' row) (hne : v.ownBlock = none ∨ v.ownBlock ≠ row) : OwnT cs sz e w' base v l := ⟨h.row.kept hg hne⟩
theorem OwnT.below (h : OwnT cs sz e w base v l) (hb : Below w.heap.size w w') : OwnT cs sz e w' base v l := by
 refine h.keep (row := none) ⟨hb.os, hb.tape, hb.output, hb.size, fun k hk _ => hb.block k hk⟩ ?_
 cases hv : v.ownBlock
 ·exact .inl rfl
 ·exact .inr (by simp)
end
section
variable {P : Program} {cs : α → List Value} {sz : Nat}
theorem run_appT (hs : ∀ x, (cs x).length = sz) (h1c : ∀ x, ∀ u ∈ cs x, u.oneCell' = true) (hsz : 0 < sz) (w : World) (base : Nat) (t ty e : TypeId) (i : TypeInfo) (z : Value) (bytes : Nat) (ht : P.underlying t = some (.slice e)) (hi : P.info? e = some i) (hz : i.zero = some z)
  (hsize : i.size = sz) (hby : i.bytes = bytes) (hzs : z.cells.size = sz) (v : Value) (l : List α) (hown : OwnT cs sz e w base v l)
  (B : Nat) (A : Option Addr) (m c : Nat) (l2 : List α) (hr : RdT cs sz w B A m l2) (hlen : (l.length + m) * bytes ≤ 140737488355328) (hbp : 0 < bytes) (hbase : base ≤ w.heap.size) :
  ∃ v' w', (Builtin.append_ #[t, t] ty #[v, .slice A m c]).run P w = .ok v' w' ∧ OwnT cs sz e w' base v' (l ++ l2) ∧ w.grownBy w' v.ownBlock ∧ (v'.ownBlock = v.ownBlock ∨ v'.ownBlock = some w.heap.size) := by
 have hl := hr.len
 have h63 : l.length + m ≤ maxLen := by
  have := Nat.le_mul_of_pos_right (l.length + m) hbp
  unfold maxLen; omega
 have main : ∀ ad : Addr, (∀ j u, (l2.flatMap cs)[j]? = some u → w.cell? (ad.add j) = some u) → ∃ v' w', (Builtin.append_ #[t, t] ty #[v, .slice (some ad) m c]).run P w = .ok v' w' ∧ OwnT cs sz e w' base v' (l ++ l2) ∧ w.grownBy w' v.ownBlock ∧ (v'.ownBlock = v.ownBlock ∨ v'.ownBlock = some w.heap.size) := by
  intro ad hc
  obtain ⟨v', w', h1, h2, h3, _, h5⟩ := run_append_own_at (P := P) w base t ty e i z sz bytes ht hi hz hsize hby hzs hsz v l.length (l.flatMap cs) hown.row ad m c (l2.flatMap cs) (by rw [flat_len hs, hl]) hc
   (by intro u hu; obtain ⟨x, _, hx⟩ := List.mem_flatMap.1 hu; exact h1c x u hx) h63 hlen hbase
  exact ⟨v', w', h1, ⟨by rw [List.length_append, List.flatMap_append, hl]; exact h2⟩, h3, h5⟩
 rcases Nat.eq_zero_or_pos m with h0 | h0
 ·subst h0
  have e2 : l2 = [] := List.length_eq_zero_iff.mp hl
  subst e2
  cases A with
  | some ad => exact main ad (by simp)
  | none =>
   refine ⟨v, w, ?_, by simpa using hown, World.grownBy.refl w _, .inl rfl⟩
   rcases hown.row.2 with ⟨rfl, h⟩ | ⟨g, cap, cur, rfl, _, _, hnc, _⟩
   ·simp [Builtin.append_, run_underlying ht, sizeOf, typeInfo, hi, Builtin.lenOf, Builtin.firstCells]
   ·simp [Builtin.append_, run_underlying ht, sizeOf, typeInfo, hi, Builtin.lenOf, Builtin.firstCells, hnc, storeCells]
 ·obtain ⟨b, o, rfl, hb, hc⟩ := hr.cel h0
  refine main ⟨b, o, none⟩ fun j u hu => ?_
  obtain ⟨x, hx, hu2⟩ := flat_split hs hsz l2 j u hu
  have := hc _ x hx _ u hu2
  rw [← this]
  have e1 : o + j / sz * sz + j % sz = o + j := by
   have := Nat.div_add_mod j sz
   rw [Nat.mul_comm] at this; omega
  rw [e1]
  unfold Addr.add
  split
  ·rename_i h; subst h; simp
  ·rfl
theorem wpList_appT (hs : ∀ x, (cs x).length = sz) (h1c : ∀ x, ∀ u ∈ cs x, u.oneCell' = true) (hsz : 0 < sz) {ops : Array Oper} {rest : List Oper} {o : Oper} {a : Act} {Q : Exit → Act → World → Prop} (w : World) (hgd : o.guard = none) (s x : Operand) (t : TypeId)
  (ho : o.op = .call { callee := .builtin .append, args := #[s, x], argTypes := #[t, t] })
  (base : Nat) (e : TypeId) (i : TypeInfo) (z : Value) (bytes : Nat) (ht : P.underlying t = some (.slice e)) (hi : P.info? e = some i) (hz : i.zero = some z)
  (hsize : i.size = sz) (hby : i.bytes = bytes) (hzs : z.cells.size = sz) (v : Value) (hsv : a.eval s = v) (l : List α) (hown : OwnT cs sz e w base v l)
  (B : Nat) (A : Option Addr) (m c : Nat) (hx : a.eval x = .slice A m c) (l2 : List α) (hr : RdT cs sz w B A m l2) (hlen : (l.length + m) * bytes ≤ 140737488355328) (hbp : 0 < bytes) (hbase : base ≤ w.heap.size)
  (h : ∀ v' w', OwnT cs sz e w' base v' (l ++ l2) → w.grownBy w' v.ownBlock → (v'.ownBlock = v.ownBlock ∨ v'.ownBlock = some w.heap.size) → wpList P ops Q rest (a.put o.dst v') w') : wpList P ops Q (o :: rest) a w := by
 refine wpList_plain hgd fun K hK => ?_
 obtain ⟨v', w', hrun, h2, h3, h4⟩ := run_appT (P := P) hs h1c hsz w base t o.type e i z bytes ht hi hz hsize hby hzs v l hown B A m c l2 hr hlen hbp hbase
 unfold Oper.wp execOp
 simp only [ho, resolve, invoke, builtin, Sem.run_bind, Sem.run_pure, Result.andThen_ok, List.map_toArray, List.map_cons, List.map_nil, hsv, hx, hrun]
 exact hK _ _ (h v' w' h2 h3 h4)
end
variable {α : Type} {P : Program}
theorem run_load_at {w : World} {g o : Nat} {ty : TypeId} {cs : List Value} (h : ∀ j u, cs[j]? = some u → w.cell? ⟨g, o + j, none⟩ = some u) {fs : Array Field} (hu : P.underlying ty = some (.struct fs)) (hi : (P.info? ty).map (·.size) = some cs.length) :
  (loadVar ty ⟨g, o, none⟩).run P w = .ok (.agg cs.toArray) w := by
 have hl : (loadCells ⟨g, o, none⟩ cs.length).run P w = .ok cs.toArray w :=
  run_loadCells_list (P := P) w ⟨g, o, none⟩ cs (fun j v hv => by
   have hadd : (⟨g, o, none⟩ : Addr).add j = ⟨g, o + j, none⟩ := by unfold Addr.add; split <;> simp_all
   rw [hadd]; exact h j v hv)
 cases hq : P.info? ty with
 | none => simp [hq] at hi
 | some i =>
  have hs : i.size = cs.length := by simpa [hq] using hi
  have hagg : (isAgg ty).run P w = .ok true w := by
   unfold isAgg
   rw [Sem.run_bind, run_underlying hu w]
   simp
  simp [loadVar, Sem.run_bind, hagg, sizeOf, typeInfo, hq, hs, hl]
theorem wpList_ldAt {ops : Array Oper} {Q : Exit → Act → World → Prop} {a : Act} {w : World} {rest : List Oper} {o : Oper} (hg : o.guard = none) {t : TypeId} {p : Operand} (ho : o.op = .load t p) {g i : Nat} (hp : a.eval p = .pointer (some ⟨g, i, none⟩)) {cs : List Value}
  (hc : ∀ j u, cs[j]? = some u → w.cell? ⟨g, i + j, none⟩ = some u) {fs : Array Field} (hu : P.underlying t = some (.struct fs)) (hi : (P.info? t).map (·.size) = some cs.length) (h : wpList P ops Q rest (a.put o.dst (.agg cs.toArray)) w) : wpList P ops Q (o :: rest) a w := by
 refine wpList_plain hg fun K hK => ?_
 have hr : (execOp a.eval o).run P w = .ok (.value (.agg cs.toArray)) w := by
  have h2 := run_load_at (P := P) hc hu hi
  simp only [execOp, ho, hp, Instr.loadAt, Instr.sureAddr, Sem.run_bind, Sem.run_pure, Result.andThen, h2]
 unfold Oper.wp
 rw [hr, Oper.upon_value]
 exact hK _ _ h
theorem quiet_ldAt {o : Oper} {a : Act} {C : World → Prop} {K : Act → Prop} {t : TypeId} {p : Operand} (ho : o.op = .load t p) {g i : Nat} (hp : a.eval p = .pointer (some ⟨g, i, none⟩)) {cs : List Value} (h : ∀ w, C w → ∀ j u, cs[j]? = some u → w.cell? ⟨g, i + j, none⟩ = some u) {fs : Array Field} (hu : P.underlying t = some (.struct fs)) (hi : (P.info? t).map (·.size) = some cs.length)
  (hk : K (a.put o.dst (.agg cs.toArray))) : o.quiet P a C K :=
 quiet_run _ (fun w hw => by
  have h2 := run_load_at (P := P) (h w hw) hu hi
  simp only [execOp, ho, hp, Instr.loadAt, Instr.sureAddr, Sem.run_bind, Sem.run_pure, Result.andThen, h2]) hk
theorem ended_any (st : Int) (out : Bool) (w : World) :
  Calls Tryz.prog 77 #[.int .i64 st, .bool out] w fun e w' => e = .returned (.int .i64 (endd st out)) ∧ w = w' := by
 have hs : st = 0 ∨ st = 1 ∨ st = 2 ∨ st = 3 ∨ ((st == 0) = false ∧ (st == 1) = false ∧ (st == 2) = false ∧ (st == 3) = false) := by simp; omega
 cases out <;> rcases hs with rfl | rfl | rfl | rfl | ⟨h0, h1, h2, h3⟩
 all_goals
  go_enter Tryz.func77, Tryz.ntmps77
  go_wp2
  go_ret
  first
  | exact ⟨rfl, rfl⟩
  | exact ⟨ret_int (by unfold endd; simp at h0 h1 h2 h3; simp [h0, h1, h2, h3]), rfl⟩
theorem Next_in (st : Int) (out : Bool) (fl : Int) (w : World) (h0 : 0 ≤ st ∧ st ≤ 4) :
  Calls Tryz.prog 56 #[.int .i64 6, .int .i64 st, .bool out, .int .i64 fl] w fun e w' => e = .returned (.int .i64 (nxt 6 st out (fb fl 4) (fb fl 1) (fb fl 2) (fb fl 16))) ∧ w = w' := by
 have hf18 := flags18 fl
 have e4 : (bits .and .i64 fl 4 != 0) = fb fl 4 := rfl
 have e1 : (bits .and .i64 fl 1 != 0) = fb fl 1 := rfl
 have e16 : (bits .and .i64 fl 16 != 0) = fb fl 16 := rfl
 generalize fb fl 4 = r at *
 generalize fb fl 1 = f at *
 generalize fb fl 16 = k at *
 generalize fb fl 2 = s at *
 have hs : st = 0 ∨ st = 1 ∨ st = 2 ∨ st = 3 ∨ st = 4 := by omega
 cases r
 ·cases f
  ·rcases hs with rfl | rfl | rfl | rfl | rfl <;> cases out <;> cases s <;> cases k
   all_goals
    simp only [Bool.not_true, Bool.not_false, Bool.and_true, Bool.and_false] at hf18
    go_enter Tryz.func56, Tryz.ntmps56
    go_wp2
    go_ret
    exact ⟨rfl, rfl⟩
  ·go_enter Tryz.func56, Tryz.ntmps56
   go_wp2_with (go_at_call 77; refine (ended_any _ _ _).mono ?_; rintro e w' ⟨rfl, rfl⟩)
   go_ret
   exact ⟨ret_int (by unfold nxt clampS; simp; rw [if_neg (by omega)]), rfl⟩
 ·go_enter Tryz.func56, Tryz.ntmps56
  go_wp2
  go_ret
  exact ⟨rfl, rfl⟩
theorem nxt_clamp (st : Int) (out r f s k : Bool) : nxt 6 (clampS st) out r f s k = nxt 6 st out r f s k := by
 have h := clampS_bd st
 have e : clampS (clampS st) = clampS st := by show (if clampS st < 0 ∨ 4 < clampS st then 4 else clampS st) = _; rw [if_neg (by omega)]
 unfold nxt; rw [e]
theorem Next_out (st : Int) (out : Bool) (fl : Int) (w : World) (h0 : st < 0 ∨ 4 < st) :
  Calls Tryz.prog 56 #[.int .i64 6, .int .i64 st, .bool out, .int .i64 fl] w fun e w' => e = .returned (.int .i64 (nxt 6 st out (fb fl 4) (fb fl 1) (fb fl 2) (fb fl 16))) ∧ w = w' := by
 have hcl : clampS st = 4 := by unfold clampS; rw [if_pos h0]
 rw [← nxt_clamp, hcl]
 clear hcl
 have hf18 := flags18 fl
 have e4 : (bits .and .i64 fl 4 != 0) = fb fl 4 := rfl
 have e1 : (bits .and .i64 fl 1 != 0) = fb fl 1 := rfl
 have e16 : (bits .and .i64 fl 16 != 0) = fb fl 16 := rfl
 generalize fb fl 4 = r at *
 generalize fb fl 1 = f at *
 generalize fb fl 16 = k at *
 generalize fb fl 2 = s at *
 have hs : decide (st < 0) = true ∨ (decide (st < 0) = false ∧ decide (4 < st) = true) := by
  rcases Int.lt_or_le st 0 with h | h
  ·exact .inl (by simpa using h)
  ·exact .inr ⟨by simp; omega, by simp; omega⟩
 clear h0
 rcases hs with hd | ⟨hd, hd2⟩
 all_goals
  cases r
  ·cases f
   ·cases out <;> cases s <;> cases k
    all_goals
     simp only [Bool.not_true, Bool.not_false, Bool.and_true, Bool.and_false] at hf18
     go_enter Tryz.func56, Tryz.ntmps56
     go_wp2
     go_ret
     exact ⟨rfl, rfl⟩
   ·go_enter Tryz.func56, Tryz.ntmps56
    go_wp2_with (go_at_call 77; refine (ended_any _ _ _).mono ?_; rintro e w' ⟨rfl, rfl⟩)
    go_ret
    exact ⟨rfl, rfl⟩
  ·go_enter Tryz.func56, Tryz.ntmps56
   go_wp2
   go_ret
   exact ⟨rfl, rfl⟩
theorem Next_any (p st : Int) (out : Bool) (fl : Int) (w : World) :
  Calls Tryz.prog 56 #[.int .i64 p, .int .i64 st, .bool out, .int .i64 fl] w fun e w' => e = .returned (.int .i64 (nxt p st out (fb fl 4) (fb fl 1) (fb fl 2) (fb fl 16))) ∧ w = w' := by
 by_cases hp : p = 6
 ·subst hp
  by_cases h : 0 ≤ st ∧ st ≤ 4
  ·exact Next_in st out fl w h
  ·exact Next_out st out fl w (by omega)
 ·have hd : (p != 6) = true := by simpa using hp
  have hn : ∀ b1 b2 b3 b4, nxt p st out b1 b2 b3 b4 = 0 := fun _ _ _ _ => by unfold nxt; rw [if_pos hp]
  rw [hn]
  clear hn
  go_enter Tryz.func56, Tryz.ntmps56
  go_wp2
  go_ret
  exact ⟨rfl, rfl⟩
def renewsS (p : Int) (out : Bool) : Bool := if p = 6 then true else if p = 17 ∨ p = 1 then out else false
def beginsS (p kind fl : Int) : Bool := if p = 17 then true else if p = 6 then (fb fl 2 && !fb fl 1 && !fb fl 4 && !fb fl 16) else if p = 1 then kind == 8 else false
theorem protos (p : Int) : p = 17 ∨ p = 1 ∨ p = 6 ∨ ((p == 17) = false ∧ (p == 1) = false ∧ (p == 6) = false ∧ p ≠ 17 ∧ p ≠ 1 ∧ p ≠ 6) := by simp; omega
theorem renewsS_none {p : Int} {out : Bool} (h : p ≠ 17 ∧ p ≠ 1 ∧ p ≠ 6) : renewsS p out = false := by unfold renewsS; simp [h.1, h.2.1, h.2.2]
theorem beginsS_none {p k f : Int} (h : p ≠ 17 ∧ p ≠ 1 ∧ p ≠ 6) : beginsS p k f = false := by unfold beginsS; simp [h.1, h.2.1, h.2.2]
theorem Renews_any (p : Int) (out : Bool) (w : World) :
  Calls Tryz.prog 58 #[.int .i64 p, .bool out] w fun e w' => e = .returned (.bool (renewsS p out)) ∧ w = w' := by
 rcases protos p with rfl | rfl | rfl | ⟨h1, h2, h3, h⟩
 case inr.inr.inr => rw [renewsS_none h]; clear h; go_enter Tryz.func58, Tryz.ntmps58; go_wp2; go_ret; exact ⟨rfl, rfl⟩
 all_goals
  go_enter Tryz.func58, Tryz.ntmps58
  go_wp2
  go_ret
  exact ⟨rfl, rfl⟩
theorem Begins_any (p k fl : Int) (w : World) :
  Calls Tryz.prog 76 #[.int .i64 p, .int .i64 k, .int .i64 fl] w fun e w' => e = .returned (.bool (beginsS p k fl)) ∧ w = w' := by
 have h23 := flags23 fl
 rcases protos p with rfl | rfl | rfl | ⟨h1, h2, h3, h⟩
 case inr.inr.inr => rw [beginsS_none h]; clear h; go_enter Tryz.func76, Tryz.ntmps76; go_wp2; go_ret; exact ⟨rfl, rfl⟩
 case inr.inr.inl =>
  have e : beginsS 6 k fl = (fb fl 2 && !fb fl 1 && !fb fl 4 && !fb fl 16) := rfl
  rw [e, ← h23]
  clear e h23
  go_enter Tryz.func76, Tryz.ntmps76
  go_wp2
  go_ret
  exact ⟨rfl, rfl⟩
 all_goals
  go_enter Tryz.func76, Tryz.ntmps76
  go_wp2
  go_ret
  exact ⟨rfl, rfl⟩
end Go.Proofs.YtbichbdcibchlaaGreat
