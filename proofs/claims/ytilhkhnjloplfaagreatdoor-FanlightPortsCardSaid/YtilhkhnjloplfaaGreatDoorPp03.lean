/- What the laws' proofs lean on: plain facts and contracts of the program's functions, laid together (3). -/
import Derived.Test.YtilhkhnjloplfaaGreatDoorPp01
import Derived.Test.YtilhkhnjloplfaaGreatDoorRows
import Derived.ProofKit
import Derived.OpenShut
import Derived.ShutString
import Derived.ChangeOld
import Derived.Deep.Slices
import Derived.Laws.BitsAllLaws
import Derived.Test.YtilhkhnjloplfaaGreatDoorProg
import Derived.Lib.TrailingZeros
namespace Go.Proofs.YtilhkhnjloplfaaGreatDoor
set_option linter.unusedVariables false
set_option linter.unusedSimpArgs false
open Go.ChangeShapes Go.WideShapes Go.ChangeAt Go.RowKit Go.Deep

/-- these cells read as a value of type t in world w -/
def Rdg (P : Program) (w : World) : Nat → TypeId → List Value → Prop
  | 0, _, _ => False
  | fuel + 1, t, cs =>
    match P.underlying t with
    | some .bool => ∃ b, cs = [.bool b]
    | some (.int k) => ∃ n, cs = [.int k n] ∧ inr k n
    | some .string => ∃ s : ByteArray, cs = [.string s] ∧ s.size ≤ maxLen
    | some (.slice e) => ∃ A len cap, cs = [.slice A len cap] ∧ len ≤ cap ∧ cap ≤ maxLen ∧ (0 < len → ∃ a, A = some a ∧ ∀ i, i < len → ∃ ys, w.cells? 0 (a.add (i * P.cellsOf e)) (P.cellsOf e) = some ys ∧ Rdg P w fuel e ys)
    | some (.struct fs) => cs.length = P.cellsOf t ∧ ∀ (i : Nat) (f : Field), fs[i]? = some f → Rdg P w fuel f.type ((cs.drop f.offset).take (P.cellsOf f.type))
    | some (.array n e) => cs.length = P.cellsOf t ∧ ∀ i, i < n → Rdg P w fuel e ((cs.drop (i * P.cellsOf e)).take (P.cellsOf e))
    | _ => True

section
variable {H : Type} {enc : TypeId × Value → H} {P : Program} {w : World}
theorem rdg_of_trod : ∀ (fuel : Nat) (t : TypeId) (cs : List Value) (x : DataW H × List MemPlace), DataW.trod enc P w 0 (fun _ => true) true fuel t cs = some x → Rdg P w fuel t cs
  | 0, _, _, _, h => by simp [DataW.trod] at h
  | fuel + 1, t, cs, x, h => by
    unfold Rdg
    split
    · rename_i ht; obtain ⟨b, hb, _⟩ := DataW.trod_bool ht h; exact ⟨b, hb⟩
    · rename_i k ht; obtain ⟨n, hn, _, hw⟩ := DataW.trod_int ht h; exact ⟨n, hn, hw⟩
    · rename_i ht; obtain ⟨s, hs, _, hw⟩ := DataW.trod_string ht h; exact ⟨s, hs, hw⟩
    · rename_i e ht
      rcases DataW.trod_slice ht h with ⟨h0, _⟩ | ⟨a, len, cap, elems, rest, n, hf, hcs, _, hb, hl, hm, hlen, hel, _, _⟩
      · exact ⟨none, 0, 0, h0, Nat.le_refl _, Nat.zero_le _, fun h => absurd h (by omega)⟩
      · obtain rfl : fuel = n := by omega
        refine ⟨some a, len, cap, hcs, hl, hm, fun _ => ⟨a, rfl, fun i hi => ?_⟩⟩
        have h1 := hel i hi
        rw [List.getElem?_eq_getElem (show i < elems.length by omega)] at h1
        obtain ⟨ys, hy1, hy2⟩ := Option.bind_eq_some_iff.1 h1
        exact ⟨ys, hy1, rdg_of_trod fuel e ys _ hy2⟩
    · rename_i fs ht
      obtain ⟨xs, n, hf, _, hl, hxl, hx⟩ := DataW.trod_struct ht h
      obtain rfl : fuel = n := by omega
      refine ⟨hl, fun i f hi => ?_⟩
      have h1 := hx i f hi
      have hlt : i < fs.size := (Array.getElem?_eq_some_iff.1 hi).1
      rw [List.getElem?_eq_getElem (show i < xs.length by omega)] at h1
      exact rdg_of_trod fuel _ _ _ h1
    · rename_i n e ht
      obtain ⟨xs, m, hf, _, hl, hxl, hx⟩ := DataW.trod_array ht h
      obtain rfl : fuel = m := by omega
      refine ⟨hl, fun i hi => ?_⟩
      have h1 := hx i hi
      rw [List.getElem?_eq_getElem (show i < xs.length by omega)] at h1
      exact rdg_of_trod fuel _ _ _ h1
    · trivial

/-- all the arguments -/
def RdgAll (P : Program) (w : World) (ts : List TypeId) (vs : List Value) : Prop :=
  ts.length = vs.length ∧ ∀ (j : Nat) (t : TypeId) (v : Value), ts[j]? = some t → vs[j]? = some v → ∃ fuel, Rdg P w fuel t v.cells.toList

theorem rdgAll_of : ∀ {ts : List TypeId} {vs : List Value} {ds : List (DataW H)} {ps : List MemPlace}, DataW.TrodAll enc P w 0 (fun _ => true) true ts vs ds ps → RdgAll P w ts vs
  | [], [], [], _, _ => ⟨rfl, by simp⟩
  | t :: ts, v :: vs, d :: ds, ps, h => by
    obtain ⟨p, q, ⟨fuel, h1⟩, h2, _⟩ := h
    have ih := rdgAll_of h2
    refine ⟨by simp [ih.1], fun j t' v' ht hv => ?_⟩
    cases j with
    | zero => simp at ht hv; subst ht; subst hv; exact ⟨fuel, rdg_of_trod fuel _ _ _ h1⟩
    | succ j => exact ih.2 j t' v' (by simpa using ht) (by simpa using hv)
  | [], [], _ :: _, _, h => h.elim
  | [], _ :: _, _, _, h => h.elim
  | _ :: _, [], _, _, h => h.elim
  | _ :: _, _ :: _, [], _, h => h.elim

theorem trodAll_below (hl : laidOutB P = true) {W W' : World} (hb : Below W.heap.size W W') : ∀ {ts : List TypeId} {vs : List Value} {ds : List (DataW H)} {ps : List MemPlace},
    (ts.all fun t => P.readableRec t && decide (t < P.types.size)) = true →
    DataW.TrodAll enc P W 0 (fun _ => true) true ts vs ds ps → (∀ x ∈ ps, x.block < W.heap.size) → DataW.TrodAll enc P W' 0 (fun b => decide (b < W.heap.size)) true ts vs ds ps
  | [], [], [], _, _, h, _ => h
  | t :: ts, v :: vs, d :: ds, ps, ha, h, hp => by
    obtain ⟨p, q, h1, h2, rfl⟩ := h
    simp only [List.all_cons, Bool.and_eq_true, decide_eq_true_eq] at ha
    exact ⟨p, q, Below.trod hl ha.1.1 ha.1.2 h1 hb (fun x hx => hp x (List.mem_append_left _ hx)), trodAll_below hl hb ha.2 h2 (fun x hx => hp x (List.mem_append_right _ hx)), rfl⟩
  | [], [], _ :: _, _, _, h, _ => h.elim
  | [], _ :: _, _, _, _, h, _ => h.elim
  | _ :: _, [], _, _, _, h, _ => h.elim
  | _ :: _, _ :: _, [], _, _, h, _ => h.elim

theorem trodAll_lt {W : World} : ∀ {ts : List TypeId} {vs : List Value} {ds : List (DataW H)} {ps : List MemPlace},
    DataW.TrodAll enc P W 0 (fun _ => true) true ts vs ds ps → ∀ x ∈ ps, x.block < W.heap.size
  | [], [], [], ps, h, x, hx => by rw [show ps = [] from h] at hx; cases hx
  | t :: ts, v :: vs, d :: ds, ps, h, x, hx => by
    obtain ⟨p, q, ⟨m, hm⟩, h2, rfl⟩ := h
    rcases List.mem_append.1 hx with h | h
    · exact DataW.trod_lt m _ _ _ hm x h
    · exact trodAll_lt h2 x h
  | [], [], _ :: _, _, h, _, _ => h.elim
  | [], _ :: _, _, _, h, _, _ => h.elim
  | _ :: _, [], _, _, h, _, _ => h.elim
  | _ :: _, _ :: _, [], _, h, _, _ => h.elim
end

/-- an argument of type t: its form, and what it reads as -/
def Arg (P : Program) (W : World) (t : TypeId) (v : Value) : Prop := (∃ base, Value.okWide P W .any base t v) ∧ ∃ fuel, Rdg P W fuel t v.cells.toList
section
variable {P : Program} {W : World} {t e : TypeId} {v : Value}
theorem rdg_int {k : IntKind} {fuel : Nat} {cs : List Value} (ht : P.underlying t = some (.int k)) (h : Rdg P W fuel t cs) : ∃ n, cs = [.int k n] ∧ inr k n := by
  cases fuel with
  | zero => exact h.elim
  | succ m => unfold Rdg at h; rw [ht] at h; exact h
theorem rdg_slice {fuel : Nat} {cs : List Value} (ht : P.underlying t = some (.slice e)) (h : Rdg P W fuel t cs) :
    ∃ A len cap m, cs = [.slice A len cap] ∧ len ≤ cap ∧ cap ≤ maxLen ∧ (0 < len → ∃ a, A = some a ∧ ∀ i, i < len → ∃ ys, W.cells? 0 (a.add (i * P.cellsOf e)) (P.cellsOf e) = some ys ∧ Rdg P W m e ys) := by
  cases fuel with
  | zero => exact h.elim
  | succ m => unfold Rdg at h; rw [ht] at h; obtain ⟨A, len, cap, h1, h2, h3, h4⟩ := h; exact ⟨A, len, cap, m, h1, h2, h3, h4⟩
theorem rdg_array {n : Nat} {fuel : Nat} {cs : List Value} (ht : P.underlying t = some (.array n e)) (h : Rdg P W fuel t cs) :
    ∃ m, cs.length = P.cellsOf t ∧ ∀ i, i < n → Rdg P W m e ((cs.drop (i * P.cellsOf e)).take (P.cellsOf e)) := by
  cases fuel with
  | zero => exact h.elim
  | succ m => unfold Rdg at h; rw [ht] at h; exact ⟨m, h⟩
theorem cells_one {a : Addr} {y : Value} (h : W.cells? 0 a 1 = some [y]) : W.cell? a = some y := by
  obtain ⟨_, _, h⟩ := World.cells?_some h
  have := h 0 (by omega)
  simpa [Addr.add] using this
theorem cell_block {a : Addr} {y : Value} (h : W.cell? a = some y) : a.spot = none ∧ a.block < W.heap.size := by
  refine ⟨World.cell?_spot h, ?_⟩
  rcases Nat.lt_or_ge a.block W.heap.size with h1 | h1
  · exact h1
  · simp [World.cell?, Array.getElem?_eq_none h1] at h
theorem rdg_ints {k : IntKind} {fuel : Nat} {cs : List Value} (ht : P.underlying t = some (.slice e)) (he : P.underlying e = some (.int k)) (hC : P.cellsOf e = 1) (h : Rdg P W fuel t cs) :
    ∃ A len cap l, cs = [.slice A len cap] ∧ len ≤ cap ∧ cap ≤ maxLen ∧ Rd k W W.heap.size A len l := by
  obtain ⟨A, len, cap, m, hcs, h1, h2, h3⟩ := rdg_slice ht h
  rcases Nat.eq_zero_or_pos len with h0 | h0
  · subst h0; exact ⟨A, 0, cap, [], hcs, h1, h2, Rd.nil _ _ _ _⟩
  · obtain ⟨a, rfl, hi⟩ := h3 h0
    rw [hC] at hi
    have hx : ∀ i, i < len → ∃ x, W.cell? (a.add i) = some (.int k x) ∧ inr k x := by
      intro i hl
      obtain ⟨ys, hy, hr⟩ := hi i hl
      obtain ⟨n, rfl, hn⟩ := rdg_int he hr
      exact ⟨n, by have := cells_one hy; rwa [Nat.mul_one] at this, hn⟩
    have hall : ∃ l : List Int, l.length = len ∧ ∀ i, i < len → W.cell? (a.add i) = some (.int k (l.getD i 0)) ∧ inr k (l.getD i 0) := by
      have : ∀ n, n ≤ len → ∃ l : List Int, l.length = n ∧ ∀ i, i < n → W.cell? (a.add i) = some (.int k (l.getD i 0)) ∧ inr k (l.getD i 0) := by
        intro n
        induction n with
        | zero => intro _; exact ⟨[], rfl, fun i hi => absurd hi (by omega)⟩
        | succ n ih =>
          intro hn
          obtain ⟨l, hl, hc⟩ := ih (by omega)
          obtain ⟨x, hx1, hx2⟩ := hx n (by omega)
          refine ⟨l ++ [x], by simp [hl], fun i hi => ?_⟩
          rcases Nat.lt_or_ge i n with h | h
          · have := hc i h
            rw [List.getD_eq_getElem?_getD, List.getElem?_append_left (by omega), ← List.getD_eq_getElem?_getD]; exact this
          · obtain rfl : i = n := by omega
            rw [List.getD_eq_getElem?_getD, List.getElem?_append_right (by omega)]
            simp [hl]; exact ⟨hx1, hx2⟩
      exact this len (Nat.le_refl _)
    obtain ⟨l, hl, hc⟩ := hall
    obtain ⟨c0, _⟩ := hc 0 h0
    have hsp := cell_block c0
    have e0 : a.add 0 = a := by simp [Addr.add]
    rw [e0] at hsp
    obtain ⟨b, o, s⟩ := a
    obtain ⟨hs1, hs2⟩ := hsp
    simp only at hs1 hs2
    subst hs1
    refine ⟨_, len, cap, l, hcs, h1, h2, ⟨hl, fun x hx => ?_, fun _ => ⟨b, o, rfl, hs2, fun j hj => ?_⟩⟩⟩
    · obtain ⟨i, hi', rfl⟩ := List.getElem_of_mem hx
      have := (hc i (by omega)).2
      rwa [List.getD_eq_getElem?_getD, List.getElem?_eq_getElem hi'] at this
    · have := (hc j hj).1
      rw [← this]
      simp [Addr.add]; split <;> simp_all
theorem arg_ints {k : IntKind} (ht : P.underlying t = some (.slice e)) (he : P.underlying e = some (.int k)) (hC : P.cellsOf e = 1) (h : Arg P W t v) :
    ∃ A len cap l, v = .slice A len cap ∧ len ≤ cap ∧ cap ≤ maxLen ∧ Rd k W W.heap.size A len l := by
  obtain ⟨⟨base, h1⟩, fuel, h2⟩ := h
  obtain ⟨a, len, cap, rfl⟩ := okWide_slice ht h1
  obtain ⟨A, len', cap', l, hcs, h3, h4, h5⟩ := rdg_ints ht he hC h2
  simp [Value.cells] at hcs
  obtain ⟨rfl, rfl, rfl⟩ := hcs
  exact ⟨_, _, _, l, rfl, h3, h4, h5⟩
theorem arg_array {n : Nat} (ht : P.underlying t = some (.array n e)) (h : Arg P W t v) :
    ∃ cs m, v = .agg cs ∧ cs.size = P.cellsOf t ∧ ∀ i, i < n → Rdg P W m e ((cs.toList.drop (i * P.cellsOf e)).take (P.cellsOf e)) := by
  obtain ⟨⟨base, h1⟩, fuel, h2⟩ := h
  have h1' : ∃ cs, v = .agg cs ∧ cs.size = P.cellsOf t := by
    simp only [Value.okWide, ht] at h1
    obtain ⟨cs, h1, h2, _⟩ := h1
    exact ⟨cs, h1, h2⟩
  obtain ⟨cs, rfl, hs⟩ := h1'
  obtain ⟨m, _, h3⟩ := rdg_array ht h2
  exact ⟨cs, m, rfl, hs, h3⟩
theorem args2 {args : Array Value} (h : args.size = 2) : ∃ a b, args = #[a, b] := by
  obtain ⟨l⟩ := args; match l, h with | [a, b], _ => exact ⟨a, b, rfl⟩
end

theorem own_ : ownKnob Tryz.prog.godebug = none := by kernel_rfl
theorem laidOut : laidOutB Tryz.prog = true := by kernel_rfl

end Go.Proofs.YtilhkhnjloplfaaGreatDoor
namespace Go.Proofs.YtilhkhnjloplfaaGreatDoor
set_option linter.unusedVariables false
set_option linter.unusedSimpArgs false
open Go.RowKit
structure Wd where
  st : Int
  gen : Int
  tr : Int
  seen : Int
def Wd.ok (w : Wd) : Prop := (0 ≤ w.st ∧ w.st ≤ 3) ∧ (0 ≤ w.gen ∧ w.gen ≤ 65535) ∧ (0 ≤ w.tr ∧ w.tr ≤ 7) ∧ (0 ≤ w.seen ∧ w.seen ≤ 4294967295)
instance (w : Wd) : Decidable w.ok := by unfold Wd.ok; exact inferInstance
def Wd.num (w : Wd) : Int := w.st + 256 * w.tr + 65536 * w.gen + 4294967296 * w.seen
def unW (n : Int) : Wd := ⟨n % 4, n / 65536 % 65536, n / 256 % 8, n / 4294967296⟩
def Wd.same (a b : Wd) : Prop := b.gen = a.gen ∧ b.tr = a.tr ∧ b.seen = a.seen
instance (a b : Wd) : Decidable (a.same b) := by unfold Wd.same; exact inferInstance
def Wd.may (a b : Wd) : Prop := a.ok ∧ b.ok ∧ ((a.st = 0 ∧ b.st = 1 ∧ b.gen = (a.gen + 1) % 65536) ∨ (a.st = 1 ∧ (b.st = 2 ∨ b.st = 0) ∧ a.same b) ∨ (a.st = 2 ∧ (b.st = 2 ∧ b.gen = a.gen ∧ a.seen ≤ b.seen ∨ b.st = 3 ∧ a.same b)) ∨ (a.st = 3 ∧ b.st = 0 ∧ a.same b))
instance (a b : Wd) : Decidable (a.may b) := by unfold Wd.may; exact inferInstance
theorem num_bd {w : Wd} (h : w.ok) : 0 ≤ w.num ∧ w.num ≤ 18446744073709551615 := by unfold Wd.ok at h; unfold Wd.num; omega
theorem u64_or_add (m : Nat) (y x : Int) (hy : 0 ≤ y) (hy2 : y < (2 ^ m : Nat)) (hx : 0 ≤ x) (hx2 : x % (2 ^ m : Nat) = 0) (hs : x < 18446744073709551616) (hy3 : y < 18446744073709551616) : bits .or .u64 y x = y + x := by
  obtain ⟨a, rfl⟩ := Int.eq_ofNat_of_zero_le hy
  obtain ⟨b, rfl⟩ := Int.eq_ofNat_of_zero_le hx
  have h1 : b % 2 ^ m = 0 := by exact_mod_cast hx2
  have h2 : a < 2 ^ m := by exact_mod_cast hy2
  rw [u64_or _ _ hy hy3 hx hs, Int.toNat_natCast, Int.toNat_natCast, Nat.or_comm, nat_join m _ _ h1 h2]; omega
theorem or_num {w : Wd} (h : w.ok) : bits .or .u64 (bits .or .u64 (bits .or .u64 w.st (w.tr * 256)) (w.gen * 65536)) (w.seen * 4294967296) = w.num := by
  unfold Wd.ok at h
  rw [u64_or_add 8 w.st (w.tr * 256) (by omega) (by omega) (by omega) (by omega) (by omega) (by omega), u64_or_add 16 _ (w.gen * 65536) (by omega) (by omega) (by omega) (by omega) (by omega) (by omega), u64_or_add 32 _ (w.seen * 4294967296) (by omega) (by omega) (by omega) (by omega) (by omega) (by omega)]
  unfold Wd.num; omega
theorem u64_and3 (a : Int) : bits .and .u64 a 3 = a % 4 := and_mask (k := .u64) rfl 2 (by decide) a
theorem u64_and7 (a : Int) : bits .and .u64 a 7 = a % 8 := and_mask (k := .u64) rfl 3 (by decide) a
theorem i64_and65535 (a : Int) (h0 : 0 ≤ a) (h1 : a ≤ 65536) : bits .and .i64 a 65535 = a % 65536 := by
  obtain ⟨n, rfl⟩ := Int.eq_ofNat_of_zero_le h0
  show IntKind.i64.wrap ((BitVec.ofInt 64 (n : Int) &&& BitVec.ofInt 64 ((65535 : Nat) : Int)).toNat : Int) = _
  rw [BitVec.toNat_and, BitVec.ofInt_natCast, BitVec.toNat_ofNat, BitVec.ofInt_natCast, BitVec.toNat_ofNat]
  have h2 : n % 2 ^ 64 &&& 65535 % 2 ^ 64 = (n % 2 ^ 64) % 2 ^ 16 := Nat.and_two_pow_sub_one_eq_mod _ 16
  rw [h2, IntKind.wrap_i64]
  omega
attribute [go_sem] u64_and3 u64_and7
end Go.Proofs.YtilhkhnjloplfaaGreatDoor
namespace Go.Proofs.YtilhkhnjloplfaaGreatDoor
set_option linter.unusedVariables false
set_option linter.unusedSimpArgs false
open Go.RowKit
def Wd.val (w : Wd) : Value := .agg #[.int .i64 w.st, .int .i64 w.gen, .int .i64 w.tr, .int .i64 w.seen]
theorem within_any (n m : Int) (w : World) :
    Calls Tryz.prog 69 #[.int .i64 n, .int .i64 m] w fun e w' => e = .returned (.bool (decide (0 ≤ n ∧ n ≤ m))) ∧ w = w' := by
  by_cases h : 0 ≤ n
  · have h1 : decide (0 ≤ n) = true := by simpa using h
    have h2 : decide (0 ≤ n ∧ n ≤ m) = decide (n ≤ m) := by simp [h]
    rw [h2]
    go_enter Tryz.func69, Tryz.ntmps69
    go_wp2
    go_ret
    exact ⟨rfl, rfl⟩
  · have h1 : decide (0 ≤ n) = false := by simpa using h
    have h2 : decide (0 ≤ n ∧ n ≤ m) = false := by simp [h]
    rw [h2]
    go_enter Tryz.func69, Tryz.ntmps69
    go_wp2
    go_ret
    exact ⟨rfl, rfl⟩
set_option maxHeartbeats 400000 in
theorem right_any (a b c d : Int) (w : World) :
    Calls Tryz.prog 49 #[.agg #[.int .i64 a, .int .i64 b, .int .i64 c, .int .i64 d]] w fun e w' => e = .returned (.bool (decide (Wd.mk a b c d).ok)) ∧ Below w.heap.size w w' := by
  rcases Bool.eq_false_or_eq_true (decide (0 ≤ a ∧ a ≤ 3)) with h1 | h1
  rotate_left
  · have h4 : decide (Wd.mk a b c d).ok = false := by simp only [decide_eq_false_iff_not] at h1 ⊢; exact fun h => h1 h.1
    rw [h4]
    go_enter Tryz.func49, Tryz.ntmps49
    go_wp2_with (go_at_call 69; refine (within_any _ _ _).mono ?_; (try simp only [h1]); rintro e w' ⟨rfl, rfl⟩)
    go_ret
    exact ⟨rfl, (Below.refl _ _).alloc (Nat.le_refl _) _⟩
  rcases Bool.eq_false_or_eq_true (decide (0 ≤ b ∧ b ≤ 65535)) with h2 | h2
  rotate_left
  · have h4 : decide (Wd.mk a b c d).ok = false := by simp only [decide_eq_false_iff_not] at h2 ⊢; exact fun h => h2 h.2.1
    rw [h4]
    go_enter Tryz.func49, Tryz.ntmps49
    go_wp2_with (go_at_call 69; refine (within_any _ _ _).mono ?_; (try simp only [h1, h2]); rintro e w' ⟨rfl, rfl⟩)
    go_ret
    exact ⟨rfl, (Below.refl _ _).alloc (Nat.le_refl _) _⟩
  rcases Bool.eq_false_or_eq_true (decide (0 ≤ c ∧ c ≤ 7)) with h3 | h3
  rotate_left
  · have h4 : decide (Wd.mk a b c d).ok = false := by simp only [decide_eq_false_iff_not] at h3 ⊢; exact fun h => h3 h.2.2.1
    rw [h4]
    go_enter Tryz.func49, Tryz.ntmps49
    go_wp2_with (go_at_call 69; refine (within_any _ _ _).mono ?_; (try simp only [h1, h2, h3]); rintro e w' ⟨rfl, rfl⟩)
    go_ret
    exact ⟨rfl, (Below.refl _ _).alloc (Nat.le_refl _) _⟩
  have h4 : decide (Wd.mk a b c d).ok = (decide (0 ≤ d) && decide (d ≤ 4294967295)) := by simp only [decide_eq_true_eq] at h1 h2 h3; simp only [Wd.ok, h1, h2, h3, true_and, decide_true, and_self, Bool.decide_and]
  rw [h4]
  go_enter Tryz.func49, Tryz.ntmps49
  go_wp2_with (go_at_call 69; refine (within_any _ _ _).mono ?_; (try simp only [h1, h2, h3]); rintro e w' ⟨rfl, rfl⟩)
  go_ret
  exact ⟨rfl, (Below.refl _ _).alloc (Nat.le_refl _) _⟩
theorem number_any (a b c d : Int) (w : World) (h : (Wd.mk a b c d).ok) :
    Calls Tryz.prog 29 #[.agg #[.int .i64 a, .int .i64 b, .int .i64 c, .int .i64 d]] w fun e w' => e = .returned (.int .u64 (Wd.mk a b c d).num) ∧ Below w.heap.size w w' := by
  have ho := or_num h
  unfold Wd.ok at h
  simp only at h ho
  generalize (Wd.mk a b c d).num = n at *
  have w1 : IntKind.u64.wrap a = a := by rw [IntKind.wrap_u64]; omega
  have w2 : IntKind.u64.wrap b = b := by rw [IntKind.wrap_u64]; omega
  have w3 : IntKind.u64.wrap c = c := by rw [IntKind.wrap_u64]; omega
  have w4 : IntKind.u64.wrap d = d := by rw [IntKind.wrap_u64]; omega
  go_enter Tryz.func29, Tryz.ntmps29
  go_wp2
  go_ret
  exact ⟨rfl, (Below.refl _ _).alloc (Nat.le_refl _) _⟩
theorem Unpack_any (n : Int) (w : World) (hn : 0 ≤ n ∧ n ≤ 18446744073709551615) :
    Calls Tryz.prog 25 #[.int .u64 n] w fun e w' => e = .returned (unW n).val ∧ Below w.heap.size w w' := by
  have hv : (unW n).val = .agg #[.int .i64 (n % 4), .int .i64 (n / 65536 % 65536), .int .i64 (n / 256 % 8), .int .i64 (n / 4294967296)] := rfl
  rw [hv]
  go_enter Tryz.func25, Tryz.ntmps25
  go_wp2
  exact bodyPost_ret (v := .agg #[.int .i64 (n % 4), .int .i64 (n / 65536 % 65536), .int .i64 (n / 256 % 8), .int .i64 (n / 4294967296)]) (by simp [results, Tryz.results25, go_sem]) rfl ⟨rfl, bel_alloc _ _⟩
end Go.Proofs.YtilhkhnjloplfaaGreatDoor
namespace Go.Proofs.YtilhkhnjloplfaaGreatDoor
set_option linter.unusedVariables false
set_option linter.unusedSimpArgs false
open Go.RowKit
theorem Blk.new1 (w : World) (o : Obj) (t : TypeId) (cs : Array Value) : Blk ((w.alloc o).alloc (.cells cs t)) (w.heap.size + 1) t cs := by
  have := Blk.new (w.alloc o) t cs
  rwa [World.size_alloc] at this
theorem May_no1 (a b c d e f g h : Int) (w : World) (h1 : decide (Wd.mk a b c d).ok = false) :
    Calls Tryz.prog 27 #[.agg #[.int .i64 a, .int .i64 b, .int .i64 c, .int .i64 d], .agg #[.int .i64 e, .int .i64 f, .int .i64 g, .int .i64 h]] w fun r w' => r = .returned (.bool false) ∧ Below w.heap.size w w' := by
  go_enter Tryz.func27, Tryz.ntmps27
  go_wp2_with fail
  refine (right_any _ _ _ _ _).mono ?_
  rw [h1]
  rintro r w1 ⟨rfl, b1⟩
  go_wp2_with fail
  go_ret
  exact ⟨rfl, bel_after ((bel_alloc _ _).alloc (by simp) _) b1⟩
theorem May_no2 (a b c d e f g h : Int) (w : World) (h1 : decide (Wd.mk a b c d).ok = true) (h2 : decide (Wd.mk e f g h).ok = false) :
    Calls Tryz.prog 27 #[.agg #[.int .i64 a, .int .i64 b, .int .i64 c, .int .i64 d], .agg #[.int .i64 e, .int .i64 f, .int .i64 g, .int .i64 h]] w fun r w' => r = .returned (.bool false) ∧ Below w.heap.size w w' := by
  go_enter Tryz.func27, Tryz.ntmps27
  go_wp2_with fail
  refine (right_any _ _ _ _ _).mono ?_
  rw [h1]
  rintro r w1 ⟨rfl, b1⟩
  have bw := bel_after ((bel_alloc w (.cells #[.int .i64 a, .int .i64 b, .int .i64 c, .int .i64 d] 41)).alloc (by simp) _) b1
  have k2 := (Blk.new1 w (.cells #[.int .i64 a, .int .i64 b, .int .i64 c, .int .i64 d] 41) 41 #[.int .i64 e, .int .i64 f, .int .i64 g, .int .i64 h]).bel b1
  have e0 := k2.cell 0
  have e1 := k2.cell 1
  have e2 := k2.cell 2
  have e3 := k2.cell 3
  go_wp2_with fail
  refine (right_any _ _ _ _ _).mono ?_
  rw [h2]
  rintro r w2 ⟨rfl, b2⟩
  go_wp2_with fail
  go_ret
  exact ⟨rfl, bel_after bw b2⟩
set_option maxHeartbeats 400000 in
theorem May_22 (b c d f g h : Int) (w : World) (h1 : decide (Wd.mk 2 b c d).ok = true) (h2 : decide (Wd.mk 2 f g h).ok = true) :
    Calls Tryz.prog 27 #[.agg #[.int .i64 2, .int .i64 b, .int .i64 c, .int .i64 d], .agg #[.int .i64 2, .int .i64 f, .int .i64 g, .int .i64 h]] w fun r w' => r = .returned (.bool (decide ((Wd.mk 2 b c d).may (Wd.mk 2 f g h)))) ∧ Below w.heap.size w w' := by
  have o1 := of_decide_eq_true h1
  have o2 := of_decide_eq_true h2
  rcases Bool.eq_false_or_eq_true (f == b) with hfb | hfb
  · have hd : decide ((Wd.mk 2 b c d).may (Wd.mk 2 f g h)) = decide (d ≤ h) := by
      rw [beq_iff_eq] at hfb
      by_cases hh : d ≤ h
      · rw [decide_eq_true hh]; exact decide_eq_true ⟨o1, o2, by (first | (simp [Wd.same]; done) | (simp [Wd.same]; omega))⟩
      · rw [decide_eq_false hh]; refine decide_eq_false ?_; rintro ⟨_, _, hm⟩; (first | (simp [Wd.same] at hm; done) | (simp [Wd.same] at hm; omega))
    rw [hd]
    clear hd o1 o2
    go_enter Tryz.func27, Tryz.ntmps27
    go_wp2_with fail
    refine (right_any _ _ _ _ _).mono ?_
    rw [h1]
    rintro r w1 ⟨rfl, b1⟩
    have bw := bel_after ((bel_alloc w (.cells #[.int .i64 2, .int .i64 b, .int .i64 c, .int .i64 d] 41)).alloc (by simp) _) b1
    have k1 := ((Blk.new w 41 #[.int .i64 2, .int .i64 b, .int .i64 c, .int .i64 d]).alloc (.cells #[.int .i64 2, .int .i64 f, .int .i64 g, .int .i64 h] 41)).bel b1
    have k2 := (Blk.new1 w (.cells #[.int .i64 2, .int .i64 b, .int .i64 c, .int .i64 d] 41) 41 #[.int .i64 2, .int .i64 f, .int .i64 g, .int .i64 h]).bel b1
    have e0 := k2.cell 0
    have e1 := k2.cell 1
    have e2 := k2.cell 2
    have e3 := k2.cell 3
    clear b1
    go_wp2_with fail
    refine (right_any _ _ _ _ _).mono ?_
    rw [h2]
    rintro r w2 ⟨rfl, b2⟩
    replace k1 := k1.bel b2
    replace k2 := k2.bel b2
    replace bw := bel_after bw b2
    clear e0 e1 e2 e3 b2
    have e0 := k2.cell 0
    have e1 := k2.cell 1
    have e2 := k2.cell 2
    have e3 := k2.cell 3
    have k0' := k1.cell 0
    have k1' := k1.cell 1
    have k2' := k1.cell 2
    have k3' := k1.cell 3
    have z1 := k1.lt
    have z2 := k2.lt
    go_wp2_with fail
    all_goals
      go_ret
      refine ⟨ret_bool ?_, bw.alloc bw.size _⟩
    rfl
  · have hd : decide ((Wd.mk 2 b c d).may (Wd.mk 2 f g h)) = false := by
      have : ¬ f = b := by simpa using hfb
      refine decide_eq_false ?_; rintro ⟨_, _, hm⟩; (first | (simp [Wd.same] at hm; done) | (simp [Wd.same] at hm; omega))
    rw [hd]
    clear hd o1 o2
    go_enter Tryz.func27, Tryz.ntmps27
    go_wp2_with fail
    refine (right_any _ _ _ _ _).mono ?_
    rw [h1]
    rintro r w1 ⟨rfl, b1⟩
    have bw := bel_after ((bel_alloc w (.cells #[.int .i64 2, .int .i64 b, .int .i64 c, .int .i64 d] 41)).alloc (by simp) _) b1
    have k1 := ((Blk.new w 41 #[.int .i64 2, .int .i64 b, .int .i64 c, .int .i64 d]).alloc (.cells #[.int .i64 2, .int .i64 f, .int .i64 g, .int .i64 h] 41)).bel b1
    have k2 := (Blk.new1 w (.cells #[.int .i64 2, .int .i64 b, .int .i64 c, .int .i64 d] 41) 41 #[.int .i64 2, .int .i64 f, .int .i64 g, .int .i64 h]).bel b1
    have e0 := k2.cell 0
    have e1 := k2.cell 1
    have e2 := k2.cell 2
    have e3 := k2.cell 3
    clear b1
    go_wp2_with fail
    refine (right_any _ _ _ _ _).mono ?_
    rw [h2]
    rintro r w2 ⟨rfl, b2⟩
    replace k1 := k1.bel b2
    replace k2 := k2.bel b2
    replace bw := bel_after bw b2
    clear e0 e1 e2 e3 b2
    have e0 := k2.cell 0
    have e1 := k2.cell 1
    have e2 := k2.cell 2
    have e3 := k2.cell 3
    have k0' := k1.cell 0
    have k1' := k1.cell 1
    have k2' := k1.cell 2
    have k3' := k1.cell 3
    have z1 := k1.lt
    have z2 := k2.lt
    go_wp2_with fail
    all_goals
      go_ret
      refine ⟨ret_bool ?_, bw.alloc bw.size _⟩
    rfl
set_option maxHeartbeats 400000 in
theorem May_01 (b c d f g h : Int) (w : World) (h1 : decide (Wd.mk 0 b c d).ok = true) (h2 : decide (Wd.mk 1 f g h).ok = true) :
    Calls Tryz.prog 27 #[.agg #[.int .i64 0, .int .i64 b, .int .i64 c, .int .i64 d], .agg #[.int .i64 1, .int .i64 f, .int .i64 g, .int .i64 h]] w fun r w' => r = .returned (.bool (decide ((Wd.mk 0 b c d).may (Wd.mk 1 f g h)))) ∧ Below w.heap.size w w' := by
  have o1 := of_decide_eq_true h1
  have o2 := of_decide_eq_true h2
  have o1' := o1
  unfold Wd.ok at o1'
  simp only at o1'
  have hm := i64_and65535 (b + 1) (by omega) (by omega)
  have hw : IntKind.i64.wrap (b + 1) = b + 1 := by rw [IntKind.wrap_i64]; omega
  have hd : decide ((Wd.mk 0 b c d).may (Wd.mk 1 f g h)) = (f == (b + 1) % 65536) := by
    by_cases hh : f = (b + 1) % 65536
    · rw [beq_iff_eq.2 hh]; exact decide_eq_true ⟨o1, o2, by (first | (simp [Wd.same]; done) | (simp [Wd.same]; omega))⟩
    · rw [beq_eq_false_iff_ne.2 hh]; refine decide_eq_false ?_; rintro ⟨_, _, hm⟩; (first | (simp [Wd.same] at hm; done) | (simp [Wd.same] at hm; omega))
  rw [hd]
  clear hd o1 o2
  have o3 := o1'.2.1.1
  have o4 := o1'.2.1.2
  clear o1'
  generalize (b + 1) % 65536 = x at *
  go_enter Tryz.func27, Tryz.ntmps27
  go_wp2_with fail
  refine (right_any _ _ _ _ _).mono ?_
  rw [h1]
  rintro r w1 ⟨rfl, b1⟩
  have bw := bel_after ((bel_alloc w (.cells #[.int .i64 0, .int .i64 b, .int .i64 c, .int .i64 d] 41)).alloc (by simp) _) b1
  have k1 := ((Blk.new w 41 #[.int .i64 0, .int .i64 b, .int .i64 c, .int .i64 d]).alloc (.cells #[.int .i64 1, .int .i64 f, .int .i64 g, .int .i64 h] 41)).bel b1
  have k2 := (Blk.new1 w (.cells #[.int .i64 0, .int .i64 b, .int .i64 c, .int .i64 d] 41) 41 #[.int .i64 1, .int .i64 f, .int .i64 g, .int .i64 h]).bel b1
  have e0 := k2.cell 0
  have e1 := k2.cell 1
  have e2 := k2.cell 2
  have e3 := k2.cell 3
  clear b1
  go_wp2_with fail
  refine (right_any _ _ _ _ _).mono ?_
  rw [h2]
  rintro r w2 ⟨rfl, b2⟩
  replace k1 := k1.bel b2
  replace k2 := k2.bel b2
  replace bw := bel_after bw b2
  clear e0 e1 e2 e3 b2
  have e0 := k2.cell 0
  have e1 := k2.cell 1
  have e2 := k2.cell 2
  have e3 := k2.cell 3
  have k0' := k1.cell 0
  have k1' := k1.cell 1
  have k2' := k1.cell 2
  have k3' := k1.cell 3
  have z1 := k1.lt
  have z2 := k2.lt
  go_wp2_with fail
  all_goals
    go_ret
    refine ⟨ret_bool ?_, bw.alloc bw.size _⟩
  rfl
set_option maxHeartbeats 4000000 in
theorem May_rest (a b c d e f g h : Int) (w : World) (h1 : decide (Wd.mk a b c d).ok = true) (h2 : decide (Wd.mk e f g h).ok = true) (n1 : ¬ (a = 2 ∧ e = 2)) (n2 : ¬ (a = 0 ∧ e = 1)) :
    Calls Tryz.prog 27 #[.agg #[.int .i64 a, .int .i64 b, .int .i64 c, .int .i64 d], .agg #[.int .i64 e, .int .i64 f, .int .i64 g, .int .i64 h]] w fun r w' => r = .returned (.bool (decide ((Wd.mk a b c d).may (Wd.mk e f g h)))) ∧ Below w.heap.size w w' := by
  have o1 := of_decide_eq_true h1
  have o2 := of_decide_eq_true h2
  have ha : a = 0 ∨ a = 1 ∨ a = 2 ∨ a = 3 := by have := o1.1; simp only at this; omega
  have he : e = 0 ∨ e = 1 ∨ e = 2 ∨ e = 3 := by have := o2.1; simp only at this; omega
  rcases ha with rfl | rfl | rfl | rfl <;> rcases he with rfl | rfl | rfl | rfl <;> (try omega)
  all_goals
    clear n1 n2
    go_enter Tryz.func27, Tryz.ntmps27
    go_wp2_with fail
    refine (right_any _ _ _ _ _).mono ?_
    rw [h1]
    rintro r w1 ⟨rfl, b1⟩
    have bw := bel_after ((bel_alloc w (.cells #[.int .i64 _, .int .i64 b, .int .i64 c, .int .i64 d] 41)).alloc (by simp) _) b1
    have k1 := ((Blk.new w 41 #[.int .i64 _, .int .i64 b, .int .i64 c, .int .i64 d]).alloc (.cells #[.int .i64 _, .int .i64 f, .int .i64 g, .int .i64 h] 41)).bel b1
    have k2 := (Blk.new1 w (.cells #[.int .i64 _, .int .i64 b, .int .i64 c, .int .i64 d] 41) 41 #[.int .i64 _, .int .i64 f, .int .i64 g, .int .i64 h]).bel b1
    have e0 := k2.cell 0
    have e1 := k2.cell 1
    have e2 := k2.cell 2
    have e3 := k2.cell 3
    clear b1
    go_wp2_with fail
    refine (right_any _ _ _ _ _).mono ?_
    rw [h2]
    rintro r w2 ⟨rfl, b2⟩
    replace k1 := k1.bel b2
    replace k2 := k2.bel b2
    replace bw := bel_after bw b2
    clear e0 e1 e2 e3 b2
    have e0 := k2.cell 0
    have e1 := k2.cell 1
    have e2 := k2.cell 2
    have e3 := k2.cell 3
    have k0' := k1.cell 0
    have k1' := k1.cell 1
    have k2' := k1.cell 2
    have k3' := k1.cell 3
    have z1 := k1.lt
    have z2 := k2.lt
    go_wp2_with fail
    all_goals
      go_ret
      refine ⟨ret_bool ?_, bw.alloc bw.size _⟩
    all_goals (first | (apply Eq.symm; refine decide_eq_true ?_; exact ⟨o1, o2, by (first | (simp [Wd.same]; done) | (simp [Wd.same]; omega))⟩) | (apply Eq.symm; refine decide_eq_false ?_; rintro ⟨_, _, hm⟩; (first | (simp [Wd.same] at hm; done) | (simp [Wd.same] at hm; omega))))
theorem May_any (a b c d e f g h : Int) (w : World) :
    Calls Tryz.prog 27 #[.agg #[.int .i64 a, .int .i64 b, .int .i64 c, .int .i64 d], .agg #[.int .i64 e, .int .i64 f, .int .i64 g, .int .i64 h]] w fun r w' => r = .returned (.bool (decide ((Wd.mk a b c d).may (Wd.mk e f g h)))) ∧ Below w.heap.size w w' := by
  rcases Bool.eq_false_or_eq_true (decide (Wd.mk a b c d).ok) with h1 | h1
  rotate_left
  · rw [show decide ((Wd.mk a b c d).may (Wd.mk e f g h)) = false from decide_eq_false fun hm => of_decide_eq_false h1 hm.1]
    exact May_no1 a b c d e f g h w h1
  rcases Bool.eq_false_or_eq_true (decide (Wd.mk e f g h).ok) with h2 | h2
  rotate_left
  · rw [show decide ((Wd.mk a b c d).may (Wd.mk e f g h)) = false from decide_eq_false fun hm => of_decide_eq_false h2 hm.2.1]
    exact May_no2 a b c d e f g h w h1 h2
  by_cases n1 : a = 2 ∧ e = 2
  · obtain ⟨rfl, rfl⟩ := n1
    exact May_22 b c d f g h w h1 h2
  by_cases n2 : a = 0 ∧ e = 1
  · obtain ⟨rfl, rfl⟩ := n2
    exact May_01 b c d f g h w h1 h2
  exact May_rest a b c d e f g h w h1 h2 n1 n2
end Go.Proofs.YtilhkhnjloplfaaGreatDoor
namespace Go.Proofs.YtilhkhnjloplfaaGreatDoor
set_option linter.unusedVariables false
set_option linter.unusedSimpArgs false
open Go.RowKit
/-- the numbers of a word's lower half that are not set, from the lowest on -/
def frB (m : Nat) : List Nat := (List.range 32).filter fun i => !m.testBit i
/-- .. that are set -/
def stB (m : Nat) : List Nat := (List.range 32).filter fun i => m.testBit i
/-- a word's free ports -/
def frW (k : Nat) (m : Nat) : List Nat := (frB m).map (32 * k + ·)
def stW (k : Nat) (m : Nat) : List Nat := (stB m).map (32 * k + ·)
/-- the free ports of words, from the word k on -/
def frL : Nat → List Nat → List Nat
  | _, [] => []
  | k, m :: l => frW k m ++ frL (k + 1) l
/-- with these numbers set, too -/
def setB (m : Nat) (l : List Nat) : Nat := l.foldl (fun a i => a ||| 2 ^ i) m
theorem setB_bit (l : List Nat) (m j : Nat) : (setB m l).testBit j = (m.testBit j || decide (j ∈ l)) := by
  induction l generalizing m with
  | nil => simp [setB]
  | cons i l ih =>
    have : setB m (i :: l) = setB (m ||| 2 ^ i) l := rfl
    rw [this, ih, Nat.testBit_or, Nat.testBit_two_pow]
    by_cases h : i = j
    · subst h; simp
    · have h' : ¬ j = i := fun e => h e.symm
      simp [h, h']
theorem frB_nodup (m : Nat) : (frB m).Nodup := List.nodup_range.filter _
theorem mem_frB {m j : Nat} : j ∈ frB m ↔ j < 32 ∧ m.testBit j = false := by simp [frB]
theorem mem_stB {m j : Nat} : j ∈ stB m ↔ j < 32 ∧ m.testBit j = true := by simp [stB]
/-- some free ones are taken: these, and those that are free then -/
theorem frB_take (m n : Nat) : frB m = (frB m).take n ++ frB (setB m ((frB m).take n)) := by
  have h1 : frB (setB m ((frB m).take n)) = (frB m).filter fun i => decide (i ∉ (frB m).take n) := by
    unfold frB
    rw [List.filter_filter]
    refine List.filter_congr fun i _ => ?_
    rw [setB_bit]
    cases m.testBit i <;> simp
  rw [h1]
  have hnd := frB_nodup m
  generalize frB m = l at *
  clear h1
  conv => lhs; rw [← List.take_append_drop n l]
  congr 1
  have hsp : l.filter (fun i => decide (i ∉ l.take n)) = (l.take n ++ l.drop n).filter (fun i => decide (i ∉ l.take n)) := by rw [List.take_append_drop]
  rw [hsp, List.filter_append]
  have e1 : (l.take n).filter (fun i => decide (i ∉ l.take n)) = [] := by
    rw [List.filter_eq_nil_iff]; intro x hx; simp [hx]
  have e2 : (l.drop n).filter (fun i => decide (i ∉ l.take n)) = l.drop n := by
    rw [List.filter_eq_self]
    intro x hx
    have hd : (l.take n ++ l.drop n).Nodup := by rw [List.take_append_drop]; exact hnd
    rw [List.nodup_append] at hd
    simp only [decide_eq_true_eq]
    intro hx2
    exact hd.2.2 x hx2 x hx rfl
  rw [e1, e2, List.nil_append]
-- numbers of bits
theorem setB_lt {n : Nat} : ∀ {l : List Nat} {m : Nat}, m < 2 ^ n → (∀ x, x ∈ l → x < n) → setB m l < 2 ^ n
  | [], _, hm, _ => hm
  | i :: l, m, hm, hl => by
    have h1 : m ||| 2 ^ i < 2 ^ n := Nat.or_lt_two_pow hm (Nat.pow_lt_pow_right (by omega) (hl i (by simp)))
    exact setB_lt (l := l) h1 (fun x hx => hl x (by simp [hx]))
theorem frB_lt {m j : Nat} (h : j ∈ frB m) : j < 32 := (mem_frB.1 h).1
theorem stB_lt {m j : Nat} (h : j ∈ stB m) : j < 32 := (mem_stB.1 h).1
/-- what is free in a word's lower half, as a number -/
theorem free_num (m : Nat) : (18446744073709551615 ^^^ m) &&& 4294967295 = setB 0 (frB m) := by
  apply Nat.eq_of_testBit_eq
  intro i
  rw [setB_bit, Nat.testBit_and, Nat.testBit_xor, show (18446744073709551615 : Nat) = 2 ^ 64 - 1 by decide, show (4294967295 : Nat) = 2 ^ 32 - 1 by decide, Nat.testBit_two_pow_sub_one, Nat.testBit_two_pow_sub_one]
  by_cases h : i < 32
  · have h2 : i < 64 := by omega
    cases hb : m.testBit i <;> simp [h, h2, mem_frB, hb]
  · simp [h, mem_frB]
theorem setB_nil_zero {l : List Nat} : setB 0 l = 0 ↔ l = [] := by
  constructor
  · intro h
    cases l with
    | nil => rfl
    | cons i l =>
      have := setB_bit (i :: l) 0 i
      rw [h] at this
      simp at this
  · rintro rfl; rfl
/-- the lowest one of them -/
theorem ctz_low {i : Nat} {l : List Nat} (h : ∀ x, x ∈ l → i < x) (hb : ∀ x, x ∈ i :: l → x < 64) : Lib.ctz 64 (setB 0 (i :: l)) = i := by
  have h0 : setB 0 (i :: l) ≠ 0 := fun e => by rw [setB_nil_zero] at e; cases e
  have hlt : setB 0 (i :: l) < 2 ^ 64 := setB_lt (by decide) hb
  have hc : Lib.ctz 64 (setB 0 (i :: l)) = Lib.ctzFrom 64 (setB 0 (i :: l)) := by unfold Lib.ctz; rw [if_neg h0]
  rw [hc]
  obtain ⟨m, hm, _⟩ := Lib.ctzFrom_spec 64 (setB 0 (i :: l)) (Nat.pos_of_ne_zero h0) hlt
  generalize Lib.ctzFrom 64 (setB 0 (i :: l)) = c at *
  have hbit := fun j => setB_bit (i :: l) 0 j
  rw [hm] at hbit
  rcases Nat.lt_trichotomy c i with hci | hci | hci
  · have := hbit c
    rw [Nat.testBit_two_pow_mul] at this
    simp at this
    rcases this with e | e
    · omega
    · have := h c e; omega
  · exact hci
  · have := hbit i
    rw [Nat.testBit_two_pow_mul] at this
    simp at this
    omega
/-- it is taken out -/
theorem drop_low {i : Nat} {l : List Nat} (hi : i < 64) (hn : i ∉ l) (hb : ∀ x, x ∈ l → x < 64) : setB 0 (i :: l) &&& (18446744073709551615 ^^^ 2 ^ i) = setB 0 l := by
  apply Nat.eq_of_testBit_eq
  intro j
  rw [Nat.testBit_and, Nat.testBit_xor, setB_bit, setB_bit, show (18446744073709551615 : Nat) = 2 ^ 64 - 1 by decide, Nat.testBit_two_pow_sub_one, Nat.testBit_two_pow]
  by_cases hj : j = i
  · subst hj; simp [hn, hi]
  · have hj' : ¬ i = j := fun e => hj e.symm
    by_cases hl : j ∈ l
    · have := hb j hl
      simp [hj, hj', hl, this]
    · simp [hj, hj', hl]
theorem setB_snoc (m : Nat) (l : List Nat) (i : Nat) : setB m (l ++ [i]) = setB m l ||| 2 ^ i := by unfold setB; rw [List.foldl_append]; rfl
/-- a word with another lower half, changed once more -/
def chg (w lower : Nat) : Nat := (w / 4294967296 + 1) % 4294967296 * 4294967296 + lower
theorem chg_lt {w lower : Nat} (h : lower < 4294967296) : chg w lower < 18446744073709551616 := by unfold chg; omega
theorem chg_bit {w lower i : Nat} (h : lower < 4294967296) (hi : i < 32) : (chg w lower).testBit i = lower.testBit i := by
  unfold chg
  rw [Nat.testBit_eq_decide_div_mod_eq, Nat.testBit_eq_decide_div_mod_eq]
  have h1 : ((w / 4294967296 + 1) % 4294967296 * 4294967296 + lower) / 2 ^ i % 2 = lower / 2 ^ i % 2 := by
    obtain ⟨k, hk⟩ : ∃ k, 4294967296 = 2 ^ i * (2 * k) := ⟨2 ^ (31 - i), by rw [← Nat.mul_assoc, Nat.mul_comm (2 ^ i) 2, Nat.mul_assoc, ← Nat.pow_add, show i + (31 - i) = 31 by omega]⟩
    generalize (w / 4294967296 + 1) % 4294967296 = q
    rw [hk, show q * (2 ^ i * (2 * k)) = 2 ^ i * (2 * (q * k)) by rw [Nat.mul_left_comm, Nat.mul_left_comm q 2 k], Nat.mul_add_div (Nat.two_pow_pos i)]
    omega
  rw [h1]
theorem frB_congr {a b : Nat} (h : ∀ i, i < 32 → a.testBit i = b.testBit i) : frB a = frB b := by
  unfold frB
  exact List.filter_congr fun i hi => by rw [h i (List.mem_range.1 hi)]
theorem frB_chg {w lower : Nat} (h : lower < 4294967296) : frB (chg w lower) = frB lower := frB_congr fun _ hi => chg_bit h hi
theorem low_bit (m i : Nat) (hi : i < 32) : (m % 4294967296).testBit i = m.testBit i := by
  rw [show (4294967296 : Nat) = 2 ^ 32 by decide, Nat.testBit_mod_two_pow]; simp [hi]
theorem frB_low (m : Nat) : frB (m % 4294967296) = frB m := frB_congr fun i hi => low_bit m i hi
/-- all are taken: there is none -/
theorem full_none {m : Nat} : m % 4294967296 = 4294967295 ↔ frB m = [] := by
  constructor
  · intro h
    rw [← frB_low, h]
    decide +kernel
  · intro h
    apply Nat.eq_of_testBit_eq
    intro i
    rw [show (4294967295 : Nat) = 2 ^ 32 - 1 by decide, Nat.testBit_two_pow_sub_one]
    by_cases hi : i < 32
    · rw [low_bit m i hi]
      cases hb : m.testBit i with
      | true => simp [hi]
      | false =>
        have : i ∈ frB m := mem_frB.2 ⟨hi, hb⟩
        rw [h] at this; cases this
    · rw [show (4294967296 : Nat) = 2 ^ 32 by decide, Nat.testBit_mod_two_pow]; simp [hi]
/-- a word behind a Take of its lowest ones -/
def tkn (m k : Nat) : Nat := chg m (setB (m % 4294967296) ((frB m).take k))
theorem tkn_lower (m k : Nat) : setB (m % 4294967296) ((frB m).take k) < 4294967296 := setB_lt (n := 32) (Nat.mod_lt _ (by decide)) (fun _ hx => frB_lt (List.mem_of_mem_take hx))
theorem frB_tkn (m k : Nat) : frB m = (frB m).take k ++ frB (tkn m k) := by
  conv => lhs; rw [frB_take m k]
  congr 1
  unfold tkn
  rw [frB_chg (tkn_lower m k)]
  refine frB_congr fun i hi => ?_
  rw [setB_bit, setB_bit, low_bit m i hi]
/-- a word behind a Back of a mask -/
def bkn (m k : Nat) : Nat := chg m (m % 4294967296 &&& (18446744073709551615 ^^^ k))
theorem bkn_lower (m k : Nat) : m % 4294967296 &&& (18446744073709551615 ^^^ k) < 4294967296 := Nat.lt_of_le_of_lt Nat.and_le_left (Nat.mod_lt _ (by decide))
theorem stB_nodup (m : Nat) : (stB m).Nodup := List.nodup_range.filter _
theorem frB_bkn {m k : Nat} (h : ∀ i, i ∈ stB k → m.testBit i = true) : (frB (bkn m k)).Perm (frB m ++ stB k) := by
  have hd : (frB m ++ stB k).Nodup := by
    rw [List.nodup_append]
    refine ⟨frB_nodup m, stB_nodup k, fun a ha b hb e => ?_⟩
    subst e
    have := h a hb
    rw [(mem_frB.1 ha).2] at this; cases this
  rw [List.perm_ext_iff_of_nodup (frB_nodup _) hd]
  intro a
  rw [List.mem_append, mem_frB, mem_frB, mem_stB]
  by_cases ha : a < 32
  · unfold bkn
    rw [chg_bit (bkn_lower m k) ha, Nat.testBit_and, low_bit m a ha, Nat.testBit_xor, show (18446744073709551615 : Nat) = 2 ^ 64 - 1 by decide, Nat.testBit_two_pow_sub_one]
    have h64 : a < 64 := by omega
    cases m.testBit a <;> cases k.testBit a <;> simp [ha, h64]
  · simp [ha]
-- words
theorem mem_frW {k m x : Nat} : x ∈ frW k m ↔ x / 32 = k ∧ m.testBit (x % 32) = false := by
  unfold frW
  rw [List.mem_map]
  constructor
  · rintro ⟨i, hi, rfl⟩
    obtain ⟨h1, h2⟩ := mem_frB.1 hi
    have e1 : (32 * k + i) / 32 = k := by omega
    have e2 : (32 * k + i) % 32 = i := by omega
    rw [e1, e2]
    exact ⟨rfl, h2⟩
  · rintro ⟨h1, h2⟩
    exact ⟨x % 32, mem_frB.2 ⟨by omega, h2⟩, by omega⟩
theorem mem_stW {k m x : Nat} : x ∈ stW k m ↔ x / 32 = k ∧ m.testBit (x % 32) = true := by
  unfold stW
  rw [List.mem_map]
  constructor
  · rintro ⟨i, hi, rfl⟩
    obtain ⟨h1, h2⟩ := mem_stB.1 hi
    have e1 : (32 * k + i) / 32 = k := by omega
    have e2 : (32 * k + i) % 32 = i := by omega
    rw [e1, e2]
    exact ⟨rfl, h2⟩
  · rintro ⟨h1, h2⟩
    exact ⟨x % 32, mem_stB.2 ⟨by omega, h2⟩, by omega⟩
theorem mem_frL {x : Nat} : ∀ {l : List Nat} {k : Nat}, x ∈ frL k l ↔ ∃ (i m : Nat), l[i]? = some m ∧ x / 32 = k + i ∧ m.testBit (x % 32) = false
  | [], k => by simp [frL]
  | y :: l, k => by
    rw [frL, List.mem_append, mem_frW, mem_frL (l := l)]
    constructor
    · rintro (⟨h1, h2⟩ | ⟨i, m, h1, h2, h3⟩)
      · exact ⟨0, y, rfl, by omega, h2⟩
      · exact ⟨i + 1, m, by simpa using h1, by omega, h3⟩
    · rintro ⟨i, m, h1, h2, h3⟩
      cases i with
      | zero =>
        simp only [List.getElem?_cons_zero, Option.some.injEq] at h1
        subst h1
        exact .inl ⟨by omega, h3⟩
      | succ i => exact .inr ⟨i, m, by simpa using h1, by omega, h3⟩
theorem frW_nodup (k m : Nat) : (frW k m).Nodup := by
  unfold frW List.Nodup
  rw [List.pairwise_map]
  exact (frB_nodup m).imp (fun h e => h (by omega))
/-- one word is another one: what is free there changes -/
theorem frL_set : ∀ {l : List Nat} {k i m : Nat} (m' : Nat), l[i]? = some m → ∃ R, (frL k l).Perm (frW (k + i) m ++ R) ∧ (frL k (l.set i m')).Perm (frW (k + i) m' ++ R)
  | [], k, i, m, m', h => by simp at h
  | y :: l, k, 0, m, m', h => by
    simp only [List.getElem?_cons_zero, Option.some.injEq] at h
    subst h
    exact ⟨frL (k + 1) l, .refl _, .refl _⟩
  | y :: l, k, i + 1, m, m', h => by
    simp only [List.getElem?_cons_succ] at h
    obtain ⟨R, h1, h2⟩ := frL_set (k := k + 1) m' h
    refine ⟨frW k y ++ R, ?_, ?_⟩
    · rw [frL, show k + (i + 1) = k + 1 + i by omega]
      refine (List.Perm.append_left _ h1).trans ?_
      rw [← List.append_assoc, ← List.append_assoc]
      exact List.Perm.append_right _ List.perm_append_comm
    · rw [List.set_cons_succ, frL, show k + (i + 1) = k + 1 + i by omega]
      refine (List.Perm.append_left _ h2).trans ?_
      rw [← List.append_assoc, ← List.append_assoc]
      exact List.Perm.append_right _ List.perm_append_comm
/-- a Take from a word -/
theorem frL_tkn {l : List Nat} {i m : Nat} (h : l[i]? = some m) (n : Nat) : (frL 0 l).Perm (((frB m).take n).map (32 * i + ·) ++ frL 0 (l.set i (tkn m n))) := by
  obtain ⟨R, h1, h2⟩ := frL_set (k := 0) (tkn m n) h
  rw [Nat.zero_add] at h1 h2
  refine h1.trans ?_
  have e : frW i m = ((frB m).take n).map (32 * i + ·) ++ frW i (tkn m n) := by
    unfold frW
    conv => lhs; rw [frB_tkn m n]
    rw [List.map_append]
  rw [e, List.append_assoc]
  exact List.Perm.append_left _ h2.symm
/-- a Back of a mask to a word -/
theorem frL_bkn {l : List Nat} {i m k : Nat} (h : l[i]? = some m) (hk : ∀ j, j ∈ stB k → m.testBit j = true) : (frL 0 (l.set i (bkn m k))).Perm (stW i k ++ frL 0 l) := by
  obtain ⟨R, h1, h2⟩ := frL_set (k := 0) (bkn m k) h
  rw [Nat.zero_add] at h1 h2
  refine h2.trans ?_
  have e : (frW i (bkn m k)).Perm (stW i k ++ frW i m) := by
    unfold frW stW
    rw [← List.map_append]
    exact ((frB_bkn hk).map _).trans (List.Perm.map _ List.perm_append_comm)
  refine (List.Perm.append_right R e).trans ?_
  rw [List.append_assoc]
  exact List.Perm.append_left _ h1.symm
-- what a Back gives back
def addP : List (Nat × Nat) → Nat → List (Nat × Nat)
  | [], n => [(n / 32, 2 ^ (n % 32))]
  | (w, m) :: l, n => if w = n / 32 then (w, m ||| 2 ^ (n % 32)) :: l else (w, m) :: addP l n
def leaf (l : List (Nat × Nat)) : List Nat := l.flatMap fun x => stW x.1 x.2
theorem stW_one (n : Nat) : stW (n / 32) (2 ^ (n % 32)) = [n] := by
  have h : stB (2 ^ (n % 32)) = [n % 32] := by
    have hn : n % 32 < 32 := Nat.mod_lt _ (by decide)
    generalize n % 32 = k at *
    revert k
    decide +kernel
  unfold stW
  rw [h]
  simp
  omega
theorem stW_nodup (k m : Nat) : (stW k m).Nodup := by
  unfold stW List.Nodup
  rw [List.pairwise_map]
  exact (stB_nodup m).imp (fun h e => h (by omega))
theorem stW_or {m n : Nat} (h : n ∉ stW (n / 32) m) : (stW (n / 32) (m ||| 2 ^ (n % 32))).Perm (n :: stW (n / 32) m) := by
  rw [List.perm_ext_iff_of_nodup (stW_nodup _ _) (List.nodup_cons.2 ⟨h, stW_nodup _ _⟩)]
  intro a
  rw [List.mem_cons, mem_stW, mem_stW, Nat.testBit_or, Nat.testBit_two_pow]
  by_cases e : a = n
  · subst e; simp
  · by_cases e2 : a / 32 = n / 32
    · have : ¬ n % 32 = a % 32 := fun e3 => e (by omega)
      simp [e, e2, this]
    · simp [e, e2]
theorem addP_perm : ∀ {l : List (Nat × Nat)} {n : Nat}, n ∉ leaf l → (leaf (addP l n)).Perm (n :: leaf l)
  | [], n, _ => by
    unfold leaf addP
    simp only [List.flatMap_cons, List.flatMap_nil, stW_one]
    exact .refl _
  | (w, m) :: l, n, h => by
    have h1 : leaf ((w, m) :: l) = stW w m ++ leaf l := rfl
    rw [h1, List.mem_append, not_or] at h
    rw [h1, addP]
    by_cases e : w = n / 32
    · subst e
      rw [if_pos rfl]
      exact List.Perm.append_right _ (stW_or h.1)
    · rw [if_neg e]
      have h2 : leaf ((w, m) :: addP l n) = stW w m ++ leaf (addP l n) := rfl
      rw [h2]
      refine (List.Perm.append_left _ (addP_perm h.2)).trans ?_
      exact List.perm_middle
def addL (l : List (Nat × Nat)) (ns : List Nat) : List (Nat × Nat) := ns.foldl addP l
theorem addL_perm : ∀ {ns : List Nat} {l : List (Nat × Nat)}, (leaf l ++ ns).Nodup → (leaf (addL l ns)).Perm (leaf l ++ ns)
  | [], l, _ => by rw [List.append_nil]; exact .refl _
  | n :: ns, l, h => by
    have hn : n ∉ leaf l := fun hm => by
      rw [List.nodup_append] at h
      exact h.2.2 n hm n (by simp) rfl
    have hp := addP_perm hn
    have h2 : (leaf (addP l n) ++ ns).Perm (leaf l ++ n :: ns) := (List.Perm.append_right _ hp).trans (by
      rw [List.cons_append]
      exact List.perm_middle.symm)
    exact (addL_perm (l := addP l n) (h2.nodup_iff.2 h)).trans h2
/-- words that a Back may give back to -/
structure PtOk (nw : Nat) (l : List (Nat × Nat)) : Prop where
  nd : (l.map (·.1)).Nodup
  w : ∀ x, x ∈ l → x.1 < nw
  m : ∀ x, x ∈ l → 0 < x.2 ∧ x.2 < 4294967296
theorem addP_fst : ∀ (l : List (Nat × Nat)) (n : Nat), (addP l n).map (·.1) = if n / 32 ∈ l.map (·.1) then l.map (·.1) else l.map (·.1) ++ [n / 32]
  | [], n => by simp [addP]
  | (w, m) :: l, n => by
    rw [addP]
    by_cases e : w = n / 32
    · rw [if_pos e]; simp [e]
    · have e' : ¬ n / 32 = w := fun h => e h.symm
      rw [if_neg e, List.map_cons, addP_fst l n, List.map_cons]
      by_cases h2 : n / 32 ∈ l.map (·.1)
      · rw [if_pos h2, if_pos (by simp only [List.mem_cons]; exact .inr h2)]
      · rw [if_neg h2, if_neg (by simp only [List.mem_cons, not_or]; exact ⟨e', h2⟩)]; rfl
theorem mem_addP : ∀ {l : List (Nat × Nat)} {n : Nat} {x : Nat × Nat}, x ∈ addP l n → x ∈ l ∨ x = (n / 32, 2 ^ (n % 32)) ∨ ∃ m, (n / 32, m) ∈ l ∧ x = (n / 32, m ||| 2 ^ (n % 32))
  | [], n, x, h => by
    rw [addP, List.mem_singleton] at h
    exact .inr (.inl h)
  | (w, m) :: l, n, x, h => by
    rw [addP] at h
    by_cases e : w = n / 32
    · rw [if_pos e] at h
      subst e
      rcases List.mem_cons.1 h with rfl | h
      · exact .inr (.inr ⟨m, by simp, rfl⟩)
      · exact .inl (by simp [h])
    · rw [if_neg e] at h
      rcases List.mem_cons.1 h with rfl | h
      · exact .inl (by simp)
      · rcases mem_addP h with h | h | ⟨k, h1, h2⟩
        · exact .inl (by simp [h])
        · exact .inr (.inl h)
        · exact .inr (.inr ⟨k, by simp [h1], h2⟩)
theorem bit32 (n : Nat) : 0 < 2 ^ (n % 32) ∧ 2 ^ (n % 32) < 4294967296 := ⟨Nat.two_pow_pos _, by
  have : n % 32 < 32 := Nat.mod_lt _ (by decide)
  have h2 := Nat.pow_lt_pow_right (a := 2) (by decide) this
  exact h2⟩
theorem PtOk.add {nw : Nat} {l : List (Nat × Nat)} (h : PtOk nw l) {n : Nat} (hn : n / 32 < nw) : PtOk nw (addP l n) := by
  have hb := bit32 n
  refine ⟨?_, fun x hx => ?_, fun x hx => ?_⟩
  · rw [addP_fst]
    split
    · exact h.nd
    · rename_i h2
      rw [List.nodup_append]
      exact ⟨h.nd, by simp, fun a ha b hb e => h2 (by rw [List.mem_singleton] at hb; rw [← hb, ← e]; exact ha)⟩
  · rcases mem_addP hx with h1 | rfl | ⟨m, h1, rfl⟩
    · exact h.w x h1
    · exact hn
    · exact hn
  · rcases mem_addP hx with h1 | rfl | ⟨m, h1, rfl⟩
    · exact h.m x h1
    · exact hb
    · obtain ⟨h2, h3⟩ := h.m _ h1
      refine ⟨Nat.lt_of_lt_of_le h2 Nat.left_le_or, ?_⟩
      exact Nat.or_lt_two_pow (n := 32) h3 hb.2
theorem PtOk.adds {nw : Nat} : ∀ {ns : List Nat} {l : List (Nat × Nat)}, PtOk nw l → (∀ n, n ∈ ns → n / 32 < nw) → PtOk nw (addL l ns)
  | [], _, h, _ => h
  | n :: ns, l, h, hn => PtOk.adds (l := addP l n) (h.add (hn n (by simp))) (fun x hx => hn x (by simp [hx]))
theorem PtOk.nil (nw : Nat) : PtOk nw [] := ⟨List.nodup_nil, (fun x hx => by cases hx), (fun x hx => by cases hx)⟩
theorem PtOk.tail {nw : Nat} {x : Nat × Nat} {l : List (Nat × Nat)} (h : PtOk nw (x :: l)) : PtOk nw l :=
  ⟨(List.nodup_cons.1 h.nd).2, fun y hy => h.w y (by simp [hy]), fun y hy => h.m y (by simp [hy])⟩
theorem PtOk.len {nw : Nat} {l : List (Nat × Nat)} (h : PtOk nw l) : l.length ≤ nw := by
  have h1 : (l.map (·.1)).length ≤ (List.range nw).length := by
    refine h.nd.length_le_of_subset fun a ha => ?_
    obtain ⟨x, hx, rfl⟩ := List.mem_map.1 ha
    exact List.mem_range.2 (h.w x hx)
  simpa using h1
end Go.Proofs.YtilhkhnjloplfaaGreatDoor
namespace Go.Proofs.YtilhkhnjloplfaaGreatDoor
set_option linter.unusedVariables false
set_option linter.unusedSimpArgs false
open Go.RowKit
variable {α : Type}
/-- the cells of an element, in a row -/
theorem flat_at {cs : α → List Value} {sz : Nat} (hs : ∀ x, (cs x).length = sz) : ∀ (l : List α) (j f : Nat) (x : α), l[j]? = some x → f < sz → (l.flatMap cs)[j * sz + f]? = (cs x)[f]?
  | [], j, f, x, h, _ => by simp at h
  | y :: l, 0, f, x, h, hf => by
      simp only [List.getElem?_cons_zero, Option.some.injEq] at h
      subst h
      rw [List.flatMap_cons, Nat.zero_mul, Nat.zero_add, List.getElem?_append_left (by rw [hs]; omega)]
  | y :: l, j + 1, f, x, h, hf => by
      simp only [List.getElem?_cons_succ] at h
      rw [List.flatMap_cons, List.getElem?_append_right (by rw [hs, Nat.add_mul]; omega)]
      have := flat_at hs l j f x h hf
      rw [hs]
      rw [show (j + 1) * sz + f - sz = j * sz + f by rw [Nat.add_mul]; omega]
      exact this
theorem flat_len {cs : α → List Value} {sz : Nat} (hs : ∀ x, (cs x).length = sz) : ∀ (l : List α), (l.flatMap cs).length = l.length * sz
  | [] => by simp
  | y :: l => by rw [List.flatMap_cons, List.length_append, hs, flat_len hs l, List.length_cons, Nat.add_mul]; omega
theorem flat_split {cs : α → List Value} {sz : Nat} (hs : ∀ x, (cs x).length = sz) (h0 : 0 < sz) (l : List α) (j : Nat) (u : Value) (h : (l.flatMap cs)[j]? = some u) : ∃ x, l[j / sz]? = some x ∧ (cs x)[j % sz]? = some u := by
  have hj : j < l.length * sz := by
    obtain ⟨h1, _⟩ := List.getElem?_eq_some_iff.1 h
    rwa [flat_len hs] at h1
  have hd : j / sz < l.length := Nat.div_lt_of_lt_mul (by rw [Nat.mul_comm]; exact hj)
  refine ⟨l[j / sz], List.getElem?_eq_getElem hd, ?_⟩
  have := flat_at hs l (j / sz) (j % sz) _ (List.getElem?_eq_getElem hd) (Nat.mod_lt _ h0)
  rw [show j / sz * sz + j % sz = j by rw [Nat.mul_comm]; exact Nat.div_add_mod j sz] at this
  rw [← this, h]
/-- the slice (A, n) holds the elements l, below block B -/
structure RdT (cs : α → List Value) (sz : Nat) (w : World) (B : Nat) (A : Option Addr) (n : Nat) (l : List α) : Prop where
  len : l.length = n
  cel : 0 < n → ∃ b o, A = some ⟨b, o, none⟩ ∧ b < B ∧ ∀ j x, l[j]? = some x → ∀ f u, (cs x)[f]? = some u → w.cell? ⟨b, o + j * sz + f, none⟩ = some u
section
variable {cs : α → List Value} {sz : Nat} {w w' : World} {B B' n : Nat} {A : Option Addr} {l : List α}
theorem RdT.nil (cs : α → List Value) (sz : Nat) (w : World) (B : Nat) (A : Option Addr) : RdT cs sz w B A 0 [] := ⟨rfl, fun h => absurd h (by omega)⟩
theorem RdT.keep (h : RdT cs sz w B A n l) (hk : ∀ p : Addr, p.block < B → w'.cell? p = w.cell? p) : RdT cs sz w' B A n l :=
  ⟨h.len, fun hn => by
    obtain ⟨b, o, e, hb, hc⟩ := h.cel hn
    exact ⟨b, o, e, hb, fun j x hj f u hu => (hk _ hb).trans (hc j x hj f u hu)⟩⟩
theorem RdT.below (h : RdT cs sz w B A n l) (hb : Below B w w') : RdT cs sz w' B A n l := h.keep fun _ hp => hb.cell hp
theorem RdT.more (h : RdT cs sz w B A n l) (hB : B ≤ B') : RdT cs sz w B' A n l :=
  ⟨h.len, fun hn => by
    obtain ⟨b, o, e, hb, hc⟩ := h.cel hn
    exact ⟨b, o, e, by omega, hc⟩⟩
/-- a block that was just laid, with exactly these cells -/
theorem RdT.new (hs : ∀ x, (cs x).length = sz) (w : World) (t : TypeId) (l : List α) (a : Array Value) (ha : a = (l.flatMap cs).toArray) (n : Nat) (hn : l.length = n) :
    RdT cs sz (w.alloc (.cells a t)) (w.heap.size + 1) (some ⟨w.heap.size, 0, none⟩) n l := by
  subst ha
  refine ⟨hn, fun h0 => ⟨_, 0, rfl, by omega, fun j x hj f u hu => ?_⟩⟩
  rw [cell_of_row _ _ _ _ _ _ (heap_alloc_new w _)]
  have hf : f < sz := by rw [← hs x]; exact (List.getElem?_eq_some_iff.1 hu).1
  have := flat_at hs l j f x hj hf
  rw [Nat.zero_add]
  simp only [List.getElem?_toArray]
  rw [this, hu]
end
/-- a row of the call's own that holds the elements l -/
structure OwnT (cs : α → List Value) (sz : Nat) (e : TypeId) (w : World) (base : Nat) (v : Value) (l : List α) : Prop where
  row : w.ownsRow base e sz v l.length (l.flatMap cs)
section
variable {cs : α → List Value} {sz : Nat} {w w' : World} {e : TypeId} {base : Nat} {v : Value} {l : List α}
theorem OwnT.nil (cs : α → List Value) (sz : Nat) (e : TypeId) (w : World) (base : Nat) : OwnT cs sz e w base (.slice none 0 0) [] := ⟨World.ownsRow_nil w base e sz⟩
theorem OwnT.form (h : OwnT cs sz e w base v l) {n : Nat} (hn : l.length = n) : ∃ A c, v = .slice A n c ∧ n ≤ c ∧ c ≤ maxLen := by
  subst hn
  rcases h.row.2 with ⟨rfl, h0⟩ | ⟨g, cap, cur, rfl, hg, hh, hnc, hcm, hcs, hx⟩
  · rw [h0]; exact ⟨none, 0, rfl, Nat.le_refl _, Nat.zero_le _⟩
  · exact ⟨_, cap, rfl, hnc, hcm⟩
theorem OwnT.formG (h : OwnT cs sz e w base v l) {n : Nat} (hn : l.length = n) (h0 : 0 < n) :
    ∃ g c, v = .slice (some ⟨g, 0, none⟩) n c ∧ n ≤ c ∧ c ≤ maxLen ∧ base ≤ g ∧ g < w.heap.size ∧ ∃ cur, w.heap[g]? = some (.cells cur e (0, 0)) := by
  subst hn
  rcases h.row.2 with ⟨rfl, h1⟩ | ⟨g, cap, cur, rfl, hg, hh, hnc, hcm, hcs, hx⟩
  · omega
  · exact ⟨g, cap, rfl, hnc, hcm, hg, (h.row.lt g rfl).2, cur, hh⟩
theorem OwnT.lt (h : OwnT cs sz e w base v l) : ∀ g, v.ownBlock = some g → base ≤ g ∧ g < w.heap.size := h.row.lt
theorem OwnT.keep (h : OwnT cs sz e w base v l) {row : Option Nat} (hg : w.grownBy w' row) (hne : v.ownBlock = none ∨ v.ownBlock ≠ row) : OwnT cs sz e w' base v l := ⟨h.row.kept hg hne⟩
theorem OwnT.drew (h : OwnT cs sz e w base v l) : OwnT cs sz e w.drew base v l := ⟨h.row⟩
theorem OwnT.below (h : OwnT cs sz e w base v l) (hb : Below w.heap.size w w') : OwnT cs sz e w' base v l := by
  refine h.keep (row := none) ⟨hb.os, hb.tape, hb.output, hb.size, fun k hk _ => hb.block k hk⟩ ?_
  cases hv : v.ownBlock
  · exact .inl rfl
  · exact .inr (by simp)
theorem OwnT.upd {S : Nat → Prop} (h : OwnT cs sz e w base v l) (hu : Upd S w w') (hS : ∀ g, v.ownBlock = some g → ¬ S g) : OwnT cs sz e w' base v l := by
  refine ⟨h.row.1, ?_⟩
  rcases h.row.2 with hn | ⟨g, cap, cur, rfl, hb, hgg, rest⟩
  · exact .inl hn
  · refine .inr ⟨g, cap, cur, rfl, hb, ?_, rest⟩
    rw [hu.block g (Array.getElem?_eq_some_iff.1 hgg).1 (hS g rfl)]
    exact hgg
theorem OwnT.at_ {g n c : Nat} (hs : ∀ x, (cs x).length = sz) (h : OwnT cs sz e w base (.slice (some ⟨g, 0, none⟩) n c) l) {j : Nat} {x : α} (hj : l[j]? = some x) {f : Nat} {u : Value} (hu : (cs x)[f]? = some u) :
    w.cell? ⟨g, j * sz + f, none⟩ = some u := by
  have hf : f < sz := by rw [← hs x]; exact (List.getElem?_eq_some_iff.1 hu).1
  have h1 := flat_at hs l j f x hj hf
  have hc := h.row.cells (g := g) rfl (j * sz + f) u (by rw [h1, hu])
  rw [← hc]
  unfold Addr.add
  split <;> simp_all
theorem OwnT.rd (hs : ∀ x, (cs x).length = sz) (h : OwnT cs sz e w base v l) {n c : Nat} {A : Option Addr} (hv : v = .slice A n c) (hn : l.length = n) : RdT cs sz w w.heap.size A n l := by
  refine ⟨hn, fun h0 => ?_⟩
  obtain ⟨g, c', h1, _, _, _, h2, _⟩ := h.formG hn h0
  rw [h1] at hv
  simp only [Value.slice.injEq] at hv
  refine ⟨g, 0, hv.1.symm, h2, fun j x hj f u hu => ?_⟩
  subst h1
  rw [Nat.zero_add]
  exact h.at_ hs hj hu
end
section
variable {P : Program} {cs : α → List Value} {sz : Nat}
/-- 'append(own, src...)': the source is a slice that reads as a list, nil or not -/
theorem run_appT (hs : ∀ x, (cs x).length = sz) (h1c : ∀ x, ∀ u ∈ cs x, u.oneCell' = true) (hsz : 0 < sz) (w : World) (base : Nat) (t ty e : TypeId) (i : TypeInfo) (z : Value) (bytes : Nat) (ht : P.underlying t = some (.slice e)) (hi : P.info? e = some i) (hz : i.zero = some z)
    (hsize : i.size = sz) (hby : i.bytes = bytes) (hzs : z.cells.size = sz) (v : Value) (l : List α) (hown : OwnT cs sz e w base v l)
    (B : Nat) (A : Option Addr) (m c : Nat) (l2 : List α) (hr : RdT cs sz w B A m l2) (hlen : (l.length + m) * bytes ≤ 140737488355328) (hbp : 0 < bytes) (hbase : base ≤ w.heap.size) :
    ∃ v' w', (Builtin.append_ #[t, t] ty #[v, .slice A m c]).run P w = .ok v' w' ∧ OwnT cs sz e w' base v' (l ++ l2) ∧ w.grownBy w' v.ownBlock ∧ (v'.ownBlock = v.ownBlock ∨ v'.ownBlock = some w.heap.size) := by
  have hl := hr.len
  have h63 : l.length + m ≤ maxLen := by
    have := Nat.le_mul_of_pos_right (l.length + m) hbp
    unfold maxLen; omega
  have main : ∀ ad : Addr, (∀ j u, (l2.flatMap cs)[j]? = some u → w.cell? (ad.add j) = some u) → ∃ v' w', (Builtin.append_ #[t, t] ty #[v, .slice (some ad) m c]).run P w = .ok v' w' ∧ OwnT cs sz e w' base v' (l ++ l2) ∧ w.grownBy w' v.ownBlock ∧ (v'.ownBlock = v.ownBlock ∨ v'.ownBlock = some w.heap.size) := by
    intro ad hc
    obtain ⟨v', w', h1, h2, h3, _, h5⟩ := run_append_own_at (P := P) w base t ty e i z sz bytes ht hi hz hsize hby hzs hsz v l.length (l.flatMap cs) hown.row ad m c (l2.flatMap cs) (by rw [flat_len hs, hl]) hc
      (by intro u hu; obtain ⟨x, _, hx⟩ := List.mem_flatMap.1 hu; exact h1c x u hx) h63 hlen hbase
    exact ⟨v', w', h1, ⟨by rw [List.length_append, List.flatMap_append, hl]; exact h2⟩, h3, h5⟩
  rcases Nat.eq_zero_or_pos m with h0 | h0
  · subst h0
    have e2 : l2 = [] := List.length_eq_zero_iff.mp hl
    subst e2
    cases A with
    | some ad => exact main ad (by simp)
    | none =>
      refine ⟨v, w, ?_, by simpa using hown, World.grownBy.refl w _, .inl rfl⟩
      rcases hown.row.2 with ⟨rfl, h⟩ | ⟨g, cap, cur, rfl, _, _, hnc, _⟩
      · simp [Builtin.append_, run_underlying ht, sizeOf, typeInfo, hi, Builtin.lenOf, Builtin.firstCells]
      · simp [Builtin.append_, run_underlying ht, sizeOf, typeInfo, hi, Builtin.lenOf, Builtin.firstCells, hnc, storeCells]
  · obtain ⟨b, o, rfl, hb, hc⟩ := hr.cel h0
    refine main ⟨b, o, none⟩ fun j u hu => ?_
    obtain ⟨x, hx, hu2⟩ := flat_split hs hsz l2 j u hu
    have := hc _ x hx _ u hu2
    rw [← this]
    have e1 : o + j / sz * sz + j % sz = o + j := by
      have := Nat.div_add_mod j sz
      rw [Nat.mul_comm] at this; omega
    rw [e1]
    unfold Addr.add
    split
    · rename_i h; subst h; simp
    · rfl
end
end Go.Proofs.YtilhkhnjloplfaaGreatDoor
namespace Go.Proofs.YtilhkhnjloplfaaGreatDoor
set_option linter.unusedVariables false
set_option linter.unusedSimpArgs false
open Go.RowKit
variable {α : Type} {P : Program} {cs : α → List Value} {sz : Nat}
theorem wp_appT (hs : ∀ x, (cs x).length = sz) (h1c : ∀ x, ∀ u ∈ cs x, u.oneCell' = true) (hsz : 0 < sz) {o : Oper} {a : Act} {K : Act → World → Prop} {Q : Exit → Act → World → Prop} (w : World) (s x : Operand) (t : TypeId)
    (ho : o.op = .call { callee := .builtin .append, args := #[s, x], argTypes := #[t, t] })
    (base : Nat) (e : TypeId) (i : TypeInfo) (z : Value) (bytes : Nat) (ht : P.underlying t = some (.slice e)) (hi : P.info? e = some i) (hz : i.zero = some z)
    (hsize : i.size = sz) (hby : i.bytes = bytes) (hzs : z.cells.size = sz) (v : Value) (hsv : a.eval s = v) (l : List α) (hown : OwnT cs sz e w base v l)
    (B : Nat) (A : Option Addr) (m c : Nat) (hx : a.eval x = .slice A m c) (l2 : List α) (hr : RdT cs sz w B A m l2) (hlen : (l.length + m) * bytes ≤ 140737488355328) (hbp : 0 < bytes) (hbase : base ≤ w.heap.size)
    (h : ∀ v' w', OwnT cs sz e w' base v' (l ++ l2) → w.grownBy w' v.ownBlock → (v'.ownBlock = v.ownBlock ∨ v'.ownBlock = some w.heap.size) → K (a.put o.dst v') w') : o.wp P a w K Q := by
  obtain ⟨v', w', hrun, h2, h3, h4⟩ := run_appT (P := P) hs h1c hsz w base t o.type e i z bytes ht hi hz hsize hby hzs v l hown B A m c l2 hr hlen hbp hbase
  unfold Oper.wp execOp
  simp only [ho, resolve, invoke, builtin, Sem.run_bind, Sem.run_pure, Result.andThen_ok, List.map_toArray, List.map_cons, List.map_nil, hsv, hx, hrun]
  exact h v' w' h2 h3 h4
end Go.Proofs.YtilhkhnjloplfaaGreatDoor
namespace Go.Proofs.YtilhkhnjloplfaaGreatDoor
set_option linter.unusedVariables false
set_option linter.unusedSimpArgs false
open Go.RowKit
variable {α : Type} {P : Program}
theorem run_load_at {w : World} {g o : Nat} {ty : TypeId} {cs : List Value} (h : ∀ j u, cs[j]? = some u → w.cell? ⟨g, o + j, none⟩ = some u) {fs : Array Field} (hu : P.underlying ty = some (.struct fs)) (hi : (P.info? ty).map (·.size) = some cs.length) :
    (loadVar ty ⟨g, o, none⟩).run P w = .ok (.agg cs.toArray) w := by
  have hl : (loadCells ⟨g, o, none⟩ cs.length).run P w = .ok cs.toArray w :=
    run_loadCells_list (P := P) w ⟨g, o, none⟩ cs (fun j v hv => by
      have hadd : (⟨g, o, none⟩ : Addr).add j = ⟨g, o + j, none⟩ := by unfold Addr.add; split <;> simp_all
      rw [hadd]; exact h j v hv)
  cases hq : P.info? ty with
  | none => simp [hq] at hi
  | some i =>
    have hs : i.size = cs.length := by simpa [hq] using hi
    have hagg : (isAgg ty).run P w = .ok true w := by
      unfold isAgg
      rw [Sem.run_bind, run_underlying hu w]
      simp
    simp [loadVar, Sem.run_bind, hagg, sizeOf, typeInfo, hq, hs, hl]
theorem wpList_ldAt {ops : Array Oper} {Q : Exit → Act → World → Prop} {a : Act} {w : World} {rest : List Oper} {o : Oper} (hg : o.guard = none) {t : TypeId} {p : Operand} (ho : o.op = .load t p) {g i : Nat} (hp : a.eval p = .pointer (some ⟨g, i, none⟩)) {cs : List Value}
    (hc : ∀ j u, cs[j]? = some u → w.cell? ⟨g, i + j, none⟩ = some u) {fs : Array Field} (hu : P.underlying t = some (.struct fs)) (hi : (P.info? t).map (·.size) = some cs.length) (h : wpList P ops Q rest (a.put o.dst (.agg cs.toArray)) w) : wpList P ops Q (o :: rest) a w := by
  refine wpList_plain hg fun K hK => ?_
  have hr : (execOp a.eval o).run P w = .ok (.value (.agg cs.toArray)) w := by
    have h2 := run_load_at (P := P) hc hu hi
    simp only [execOp, ho, hp, Instr.loadAt, Instr.sureAddr, Sem.run_bind, Sem.run_pure, Result.andThen, h2]
  unfold Oper.wp
  rw [hr, Oper.upon_value]
  exact hK _ _ h
theorem flat_set {cs : α → List Value} {sz : Nat} (hs : ∀ x, (cs x).length = sz) : ∀ (l : List α) (j f : Nat) (x x' : α) (u : Value), l[j]? = some x → f < sz → cs x' = (cs x).set f u → (l.set j x').flatMap cs = (l.flatMap cs).set (j * sz + f) u
  | [], j, f, x, x', u, h, _, _ => by simp at h
  | y :: l, 0, f, x, x', u, h, hf, hx => by
      simp only [List.getElem?_cons_zero, Option.some.injEq] at h
      subst h
      rw [List.set_cons_zero, List.flatMap_cons, List.flatMap_cons, hx, Nat.zero_mul, Nat.zero_add, List.set_append_left _ _ (by rw [hs]; omega)]
  | y :: l, j + 1, f, x, x', u, h, hf, hx => by
      simp only [List.getElem?_cons_succ] at h
      rw [List.set_cons_succ, List.flatMap_cons, List.flatMap_cons, flat_set hs l j f x x' u h hf hx, List.set_append_right _ _ (by rw [hs, Nat.add_mul]; omega), hs]
      congr 2
      rw [Nat.add_mul]; omega
theorem OwnT.setF {cs : α → List Value} {sz : Nat} (hs : ∀ x, (cs x).length = sz) {e : TypeId} {w : World} {base g n c : Nat} {l : List α} (h : OwnT cs sz e w base (.slice (some ⟨g, 0, none⟩) n c) l) (hn : l.length = n) {j : Nat} {x x' : α} (hj : l[j]? = some x) {f : Nat} {u : Value} (hf : f < sz) (hx : cs x' = (cs x).set f u) :
    OwnT cs sz e (w.setCell ⟨g, j * sz + f, none⟩ u) base (.slice (some ⟨g, 0, none⟩) n c) (l.set j x') := by
  subst hn
  refine ⟨?_⟩
  rw [List.length_set, flat_set hs l j f x x' u hj hf hx]
  exact (h.row.stored (j * sz + f) u).1
theorem OwnT.frozen {cs : α → List Value} {sz : Nat} {e : TypeId} {w : World} {base g n c : Nat} {l : List α} (h : OwnT cs sz e w base (.slice (some ⟨g, 0, none⟩) n c) l) (hn : l.length = n) (i : Nat) : w.frozen? ⟨g, i, none⟩ = false := by
  subst hn
  exact h.row.frozenAt i
end Go.Proofs.YtilhkhnjloplfaaGreatDoor
namespace Go.Proofs.YtilhkhnjloplfaaGreatDoor
set_option linter.unusedVariables false
set_option linter.unusedSimpArgs false
open Go.RowKit
/-- the object at block g, its row at block h, reads as the list l -/
structure Cel (w : World) (g h : Nat) (l : List Int) : Prop where
  obj : ∃ o1 o2 o3, Blk w g 105 #[.slice (some ⟨h, 0, none⟩) l.length l.length, o1, o2, o3]
  row : Blk w h 126 (l.map (Value.int .u64)).toArray
  rng : ∀ x, x ∈ l → inr .u64 x
def celAt (l : List Int) (i : Int) : Int := if 0 ≤ i ∧ i < l.length then l.getD i.toNat 0 else 0
def celSet (l : List Int) (i v : Int) : List Int := if 0 ≤ i ∧ i < l.length then l.set i.toNat v else l
theorem celSet_length (l : List Int) (i v : Int) : (celSet l i v).length = l.length := by unfold celSet; split <;> simp
section
variable {w w' : World} {g h : Nat} {l : List Int}
theorem Cel.at_ (hc : Cel w g h l) {k : Nat} (hk : k < l.length) : w.cell? ⟨h, k, none⟩ = some (.int .u64 (l.getD k 0)) ∧ w.frozen? ⟨h, k, none⟩ = false ∧ (0 ≤ l.getD k 0 ∧ l.getD k 0 ≤ 18446744073709551615) := by
  refine ⟨?_, hc.row.frozen k, inr_u64 (hc.rng _ ?_)⟩
  · rw [hc.row.cell]; simp [List.getElem?_eq_getElem hk]
  · rw [List.getD_eq_getElem?_getD, List.getElem?_eq_getElem hk]; exact List.getElem_mem _
theorem Cel.head (hc : Cel w g h l) : w.cell? ⟨g, 0, none⟩ = some (.slice (some ⟨h, 0, none⟩) l.length l.length) := by
  obtain ⟨o1, o2, o3, ho⟩ := hc.obj
  rw [ho.cell]; rfl
theorem Cel.ne (hc : Cel w g h l) : g ≠ h := by
  obtain ⟨o1, o2, o3, ho⟩ := hc.obj
  exact ho.ne_ hc.row (by decide)
theorem Cel.set_ (hc : Cel w g h l) (k : Nat) {v : Int} (hv : inr .u64 v) : Cel (w.setCell ⟨h, k, none⟩ (.int .u64 v)) g h (l.set k v) := by
  obtain ⟨o1, o2, o3, ho⟩ := hc.obj
  refine ⟨⟨o1, o2, o3, ?_⟩, ?_, fun x hx => ?_⟩
  · rw [List.length_set]; exact ho.far hc.ne _
  · have := hc.row.set_ k (.int .u64 v)
    rw [List.map_set]; simpa using this
  · rcases List.mem_or_eq_of_mem_set hx with h1 | h1
    · exact hc.rng x h1
    · exact h1 ▸ hv
theorem Cel.upd {S : Nat → Prop} (hc : Cel w g h l) (hu : Upd S w w') (h1 : ¬ S g) (h2 : ¬ S h) : Cel w' g h l := by
  obtain ⟨o1, o2, o3, ho⟩ := hc.obj
  exact ⟨⟨o1, o2, o3, ho.upd hu h1⟩, hc.row.upd hu h2, hc.rng⟩
theorem Cel.bel (hc : Cel w g h l) (hb : Below w.heap.size w w') : Cel w' g h l := by
  obtain ⟨o1, o2, o3, ho⟩ := hc.obj
  exact ⟨⟨o1, o2, o3, ho.bel hb⟩, hc.row.bel hb, hc.rng⟩
theorem Cel.drewN (hc : Cel w g h l) (n : Nat) : Cel (w.drewN n) g h l := ⟨hc.obj, hc.row, hc.rng⟩
theorem Cel.drew (hc : Cel w g h l) : Cel w.drew g h l := ⟨hc.obj, hc.row, hc.rng⟩
theorem Cel.alloc (hc : Cel w g h l) (o : Obj) : Cel (w.alloc o) g h l := hc.bel ((Below.refl _ _).alloc (Nat.le_refl _) o)
end
theorem info_atomic : (Tryz.prog.info? 126).map (fun i => (i.zero, i.size, i.bytes)) = some (some (.agg #[.int .u64 0]), 1, 8) := by kernel_rfl
theorem CellsNew_yes (n : Nat) (w : World) (h1 : 1 ≤ n) (h2 : n ≤ 65536) :
    Calls Tryz.prog 19 #[.int .i64 n] w fun e w' => ∃ g h, e = .returned (.tuple #[.pointer (some ⟨g, 0, none⟩), .int .i64 0]) ∧ Below w.heap.size w w' ∧ w.heap.size ≤ g ∧ w.heap.size ≤ h ∧ Cel w' g h (List.replicate n 0) ∧ g < w'.heap.size ∧ h < w'.heap.size := by
  obtain ⟨i0, hi, hz0, hz1, hz2⟩ := info_parts info_atomic
  have hmk := fun W => make_one (P := Tryz.prog) 92 126 i0 _ Tryz.underlying92 hi hz0 hz1 rfl .i64 .i64 n (by rw [hz2]; omega) (by omega) W
  have hd : decide ((n : Int) < 1) = false := by simp; omega
  have hd2 : decide (65536 < (n : Int)) = false := by simp; omega
  clear hz0 hz1 hz2
  go_enter Tryz.func19, Tryz.ntmps19
  go_wp2
  go_ret2
  refine ⟨w.heap.size + 1, w.heap.size, rfl, ((Below.refl _ _).alloc (Nat.le_refl _) _).alloc (by simp) _, by omega, by omega, ⟨⟨.int .u32 0, .int .i32 0, .int .u32 0, ?_⟩, ?_, ?_⟩, by simp, by simp; omega⟩
  · have := Blk.new (w.alloc (.cells (Array.replicate n (.int .u64 0)) 126)) 105 #[.slice (some ⟨w.heap.size, 0, none⟩) n n, .int .u32 0, .int .i32 0, .int .u32 0]
    rw [List.length_replicate]; simpa using this
  · have := (Blk.new w 126 (Array.replicate n (.int .u64 0))).alloc (.cells #[.slice (some ⟨w.heap.size, 0, none⟩) n n, .int .u32 0, .int .i32 0, .int .u32 0] 105)
    rw [List.map_replicate]; simpa using this
  · intro x hx; rw [List.mem_replicate] at hx; rw [hx.2]; exact u64_inr (by omega)
theorem at_in (i : Int) (g h : Nat) (l : List Int) (w : World) (hc : Cel w g h l) (h0 : 0 ≤ i) (h1 : i < l.length) (hm : l.length ≤ 65536) :
    Calls Tryz.prog 40 #[.pointer (some ⟨g, 0, none⟩), .int .i64 i] w fun e w' => e = .returned (.pointer (some ⟨h, i.toNat, none⟩)) ∧ w = w' := by
  obtain ⟨k, rfl⟩ := Int.eq_ofNat_of_zero_le h0
  rw [Int.toNat_natCast]
  have hk : k < l.length := by omega
  have hh := hc.head
  obtain ⟨hk1, _, _⟩ := hc.at_ hk
  have hd : decide ((k : Int) < 0) = false := by simp
  have hd2 : decide ((l.length : Int) ≤ (k : Int)) = false := by simp; omega
  generalize l.length = n at *
  go_enter Tryz.func40, Tryz.ntmps40
  go_wp2
  go_ret
  exact ⟨rfl, rfl⟩
theorem at_out (i : Int) (g h : Nat) (l : List Int) (w : World) (hc : Cel w g h l) (h0 : i < 0 ∨ l.length ≤ i) :
    Calls Tryz.prog 40 #[.pointer (some ⟨g, 0, none⟩), .int .i64 i] w fun e w' => e = .returned (.pointer none) ∧ w = w' := by
  have hh := hc.head
  by_cases hd : i < 0
  · have hd1 : decide (i < 0) = true := by simpa using hd
    go_enter Tryz.func40, Tryz.ntmps40
    go_wp2
    go_ret
    exact ⟨rfl, rfl⟩
  · have hd1 : decide (i < 0) = false := by simpa using hd
    have hd2 : decide ((l.length : Int) ≤ i) = true := by simp; omega
    generalize l.length = n at *
    go_enter Tryz.func40, Tryz.ntmps40
    go_wp2
    go_ret
    exact ⟨rfl, rfl⟩
theorem ld64 {a : Addr} {x : Int} {w : World} (hc : w.cell? a = some (.int .u64 x)) : (callFunc 68 #[.pointer (some a)]).run Tryz.prog w = .ok (.value (.int .u64 x)) w :=
  run_call_load Tryz.func68 (by kernel_rfl) (by kernel_rfl) (by kernel_rfl) .u64 (by kernel_rfl) hc
theorem st64 {a : Addr} {x y : Int} {w : World} (hc : w.cell? a = some (.int .u64 x)) (hz : w.frozen? a = false) : (callFunc 65 #[.pointer (some a), .int .u64 y]).run Tryz.prog w = .ok (.value (.tuple #[])) (w.setCell a (.int .u64 y)) :=
  run_call_store Tryz.func65 (by kernel_rfl) (by kernel_rfl) (by kernel_rfl) (by kernel_rfl) hc hz
theorem cas_hit {a : Addr} {x y : Int} {w : World} (hc : w.cell? a = some (.int .u64 x)) (hz : w.frozen? a = false) : (callFunc 70 #[.pointer (some a), .int .u64 x, .int .u64 y]).run Tryz.prog w = .ok (.value (.bool true)) (w.setCell a (.int .u64 y)) :=
  run_call_cas_hit Tryz.func70 (by kernel_rfl) (by kernel_rfl) (by kernel_rfl) .u64 (by kernel_rfl) hc hz
theorem cas_miss {a : Addr} {x o y : Int} {w : World} (hc : w.cell? a = some (.int .u64 x)) (hz : w.frozen? a = false) (hne : ¬ x = o) : (callFunc 70 #[.pointer (some a), .int .u64 o, .int .u64 y]).run Tryz.prog w = .ok (.value (.bool false)) w :=
  run_call_cas_miss Tryz.func70 (by kernel_rfl) (by kernel_rfl) (by kernel_rfl) .u64 (by kernel_rfl) hc hz hne
theorem Load_m (a : Addr) (x : Int) (w : World) (hc : w.cell? a = some (.int .u64 x)) :
    Calls Tryz.prog 48 #[.pointer (some a)] w fun e w' => e = .returned (.int .u64 x) ∧ w = w' := by
  have hl := ld64 hc
  obtain ⟨b, o, s⟩ := a
  obtain rfl : s = none := World.cell?_spot hc
  go_enter Tryz.func48, Tryz.ntmps48
  go_wp2
  go_ret
  exact ⟨rfl, rfl⟩
theorem Store_m (a : Addr) (x y : Int) (w : World) (hc : w.cell? a = some (.int .u64 x)) (hz : w.frozen? a = false) :
    Calls Tryz.prog 41 #[.pointer (some a), .int .u64 y] w fun e w' => e = .returned (.tuple #[]) ∧ w.setCell a (.int .u64 y) = w' := by
  have hl := st64 (y := y) hc hz
  obtain ⟨b, o, s⟩ := a
  obtain rfl : s = none := World.cell?_spot hc
  go_enter Tryz.func41, Tryz.ntmps41
  go_wp2
  go_end0
  exact ⟨rfl, rfl⟩
theorem Cas_hit_m (a : Addr) (x y : Int) (w : World) (hc : w.cell? a = some (.int .u64 x)) (hz : w.frozen? a = false) :
    Calls Tryz.prog 50 #[.pointer (some a), .int .u64 x, .int .u64 y] w fun e w' => e = .returned (.bool true) ∧ w.setCell a (.int .u64 y) = w' := by
  have hl := cas_hit (y := y) hc hz
  obtain ⟨b, o, s⟩ := a
  obtain rfl : s = none := World.cell?_spot hc
  go_enter Tryz.func50, Tryz.ntmps50
  go_wp2
  go_ret
  exact ⟨rfl, rfl⟩
theorem Cas_miss_m (a : Addr) (x o y : Int) (w : World) (hc : w.cell? a = some (.int .u64 x)) (hz : w.frozen? a = false) (hne : ¬ x = o) :
    Calls Tryz.prog 50 #[.pointer (some a), .int .u64 o, .int .u64 y] w fun e w' => e = .returned (.bool false) ∧ w = w' := by
  have hl := cas_miss (y := y) hc hz hne
  obtain ⟨b, oo, s⟩ := a
  obtain rfl : s = none := World.cell?_spot hc
  go_enter Tryz.func50, Tryz.ntmps50
  go_wp2
  go_ret
  exact ⟨rfl, rfl⟩
theorem Load_any (i : Int) (g h : Nat) (l : List Int) (w : World) (hc : Cel w g h l) (hm : l.length ≤ 65536) :
    Calls Tryz.prog 26 #[.pointer (some ⟨g, 0, none⟩), .int .i64 i] w fun e w' => e = .returned (.int .u64 (celAt l i)) ∧ w = w' := by
  by_cases hi : 0 ≤ i ∧ i < l.length
  · obtain ⟨h0, h1⟩ := hi
    have hv : celAt l i = l.getD i.toNat 0 := by unfold celAt; rw [if_pos ⟨h0, h1⟩]
    rw [hv]
    obtain ⟨hk1, _, _⟩ := hc.at_ (k := i.toNat) (by omega)
    obtain ⟨x, hx⟩ : ∃ x, x = l.getD i.toNat 0 := ⟨_, rfl⟩
    rw [← hx] at hk1 ⊢
    clear hx hv
    go_enter Tryz.func26, Tryz.ntmps26
    go_wp2_with (first | (go_at_call 40; refine (at_in _ _ _ _ _ hc h0 h1 hm).mono ?_; rintro e w' ⟨rfl, rfl⟩) | (go_at_call 48; refine (Load_m _ _ _ hk1).mono ?_; rintro e w' ⟨rfl, rfl⟩))
    go_ret
    exact ⟨rfl, rfl⟩
  · have hv : celAt l i = 0 := by unfold celAt; rw [if_neg hi]
    rw [hv]
    go_enter Tryz.func26, Tryz.ntmps26
    go_wp2_with (go_at_call 40; refine (at_out _ _ _ _ _ hc (by omega)).mono ?_; rintro e w' ⟨rfl, rfl⟩)
    go_ret
    exact ⟨rfl, rfl⟩
theorem Store_any (i v : Int) (g h : Nat) (l : List Int) (w : World) (hc : Cel w g h l) (hm : l.length ≤ 65536) (hv : inr .u64 v) :
    Calls Tryz.prog 20 #[.pointer (some ⟨g, 0, none⟩), .int .i64 i, .int .u64 v] w fun e w' => e = .returned (.tuple #[]) ∧ Cel w' g h (celSet l i v) ∧ Upd (· = h) w w' := by
  by_cases hi : 0 ≤ i ∧ i < l.length
  · obtain ⟨h0, h1⟩ := hi
    have hs : celSet l i v = l.set i.toNat v := by unfold celSet; rw [if_pos ⟨h0, h1⟩]
    rw [hs]
    obtain ⟨hk1, hk2, _⟩ := hc.at_ (k := i.toNat) (by omega)
    go_enter Tryz.func20, Tryz.ntmps20
    go_wp2_with (first | (go_at_call 40; refine (at_in _ _ _ _ _ hc h0 h1 hm).mono ?_; rintro e w' ⟨rfl, rfl⟩) | (go_at_call 41; refine (Store_m _ _ _ _ hk1 hk2).mono ?_; rintro e w' ⟨rfl, rfl⟩))
    go_end0
    exact ⟨rfl, hc.set_ _ hv, Upd.one _ _ _ _⟩
  · have hs : celSet l i v = l := by unfold celSet; rw [if_neg hi]
    rw [hs]
    go_enter Tryz.func20, Tryz.ntmps20
    go_wp2_with (go_at_call 40; refine (at_out _ _ _ _ _ hc (by omega)).mono ?_; rintro e w' ⟨rfl, rfl⟩)
    go_end0
    exact ⟨rfl, hc, Upd.refl _ _⟩
theorem Cas_any (i o v : Int) (g h : Nat) (l : List Int) (w : World) (hc : Cel w g h l) (hm : l.length ≤ 65536) (hv : inr .u64 v) :
    Calls Tryz.prog 28 #[.pointer (some ⟨g, 0, none⟩), .int .i64 i, .int .u64 o, .int .u64 v] w fun e w' =>
      e = .returned (.bool (decide (0 ≤ i ∧ i < l.length ∧ celAt l i = o))) ∧ Cel w' g h (if 0 ≤ i ∧ i < l.length ∧ celAt l i = o then celSet l i v else l) ∧ Upd (· = h) w w' := by
  by_cases hi : 0 ≤ i ∧ i < l.length
  · obtain ⟨h0, h1⟩ := hi
    have hs : celSet l i v = l.set i.toNat v := by unfold celSet; rw [if_pos ⟨h0, h1⟩]
    have ha : celAt l i = l.getD i.toNat 0 := by unfold celAt; rw [if_pos ⟨h0, h1⟩]
    obtain ⟨hk1, hk2, _⟩ := hc.at_ (k := i.toNat) (by omega)
    by_cases he : l.getD i.toNat 0 = o
    · rw [if_pos ⟨h0, h1, ha.trans he⟩, hs, decide_eq_true (by exact ⟨h0, h1, ha.trans he⟩)]
      rw [he] at hk1
      clear ha he hs
      go_enter Tryz.func28, Tryz.ntmps28
      go_wp2_with (first | (go_at_call 40; refine (at_in _ _ _ _ _ hc h0 h1 hm).mono ?_; rintro e w' ⟨rfl, rfl⟩) | (go_at_call 50; refine (Cas_hit_m _ _ _ _ hk1 hk2).mono ?_; rintro e w' ⟨rfl, rfl⟩))
      go_ret
      exact ⟨rfl, hc.set_ _ hv, Upd.one _ _ _ _⟩
    · rw [if_neg (fun h => he (ha.symm.trans h.2.2)), decide_eq_false (fun h => he (ha.symm.trans h.2.2))]
      obtain ⟨x, hx⟩ : ∃ x, x = l.getD i.toNat 0 := ⟨_, rfl⟩
      rw [← hx] at hk1 he
      clear ha hs hx
      go_enter Tryz.func28, Tryz.ntmps28
      go_wp2_with (first | (go_at_call 40; refine (at_in _ _ _ _ _ hc h0 h1 hm).mono ?_; rintro e w' ⟨rfl, rfl⟩) | (go_at_call 50; refine (Cas_miss_m _ _ _ _ _ hk1 hk2 he).mono ?_; rintro e w' ⟨rfl, rfl⟩))
      go_ret
      exact ⟨rfl, hc, Upd.refl _ _⟩
  · rw [if_neg (fun h => hi ⟨h.1, h.2.1⟩), decide_eq_false (fun h => hi ⟨h.1, h.2.1⟩)]
    go_enter Tryz.func28, Tryz.ntmps28
    go_wp2_with (go_at_call 40; refine (at_out _ _ _ _ _ hc (by omega)).mono ?_; rintro e w' ⟨rfl, rfl⟩)
    go_ret
    exact ⟨rfl, hc, Upd.refl _ _⟩
theorem Size_any (g h : Nat) (l : List Int) (w : World) (hc : Cel w g h l) :
    Calls Tryz.prog 21 #[.pointer (some ⟨g, 0, none⟩)] w fun e w' => e = .returned (.int .i64 l.length) ∧ w = w' := by
  have hh := hc.head
  generalize l.length = n at *
  go_enter Tryz.func21, Tryz.ntmps21
  go_wp2
  go_ret
  exact ⟨rfl, rfl⟩
end Go.Proofs.YtilhkhnjloplfaaGreatDoor
namespace Go.Proofs.YtilhkhnjloplfaaGreatDoor
set_option linter.unusedVariables false
set_option linter.unusedSimpArgs false
open Go.RowKit
section
variable {P : Program} {ops : Array Oper} {Pre Post : World → Prop}
structure Closed (ops : Array Oper) (listed : Array Bool) : Prop where
  size : listed.size = ops.size
  closed : ∀ j oj, ops[j]? = some oj → listed.getD j false = true → ∀ e ∈ oj.after, Region.binds .any e = true → listed.getD e.on false = true
theorem Closed.set {listed : Array Bool} (h : Closed ops listed) {i : Nat} {o : Oper} (ho : ops[i]? = some o) (hr : Ready i o listed) : Closed ops (listed.setIfInBounds i true) := by
  refine ⟨by simp [h.size], fun j oj hj hl e he hb => ?_⟩
  by_cases hij : i = j
  · subst hij
    have : oj = o := Option.some.inj (hj.symm.trans ho)
    subst this
    exact getD_set_true (hr.2 e he hb)
  · rw [getD_set_ne false hij] at hl
    exact getD_set_true (h.closed j oj hj hl e he hb)
theorem Closed.down {listed : Array Bool} (h : Closed ops listed) {n : Nat} (hs : Region.sinkB .any ops n = true) (hn : listed.getD n false = true) : ∀ (d k : Nat), n - k = d → k < n → listed.getD k false = true := by
  intro d
  induction d using Nat.strongRecOn with
  | _ d ih =>
    intro k hd hk
    have h1 := List.all_eq_true.1 hs k (List.mem_range.2 hk)
    obtain ⟨j, hj, hj2⟩ := List.any_eq_true.1 h1
    simp only [Bool.and_eq_true, decide_eq_true_eq] at hj2
    obtain ⟨oj, hoj, e, he, hb, hon⟩ := Region.waitsFor_spec hj2.2
    have hjn : j ≤ n := by have := List.mem_range.1 hj; omega
    have hlj : listed.getD j false = true := by
      by_cases hjn' : j = n
      · rw [hjn']; exact hn
      · exact ih (n - j) (by omega) j rfl (by omega)
    have := h.closed j oj hoj hlj e he hb
    rwa [hon] at this
theorem Closed.up {listed : Array Bool} (h : Closed ops listed) {n : Nat} (hc : gateB .any ops n = true) : ∀ (k : Nat), n < k → k < ops.size → ∀ o, ops[k]? = some o → (∀ e ∈ o.after, Region.binds .any e = true → listed.getD e.on false = true) → listed.getD n false = true := by
  intro k
  induction k using Nat.strongRecOn with
  | _ k ih =>
    intro hnk hks o ho hall
    have h1 := List.all_eq_true.1 hc k (List.mem_range.2 hks)
    simp only [Bool.or_eq_true, decide_eq_true_eq] at h1
    rcases h1 with h1 | h1
    · omega
    · obtain ⟨s, hs1, hs2⟩ := List.any_eq_true.1 h1
      simp only [Bool.and_eq_true, decide_eq_true_eq] at hs2
      obtain ⟨o', ho', e, he, hb, hon⟩ := Region.waitsFor_spec hs2.2
      have : o' = o := Option.some.inj (ho'.symm.trans ho)
      subst this
      have h2 := hall e he hb
      rw [hon] at h2
      have hsk := List.mem_range.1 hs1
      by_cases hsn : s = n
      · rw [← hsn]; exact h2
      · obtain ⟨os, hos⟩ : ∃ os, ops[s]? = some os := ⟨_, Array.getElem?_eq_getElem (by omega)⟩
        exact ih s hsk (by omega) (by omega) os hos (h.closed s os hos h2)
def clsM (ops : Array Oper) (n : Nat) (Pre Post : World → Prop) (listed : Array Bool) (w : World) : Prop :=
  Closed ops listed ∧ (listed.getD n false = false → Pre w) ∧ (listed.getD n false = true → Post w)
theorem YE.pre {n k : Nat} (hs : Region.sinkB .any ops n = true) (hk : k < n) {o : Oper} (ho : ops[k]? = some o) {v : Value} {a : Act} (hy : YieldsIn P ops Pre o v a) : YE P ops (clsM ops n Pre Post) k o v a := by
  have hset : ∀ (listed : Array Bool) (w w' : World), Ready k o listed → clsM ops n Pre Post listed w → Pre w' → clsM ops n Pre Post (listed.setIfInBounds k true) w' := fun listed w w' hr hC hp => by
    have hnf : listed.getD n false = false := by
      cases hl : listed.getD n false with
      | false => rfl
      | true => have := hC.1.down hs hl _ k rfl hk; rw [getD_both hr.1] at this; cases this
    refine ⟨hC.1.set ho hr, fun _ => hp, fun h => ?_⟩
    rw [getD_set_ne false (by omega), hnf] at h
    cases h
  have hpre : ∀ (listed : Array Bool) (w : World), Ready k o listed → clsM ops n Pre Post listed w → Pre w := fun listed w hr hC => hC.2.1 (by
    cases hl : listed.getD n false with
    | false => rfl
    | true => have := hC.1.down hs hl _ k rfl hk; rw [getD_both hr.1] at this; cases this)
  rcases hy with ⟨hw, hy⟩ | ⟨hw, rfl⟩
  · refine .inl ⟨hw, fun listed w hr hC => ?_⟩
    have hp := hpre listed w hr hC
    have h3 := hy w hp
    unfold Oper.quietAt at h3
    generalize (execOp a.eval o).run P w = r at *
    cases r with
    | ok x w' =>
      cases x <;> simp only [Oper.quietUpon] at h3 <;> simp only [effUpon]
      case value u => exact ⟨h3.2, hset listed w w' hr hC (h3.1 ▸ hp)⟩
      case skip => exact ⟨h3.2, hset listed w w' hr hC (h3.1 ▸ hp)⟩
      case enter f args => rw [h3.1]; exact h3.2.mono fun e w'' ⟨he, hw''⟩ => ⟨he, hset listed w w'' hr hC hw''⟩
    | halt x w' => simp only [Oper.quietUpon] at h3
  · exact .inr ⟨hw, rfl, fun listed w hr hC => hset listed w w hr hC (hpre listed w hr hC)⟩
theorem YE.post {n k : Nat} (hc : gateB .any ops n = true) (hk : n < k) {o : Oper} (ho : ops[k]? = some o) {v : Value} {a : Act} (hy : YieldsIn P ops Post o v a) : YE P ops (clsM ops n Pre Post) k o v a := by
  have hks : k < ops.size := (Array.getElem?_eq_some_iff.1 ho).1
  have hset : ∀ (listed : Array Bool) (w w' : World), Ready k o listed → clsM ops n Pre Post listed w → Post w' → clsM ops n Pre Post (listed.setIfInBounds k true) w' := fun listed w w' hr hC hp => by
    have hnt := hC.1.up hc k hk hks o ho hr.2
    refine ⟨hC.1.set ho hr, fun h => ?_, fun _ => hp⟩
    rw [getD_set_ne false (by omega), hnt] at h
    cases h
  have hpost : ∀ (listed : Array Bool) (w : World), Ready k o listed → clsM ops n Pre Post listed w → Post w := fun listed w hr hC => hC.2.2 (hC.1.up hc k hk hks o ho hr.2)
  rcases hy with ⟨hw, hy⟩ | ⟨hw, rfl⟩
  · refine .inl ⟨hw, fun listed w hr hC => ?_⟩
    have hp := hpost listed w hr hC
    have h3 := hy w hp
    unfold Oper.quietAt at h3
    generalize (execOp a.eval o).run P w = r at *
    cases r with
    | ok x w' =>
      cases x <;> simp only [Oper.quietUpon] at h3 <;> simp only [effUpon]
      case value u => exact ⟨h3.2, hset listed w w' hr hC (h3.1 ▸ hp)⟩
      case skip => exact ⟨h3.2, hset listed w w' hr hC (h3.1 ▸ hp)⟩
      case enter f args => rw [h3.1]; exact h3.2.mono fun e w'' ⟨he, hw''⟩ => ⟨he, hset listed w w'' hr hC hw''⟩
    | halt x w' => simp only [Oper.quietUpon] at h3
  · exact .inr ⟨hw, rfl, fun listed w hr hC => hset listed w w hr hC (hpost listed w hr hC)⟩
theorem yieldsIn_of {Q : Act → Prop} {o : Oper} {rest : List Oper} {a : Act} (h : wpQuiet P ops Pre Q (o :: rest) a) : ∃ v, YieldsIn P ops Pre o v a ∧ wpQuiet P ops Pre Q rest (a.put o.dst v) := by
  unfold wpQuiet at h
  split at h
  · rename_i hw; obtain ⟨v, h1, h2⟩ := h; exact ⟨v, .inl ⟨hw, h1⟩, h2⟩
  · rename_i hw; exact ⟨undef, .inr ⟨by simpa using hw, rfl⟩, h⟩
theorem wpE_post {n : Nat} (hc : gateB .any ops n = true) {Q : Act → Prop} : ∀ (l : List Oper) (k : Nat) (a : Act), (∀ j, l[j]? = ops[k + j]?) → n < k → wpQuiet P ops Post Q l a → wpE P ops (clsM ops n Pre Post) Q k l a
  | [], _, _, _, _, h => h
  | o :: l, k, a, hl, hk, h => by
    have h0 : ops[k]? = some o := by simpa using (hl 0).symm
    obtain ⟨v, hy, hr⟩ := yieldsIn_of h
    exact ⟨v, YE.post hc hk h0 hy, wpE_post hc l (k + 1) _ (fun j => by have := hl (j + 1); simpa [Nat.add_assoc, Nat.add_comm 1 j] using this) (by omega) hr⟩
/-- the call itself -/
def MidOp (P : Program) (ops : Array Oper) (Pre Post : World → Prop) (o : Oper) (a : Act) (K : Act → Prop) : Prop :=
  Region.wanted o (yielded ops a.tmps) = true ∧ ∃ v, (∀ t : Tw Pre, ∃ f args, (execOp a.eval o).run P t.w = .ok (.enter f args) t.w ∧ Calls P f args t.w fun e w'' => e = .returned v ∧ Post w'') ∧ K (a.put o.dst v)
theorem wpE_mid {n : Nat} (hs : Region.sinkB .any ops n = true) (hc : gateB .any ops n = true) {o : Oper} (ho : ops[n]? = some o) {Q : Act → Prop} : ∀ (l l2 : List Oper) (k : Nat) (a : Act), (∀ j, (l ++ o :: l2)[j]? = ops[k + j]?) → k + l.length = n →
    wpQuiet P ops Pre (fun a' => MidOp P ops Pre Post o a' fun a2 => wpQuiet P ops Post Q l2 a2) l a → wpE P ops (clsM ops n Pre Post) Q k (l ++ o :: l2) a
  | [], l2, k, a, hl, hk, h => by
    obtain rfl : k = n := by simpa using hk
    obtain ⟨hw, v, h1, h2⟩ := h
    refine ⟨v, .inl ⟨hw, fun listed w hr hC => ?_⟩, wpE_post hc l2 (k + 1) _ (fun j => by have := hl (j + 1); simpa [Nat.add_assoc, Nat.add_comm 1 j] using this) (by omega) h2⟩
    obtain ⟨f, args, hx, hcall⟩ := h1 ⟨w, hC.2.1 (getD_both hr.1)⟩
    have hx' : (execOp a.eval o).run P w = .ok (.enter f args) w := hx
    rw [hx']
    simp only [effUpon]
    refine hcall.mono fun e w'' ⟨he, hp⟩ => ⟨he, hC.1.set ho hr, fun h => ?_, fun _ => hp⟩
    have hks : k < listed.size := by rw [hC.1.size]; exact (Array.getElem?_eq_some_iff.1 ho).1
    have : (listed.setIfInBounds k true).getD k false = true := by simp [hks]
    rw [this] at h; cases h
  | o' :: l, l2, k, a, hl, hk, h => by
    have h0 : ops[k]? = some o' := by simpa using (hl 0).symm
    obtain ⟨v, hy, hr⟩ := yieldsIn_of h
    exact ⟨v, YE.pre hs (by simp only [List.length_cons] at hk; omega) h0 hy, wpE_mid hs hc ho l l2 (k + 1) _ (fun j => by have := hl (j + 1); simpa [Nat.add_assoc, Nat.add_comm 1 j] using this) (by simp only [List.length_cons] at hk; omega) hr⟩
theorem getD_sets_true : ∀ (m k : Nat) (listed : Array Bool), k + m ≤ listed.size → ∀ i, (listed.getD i false = true ∨ k ≤ i ∧ i < k + m) → (sets listed k m).getD i false = true
  | 0, k, listed, _, i, h => by rcases h with h | h; exact h; omega
  | m + 1, k, listed, hs, i, h => by
    refine getD_sets_true m (k + 1) _ (by simp; omega) i ?_
    by_cases hik : i = k
    · subst hik; exact .inl (by simp; omega)
    · rcases h with h | h
      · exact .inl (getD_set_true h)
      · exact .inr (by omega)
/-- reads and quiet calls (class Pre); the call number n (it leaves class Post); reads and quiet calls of Post -/
theorem wp_region_mid {id : Nat} {Q : Exit → Act → World → Prop} {a : Act} {w : World} {l : List Oper} (n : Nat) (o : Oper) (Pre Post : World → Prop) (ho : l.toArray[n]? = some o) (hm : P.follows .mixedOrders = true) (hB : Region.lexB .any l.toArray = true)
    (hs : Region.sinkB .any l.toArray n = true) (hc : gateB .any l.toArray n = true) (hP : Pre w.drew)
    (h0 : wpQuiet P l.toArray (clsS Pre) (fun a' => MidOp P l.toArray Pre Post o a' fun a2 => Nonempty (Tw Post) → wpQuiet P l.toArray (clsS Post) (fun a3 => ∀ t : Tw Post, Q .normal a3 t.w) (l.drop (n + 1)) a2) (l.take n) a) : (Code.region id l.toArray true).wp P Q a w := by
  have hnone : ¬ Nonempty (Tw Post) → ∀ (l2 : List Oper) (a2 : Act), wpQuiet P l.toArray (clsS Post) (fun a3 => ∀ t : Tw Post, Q .normal a3 t.w) l2 a2 := by
    intro hne l2
    induction l2 with
    | nil => exact fun a2 t => absurd ⟨t⟩ hne
    | cons o2 l2 ih =>
      intro a2
      unfold wpQuiet
      split
      · exact ⟨undef, fun w' ⟨t, _⟩ => absurd ⟨t⟩ hne, ih _⟩
      · exact ih _
  have h : wpQuiet P l.toArray (clsS Pre) (fun a' => MidOp P l.toArray Pre Post o a' fun a2 => wpQuiet P l.toArray (clsS Post) (fun a3 => ∀ t : Tw Post, Q .normal a3 t.w) (l.drop (n + 1)) a2) (l.take n) a := by
    have hm2 : ∀ (l1 : List Oper) (a1 : Act), wpQuiet P l.toArray (clsS Pre) (fun a' => MidOp P l.toArray Pre Post o a' fun a2 => Nonempty (Tw Post) → wpQuiet P l.toArray (clsS Post) (fun a3 => ∀ t : Tw Post, Q .normal a3 t.w) (l.drop (n + 1)) a2) l1 a1 →
        wpQuiet P l.toArray (clsS Pre) (fun a' => MidOp P l.toArray Pre Post o a' fun a2 => wpQuiet P l.toArray (clsS Post) (fun a3 => ∀ t : Tw Post, Q .normal a3 t.w) (l.drop (n + 1)) a2) l1 a1 := by
      intro l1
      induction l1 with
      | nil => exact fun a1 ⟨h1, v, h2, h3⟩ => ⟨h1, v, h2, (Classical.em (Nonempty (Tw Post))).elim h3 (fun hn => hnone hn _ _)⟩
      | cons o2 l2 ih =>
        intro a2 h
        unfold wpQuiet at h ⊢
        split
        · rename_i hw; rw [if_pos hw] at h; exact Oper.quiet_mono (fun a h => ih a h) h
        · rename_i hw; rw [if_neg hw] at h; exact ih _ h
    exact hm2 _ _ h0
  have hn : n < l.length := by simpa using (Array.getElem?_eq_some_iff.1 ho).1
  have hcl : ∀ S : World → Prop, clsS S = S := fun S => by
    funext w'; apply propext; constructor
    · rintro ⟨t, rfl⟩; exact t.h
    · intro h; exact ⟨⟨w', h⟩, rfl⟩
  rw [hcl Pre, hcl Post] at h
  refine wp_region_E (clsM l.toArray n Pre Post) hm hB ⟨⟨by simp, fun j oj _ hl => by rw [getD_replicate_false] at hl; cases hl⟩, fun _ => hP, fun h => by rw [getD_replicate_false] at h; cases h⟩ ?_
  have hsplit : l = l.take n ++ o :: l.drop (n + 1) := by
    have e1 : l[n]? = some o := by simpa using ho
    have e2 := List.getElem_of_getElem? e1
    obtain ⟨hn', e3⟩ := e2
    rw [← e3, ← List.drop_eq_getElem_cons hn', List.take_append_drop]
  have hfin : ∀ a3, (∀ t : Tw Post, Q .normal a3 t.w) → ∀ w', clsM l.toArray n Pre Post (sets (Array.replicate l.length false) 0 l.length) w' → Q .normal a3 w' := fun a3 hq w' hC =>
    hq ⟨w', hC.2.2 (getD_sets_true _ _ _ (by simp) n (.inr ⟨by omega, by omega⟩))⟩
  have hmono : ∀ (l2 : List Oper) (a2 : Act), wpQuiet P l.toArray Post (fun a3 => ∀ t : Tw Post, Q .normal a3 t.w) l2 a2 → wpQuiet P l.toArray Post (fun a3 => ∀ w', clsM l.toArray n Pre Post (sets (Array.replicate l.length false) 0 l.length) w' → Q .normal a3 w') l2 a2 := by
    intro l2
    induction l2 with
    | nil => exact fun a2 h => hfin a2 h
    | cons o2 l2 ih =>
      intro a2 h
      unfold wpQuiet at h ⊢
      split
      · rename_i hw; rw [if_pos hw] at h; exact Oper.quiet_mono (fun a h => ih a h) h
      · rename_i hw; rw [if_neg hw] at h; exact ih _ h
  have hmono2 : ∀ (l1 : List Oper) (a1 : Act), wpQuiet P l.toArray Pre (fun a' => MidOp P l.toArray Pre Post o a' fun a2 => wpQuiet P l.toArray Post (fun a3 => ∀ t : Tw Post, Q .normal a3 t.w) (l.drop (n + 1)) a2) l1 a1 →
      wpQuiet P l.toArray Pre (fun a' => MidOp P l.toArray Pre Post o a' fun a2 => wpQuiet P l.toArray Post (fun a3 => ∀ w', clsM l.toArray n Pre Post (sets (Array.replicate l.length false) 0 l.length) w' → Q .normal a3 w') (l.drop (n + 1)) a2) l1 a1 := by
    intro l1
    induction l1 with
    | nil => exact fun a1 ⟨h1, v, h2, h3⟩ => ⟨h1, v, h2, hmono _ _ h3⟩
    | cons o2 l2 ih =>
      intro a2 h
      unfold wpQuiet at h ⊢
      split
      · rename_i hw; rw [if_pos hw] at h; exact Oper.quiet_mono (fun a h => ih a h) h
      · rename_i hw; rw [if_neg hw] at h; exact ih _ h
  have := wpE_mid (P := P) (Pre := Pre) (Post := Post) hs hc ho (Q := fun a3 => ∀ w', clsM l.toArray n Pre Post (sets (Array.replicate l.length false) 0 l.length) w' → Q .normal a3 w') (l.take n) (l.drop (n + 1)) 0 a
    (fun j => by rw [← hsplit]; simp) (by rw [List.length_take]; omega) (hmono2 _ _ h)
  rwa [← hsplit] at this
end
end Go.Proofs.YtilhkhnjloplfaaGreatDoor
namespace Go.Proofs.YtilhkhnjloplfaaGreatDoor
set_option linter.unusedVariables false
set_option linter.unusedSimpArgs false
open Go.RowKit
end Go.Proofs.YtilhkhnjloplfaaGreatDoor
namespace Go.Proofs.YtilhkhnjloplfaaGreatDoor
set_option linter.unusedVariables false
set_option linter.unusedSimpArgs false
open Go.RowKit
/-- a worker: its cache, what leaves it, its places -/
structure Wk where
  list : List Nat
  parts : List (Nat × Nat)
  mine : List Nat
def Wk.all (k : Wk) : List Nat := k.list ++ leaf k.parts ++ k.mine
def Wk.z : Wk := ⟨[], [], []⟩
structure PInv (n : Nat) (ws : List Nat) (ks : List Wk) : Prop where
  len : ws.length = (n + 31) / 32
  rng : ∀ m, m ∈ ws → m < 18446744073709551616
  perm : (frL 0 ws ++ ks.flatMap Wk.all).Perm (List.range n)
  pt : ∀ k, k ∈ ks → PtOk ws.length k.parts
theorem ptFlat_set {α β : Type} (f : α → List β) : ∀ {l : List α} {i : Nat} {x : α} (y : α), l[i]? = some x → ∃ R, (l.flatMap f).Perm (f x ++ R) ∧ ((l.set i y).flatMap f).Perm (f y ++ R)
  | [], i, x, y, h => by simp at h
  | z :: l, 0, x, y, h => by
    simp only [List.getElem?_cons_zero, Option.some.injEq] at h
    subst h
    exact ⟨l.flatMap f, .refl _, .refl _⟩
  | z :: l, i + 1, x, y, h => by
    simp only [List.getElem?_cons_succ] at h
    obtain ⟨R, h1, h2⟩ := ptFlat_set f y h
    refine ⟨f z ++ R, ?_, ?_⟩
    · rw [List.flatMap_cons, ← List.append_assoc]
      refine (List.Perm.append_left _ h1).trans ?_
      rw [← List.append_assoc]
      exact List.Perm.append_right _ List.perm_append_comm
    · rw [List.set_cons_succ, List.flatMap_cons, ← List.append_assoc]
      refine (List.Perm.append_left _ h2).trans ?_
      rw [← List.append_assoc]
      exact List.Perm.append_right _ List.perm_append_comm
section
variable {n : Nat} {ws ws' : List Nat} {ks : List Wk} {w : Nat} {k k' : Wk}
theorem PInv.nodup (h : PInv n ws ks) : (frL 0 ws ++ ks.flatMap Wk.all).Nodup := h.perm.nodup_iff.2 List.nodup_range
theorem PInv.lt (h : PInv n ws ks) {x : Nat} (hk : k ∈ ks) (hx : x ∈ k.all) : x < n := by
  have : x ∈ frL 0 ws ++ ks.flatMap Wk.all := List.mem_append.2 (.inr (List.mem_flatMap.2 ⟨k, hk, hx⟩))
  exact List.mem_range.1 (h.perm.mem_iff.1 this)
/-- one worker and the words change: as many as ahead -/
theorem PInv.move (h : PInv n ws ks) (hk : ks[w]? = some k) (hl : ws'.length = ws.length) (hr : ∀ m, m ∈ ws' → m < 18446744073709551616) (hp : (frL 0 ws' ++ k'.all).Perm (frL 0 ws ++ k.all)) (ht : PtOk ws'.length k'.parts) : PInv n ws' (ks.set w k') := by
  obtain ⟨R, h1, h2⟩ := ptFlat_set Wk.all k' hk
  refine ⟨by rw [hl]; exact h.len, hr, ?_, fun x hx => ?_⟩
  · refine (List.Perm.append_left _ h2).trans ?_
    refine List.Perm.trans ?_ h.perm
    refine List.Perm.trans ?_ (List.Perm.append_left _ h1.symm)
    rw [← List.append_assoc, ← List.append_assoc]
    exact List.Perm.append_right _ hp
  · rcases List.mem_or_eq_of_mem_set hx with hx | rfl
    · rw [hl]; exact h.pt x hx
    · exact ht
theorem ptSet_rng {l : List Nat} (h : ∀ m, m ∈ l → m < 18446744073709551616) (i : Nat) {v : Nat} (hv : v < 18446744073709551616) : ∀ m, m ∈ l.set i v → m < 18446744073709551616 := fun m hm => by
  rcases List.mem_or_eq_of_mem_set hm with h1 | rfl
  · exact h m h1
  · exact hv
theorem tkn_lt (m k : Nat) : tkn m k < 18446744073709551616 := chg_lt (tkn_lower m k)
theorem bkn_lt (m k : Nat) : bkn m k < 18446744073709551616 := chg_lt (bkn_lower m k)
/-- a Fill -/
theorem PInv.take (h : PInv n ws ks) (hk : ks[w]? = some k) {i m : Nat} (hm : ws[i]? = some m) (t : Nat) : PInv n (ws.set i (tkn m t)) (ks.set w { k with list := k.list ++ (((frB m).take t).map (32 * i + ·)).reverse }) := by
  refine h.move hk (List.length_set ..) (ptSet_rng h.rng i (tkn_lt m t)) ?_ (by rw [List.length_set]; exact h.pt k (List.mem_of_getElem? hk))
  have h1 := frL_tkn hm t
  unfold Wk.all
  simp only
  generalize ((frB m).take t).map (32 * i + ·) = G at *
  generalize frL 0 (ws.set i (tkn m t)) = U at *
  refine List.Perm.trans ?_ (List.Perm.append_right _ h1.symm)
  rw [List.append_assoc, List.append_assoc, List.append_assoc]
  have e1 : (U ++ (k.list ++ (G.reverse ++ (leaf k.parts ++ k.mine)))).Perm (U ++ (G ++ (k.list ++ (leaf k.parts ++ k.mine)))) := by
    refine List.Perm.append_left _ ?_
    rw [← List.append_assoc k.list, ← List.append_assoc G]
    refine List.Perm.append_right _ ?_
    exact List.perm_append_comm.trans (List.Perm.append_right _ (List.reverse_perm G))
  refine e1.trans ?_
  rw [← List.append_assoc U, ← List.append_assoc G U]
  refine (List.Perm.append_right _ List.perm_append_comm).trans ?_
  simp only [List.append_assoc]
  exact .refl _
/-- what leaves is taken, where it stands -/
theorem PInv.leaving (h : PInv n ws ks) (hk : ks[w]? = some k) {i q m : Nat} {r : List (Nat × Nat)} (hp : k.parts = (i, q) :: r) (hm : ws[i]? = some m) : ∀ j, j ∈ stB q → m.testBit j = true := fun j hj => by
  have hnd := h.nodup
  have hj32 := stB_lt hj
  have hx : 32 * i + j ∈ ks.flatMap Wk.all := by
    refine List.mem_flatMap.2 ⟨k, List.mem_of_getElem? hk, ?_⟩
    unfold Wk.all leaf
    rw [hp]
    simp only [List.mem_append, List.flatMap_cons]
    exact .inl (.inr (.inl (mem_stW.2 ⟨by omega, by rw [show (32 * i + j) % 32 = j by omega]; exact (mem_stB.1 hj).2⟩)))
  cases hb : m.testBit j with
  | true => rfl
  | false =>
    have h1 : 32 * i + j ∈ frL 0 ws := mem_frL.2 ⟨i, m, hm, by omega, by rw [show (32 * i + j) % 32 = j by omega]; exact hb⟩
    rw [List.nodup_append] at hnd
    exact absurd rfl (hnd.2.2 _ h1 _ hx)
/-- .. so its mask is not nought there -/
theorem PInv.some_bit (h : PInv n ws ks) (hk : ks[w]? = some k) {i q m : Nat} {r : List (Nat × Nat)} (hp : k.parts = (i, q) :: r) (hm : ws[i]? = some m) : m &&& q ≠ 0 := fun e => by
  obtain ⟨h1, h2⟩ := (h.pt k (List.mem_of_getElem? hk)).m (i, q) (by rw [hp]; simp)
  obtain ⟨j, hj⟩ : ∃ j, q.testBit j = true := Nat.exists_testBit_of_ne_zero (by simp only at h1; omega)
  have hj32 : j < 32 := by
    rcases Nat.lt_or_ge j 32 with hj2 | hj2
    · exact hj2
    · rw [Nat.testBit_lt_two_pow (Nat.lt_of_lt_of_le (show q < 2 ^ 32 from h2) (Nat.pow_le_pow_right (by decide) hj2))] at hj; cases hj
  have h3 := h.leaving hk hp hm j (mem_stB.2 ⟨hj32, hj⟩)
  have : (m &&& q).testBit j = true := by rw [Nat.testBit_and, h3, hj]; rfl
  rw [e] at this
  simp at this
/-- a part goes back -/
theorem PInv.back (h : PInv n ws ks) (hk : ks[w]? = some k) {i q m : Nat} {r : List (Nat × Nat)} (hp : k.parts = (i, q) :: r) (hm : ws[i]? = some m) : PInv n (ws.set i (bkn m q)) (ks.set w { k with parts := r }) := by
  have ht := h.pt k (List.mem_of_getElem? hk)
  rw [hp] at ht
  refine h.move hk (List.length_set ..) (ptSet_rng h.rng i (bkn_lt m q)) ?_ (by rw [List.length_set]; exact ht.tail)
  have h1 := frL_bkn hm (h.leaving hk hp hm)
  unfold Wk.all
  simp only
  rw [hp]
  have e2 : leaf ((i, q) :: r) = stW i q ++ leaf r := rfl
  rw [e2]
  generalize frL 0 (ws.set i (bkn m q)) = U at *
  refine (List.Perm.append_right _ h1).trans ?_
  generalize frL 0 ws = V
  generalize stW i q = G
  generalize leaf r = H
  have e3 : (G ++ V ++ (k.list ++ H ++ k.mine)) = G ++ ((V ++ k.list) ++ (H ++ k.mine)) := by simp only [List.append_assoc]
  have e4 : (V ++ (k.list ++ (G ++ H) ++ k.mine)) = (V ++ k.list) ++ (G ++ (H ++ k.mine)) := by simp only [List.append_assoc]
  rw [e3, e4, ← List.append_assoc, ← List.append_assoc (V ++ k.list) G]
  exact List.Perm.append_right _ List.perm_append_comm
/-- a place is free again: its port is put -/
theorem PInv.put (h : PInv n ws ks) (hk : ks[w]? = some k) {id : Nat} {r : List Nat} (hm : k.mine = id :: r) : PInv n ws (ks.set w { k with list := k.list ++ [id], mine := r }) := by
  refine h.move hk rfl h.rng ?_ (h.pt k (List.mem_of_getElem? hk))
  refine List.Perm.append_left _ ?_
  unfold Wk.all
  simp only
  rw [hm, List.append_assoc, List.append_assoc, List.append_assoc]
  refine List.Perm.append_left _ ?_
  rw [List.singleton_append]
  exact List.perm_middle.symm
/-- the newest is a place -/
theorem PInv.make (h : PInv n ws ks) (hk : ks[w]? = some k) {id : Nat} {r : List Nat} (hm : k.list = r ++ [id]) : PInv n ws (ks.set w { k with list := r, mine := k.mine ++ [id] }) := by
  refine h.move hk rfl h.rng ?_ (h.pt k (List.mem_of_getElem? hk))
  refine List.Perm.append_left _ ?_
  unfold Wk.all
  simp only
  rw [hm]
  have e1 : r ++ leaf k.parts ++ (k.mine ++ [id]) = r ++ ((leaf k.parts ++ k.mine) ++ [id]) := by simp only [List.append_assoc]
  have e2 : r ++ [id] ++ leaf k.parts ++ k.mine = r ++ ([id] ++ (leaf k.parts ++ k.mine)) := by simp only [List.append_assoc]
  rw [e1, e2]
  exact List.Perm.append_left _ List.perm_append_comm
/-- the oldest ones leave -/
theorem PInv.leave (h : PInv n ws ks) (hk : ks[w]? = some k) (hp : k.parts = []) (c : Nat) : PInv n ws (ks.set w { k with list := k.list.drop c, parts := addL [] (k.list.take c) }) := by
  have hkm := List.mem_of_getElem? hk
  have hnd : k.all.Nodup := by
    obtain ⟨R, h1, _⟩ := ptFlat_set Wk.all k hk
    have := h.nodup
    rw [List.nodup_append] at this
    have := h1.nodup_iff.1 this.2.1
    rw [List.nodup_append] at this
    exact this.1
  have hl : k.list.Nodup := by
    unfold Wk.all at hnd
    rw [List.nodup_append, List.nodup_append] at hnd
    exact hnd.1.1
  have hlt : (leaf [] ++ k.list.take c).Nodup := (List.take_sublist c k.list).nodup hl
  have h1 := addL_perm hlt
  have h2 : (leaf [] ++ k.list.take c) = k.list.take c := rfl
  rw [h2] at h1
  refine h.move hk rfl h.rng ?_ ((PtOk.nil _).adds fun x hx => ?_)
  · refine List.Perm.append_left _ ?_
    unfold Wk.all
    simp only
    rw [hp]
    have e0 : leaf [] = [] := rfl
    rw [e0, List.append_nil]
    refine List.Perm.append_right _ ?_
    refine (List.Perm.append_left _ h1).trans ?_
    refine List.perm_append_comm.trans ?_
    rw [List.take_append_drop]
  · have hx2 : x < n := h.lt hkm (by
      unfold Wk.all
      simp only [List.mem_append]
      exact .inl (.inl (List.mem_of_mem_take hx)))
    have := h.len
    omega
-- what the law counts
theorem ptFlat_app {α β : Type} (f g : α → List β) : ∀ l : List α, (l.flatMap (fun x => f x ++ g x)).Perm (l.flatMap f ++ l.flatMap g)
  | [] => .refl _
  | x :: l => by
    rw [List.flatMap_cons, List.flatMap_cons, List.flatMap_cons]
    refine (List.Perm.append_left _ (ptFlat_app f g l)).trans ?_
    simp only [List.append_assoc]
    refine List.Perm.append_left _ ?_
    rw [← List.append_assoc, ← List.append_assoc]
    exact List.Perm.append_right _ List.perm_append_comm
theorem ptFlat_perm {α β : Type} {f g : α → List β} : ∀ {l : List α}, (∀ x, x ∈ l → (f x).Perm (g x)) → (l.flatMap f).Perm (l.flatMap g)
  | [], _ => .refl _
  | x :: l, h => by
    rw [List.flatMap_cons, List.flatMap_cons]
    exact (h x (by simp)).append (ptFlat_perm fun y hy => h y (by simp [hy]))
/-- the made ones are the workers' -/
theorem PInv.made (h : PInv n ws ks) {p : Nat → Bool} (hp : ∀ i, i < n → (p i = true ↔ i ∈ ks.flatMap Wk.mine)) : ((List.range n).filter p).Perm (ks.flatMap Wk.mine) := by
  have h1 : (ks.flatMap Wk.mine).Nodup := by
    have h2 := h.nodup
    rw [List.nodup_append] at h2
    have h3 : (ks.flatMap Wk.all).Perm (ks.flatMap (fun k => k.list ++ leaf k.parts) ++ ks.flatMap Wk.mine) := ptFlat_app _ _ ks
    have h4 := h3.nodup_iff.1 h2.2.1
    rw [List.nodup_append] at h4
    exact h4.2.1
  rw [List.perm_ext_iff_of_nodup (List.nodup_range.filter _) h1]
  intro a
  rw [List.mem_filter, List.mem_range]
  constructor
  · rintro ⟨h2, h3⟩
    exact (hp a h2).1 h3
  · intro h2
    have h3 : a < n := by
      obtain ⟨k, hk, ha⟩ := List.mem_flatMap.1 h2
      exact h.lt hk (by unfold Wk.all; simp only [List.mem_append]; exact .inr ha)
    exact ⟨h3, (hp a h3).2 h2⟩
/-- all that the law gathers: each number once -/
theorem PInv.once (h : PInv n ws ks) {p : Nat → Bool} (hp : ∀ i, i < n → (p i = true ↔ i ∈ ks.flatMap Wk.mine)) {S : Wk → List Nat} (hS : ∀ k, k ∈ ks → (S k).Perm (leaf k.parts)) :
    (frL 0 ws ++ ks.flatMap (fun k => k.list ++ S k) ++ (List.range n).filter p).Perm (List.range n) := by
  refine List.Perm.trans ?_ h.perm
  rw [List.append_assoc]
  refine List.Perm.append_left _ ?_
  refine (List.Perm.append_left _ (h.made hp)).trans ?_
  refine List.Perm.trans ?_ (ptFlat_app _ _ ks).symm
  refine List.Perm.append_right _ ?_
  exact ptFlat_perm fun k hk => List.Perm.append_left _ (hS k hk)
end
end Go.Proofs.YtilhkhnjloplfaaGreatDoor
