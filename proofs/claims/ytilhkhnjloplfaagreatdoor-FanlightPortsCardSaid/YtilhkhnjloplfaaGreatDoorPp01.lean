/- What the laws' proofs lean on: plain facts and contracts of the program's functions, laid together (1). -/
import Derived.WalkKit
import Derived.Lib.Hide
import Derived.Laws.OwnMore
import Derived.Deep.AppendLies
import Derived.Deep.Draws
import Derived.Maps.AppendAt
import Derived.Deep.QuietTactic
import Derived.BigQuiet
import Derived.Deep.RegionWith
import Derived.Deep.DeepMust
import Derived.Laws.MakeOwn
import Derived.Laws.Rows
import Derived.StillTailTactics
import Derived.Test.YtilhkhnjloplfaaGreatDoorRows
import Derived.Test.YtilhkhnjloplfaaGreatDoorProg
import Derived.Deep.RegionHeld3
import Derived.Deep.WholeRow
namespace Go.Proofs.YtilhkhnjloplfaaGreatDoor
set_option linter.unusedVariables false
set_option linter.unusedSimpArgs false
open Go.RowKit

theorem and_mask {k : IntKind} (hk : k.signed = false) (m : Nat) (hm : m ≤ k.bits) (a : Int) : bits .and k a (2 ^ m - 1 : Nat) = a % (2 ^ m : Nat) := by
  show k.wrap ((BitVec.ofInt k.bits a &&& BitVec.ofInt k.bits ((2 ^ m - 1 : Nat) : Int)).toNat : Int) = _
  rw [BitVec.toNat_and, BitVec.ofInt_natCast, BitVec.toNat_ofNat]
  have hlt : 2 ^ m - 1 < 2 ^ k.bits := by
    have h1 : 2 ^ m ≤ 2 ^ k.bits := Nat.pow_le_pow_right (by omega) hm
    have h2 : 0 < 2 ^ m := Nat.two_pow_pos m
    omega
  rw [Nat.mod_eq_of_lt hlt, Nat.and_two_pow_sub_one_eq_mod]
  have e1 : ((BitVec.ofInt k.bits a).toNat : Int) = a % (2 ^ k.bits : Nat) := by rw [BitVec.toNat_ofInt]; have := Int.emod_nonneg a (b := ((2 ^ k.bits : Nat) : Int)) (by have := Nat.two_pow_pos k.bits; omega); omega
  have e2 : (((BitVec.ofInt k.bits a).toNat % 2 ^ m : Nat) : Int) = a % (2 ^ m : Nat) := by
    rw [Int.natCast_emod, e1]
    exact Int.emod_emod_of_dvd a (by exact_mod_cast Nat.pow_dvd_pow 2 hm)
  rw [e2]
  have hb : (2 ^ m : Nat) ≤ 2 ^ k.bits := Nat.pow_le_pow_right (by omega) hm
  have h0 := Int.emod_nonneg a (b := ((2 ^ m : Nat) : Int)) (by have := Nat.two_pow_pos m; omega)
  have h1 := Int.emod_lt_of_pos a (b := ((2 ^ m : Nat) : Int)) (by have := Nat.two_pow_pos m; omega)
  have hb' : ((2 ^ m : Nat) : Int) ≤ ((2 ^ k.bits : Nat) : Int) := by omega
  have e3 : (2 : Int) ^ k.bits = ((2 ^ k.bits : Nat) : Int) := by push_cast; rfl
  unfold IntKind.wrap
  rw [e3, Int.emod_eq_of_lt h0 (by omega)]
  simp [hk]
theorem u64_and65535 (a : Int) : bits .and .u64 a 65535 = a % 65536 := and_mask (k := .u64) rfl 16 (by decide) a
theorem sg_u8 : IntKind.u8.signed = false := rfl
theorem sg_u16 : IntKind.u16.signed = false := rfl
theorem sg_u32 : IntKind.u32.signed = false := rfl
theorem sg_u64 : IntKind.u64.signed = false := rfl
theorem sg_i64 : IntKind.i64.signed = true := rfl
attribute [go_sem] sg_u8 sg_u16 sg_u32 sg_u64 sg_i64
theorem xor_not (m : Nat) (x : Nat) (hx : x < 2 ^ m) : (2 ^ m - 1) ^^^ x = 2 ^ m - 1 - x := by
  have h := BitVec.toNat_not (x := BitVec.ofNat m x)
  have h2 : (BitVec.allOnes m ^^^ BitVec.ofNat m x).toNat = (~~~ (BitVec.ofNat m x)).toNat := by
    congr 1
  rw [BitVec.toNat_xor, BitVec.toNat_allOnes, h, BitVec.toNat_ofNat, Nat.mod_eq_of_lt hx] at h2
  exact h2
theorem cpl_u16 (x : Int) (h : 0 ≤ x ∧ x ≤ 65535) : bits .xor .u16 IntKind.u16.max x = 65535 - x := by
  rw [show IntKind.u16.max = 65535 from rfl, u16_xor _ _ (by omega) (by omega) (by omega) (by omega)]
  have := xor_not 16 x.toNat (by omega)
  have e : (65535 : Int).toNat = 2 ^ 16 - 1 := rfl
  rw [e, this]; omega
theorem ret_bool {a b : Bool} (h : a = b) : Ending.returned (.bool a) = .returned (.bool b) := by rw [h]
/-- 'int(uint64(a) % uint64(n))' -/
theorem modn (a N : Int) (h : 0 < N) : ∃ q : Nat, (IntKind.u64.wrap a).tmod N = (q : Int) ∧ (q : Int) < N := by
  have h0 : 0 ≤ IntKind.u64.wrap a := by simp [IntKind.wrap, IntKind.bits, IntKind.signed]; omega
  have h1 := Int.emod_nonneg (IntKind.u64.wrap a) (show N ≠ 0 by omega)
  have h2 := Int.emod_lt_of_pos (IntKind.u64.wrap a) h
  exact ⟨((IntKind.u64.wrap a) % N).toNat, by rw [Int.tmod_eq_emod_of_nonneg h0]; omega, by omega⟩
/-- folding again and again what is beyond 16 bits -/
def fo (n : Int) : Int := if n = 0 then 0 else (n - 1) % 65535 + 1
theorem fo_small {n : Int} (h0 : 0 ≤ n) (h1 : n ≤ 65535) : fo n = n := by unfold fo; split <;> omega
theorem fo_step {n : Int} (h0 : 65535 < n) : fo (n / 65536 + n % 65536) = fo n := by unfold fo; rw [if_neg (by omega), if_neg (by omega)]; omega
theorem fo_bd {n : Int} (h0 : 0 ≤ n) : 0 ≤ fo n ∧ fo n ≤ 65535 := by unfold fo; split <;> omega
theorem fo_add (a b : Int) (ha : 0 ≤ a) (hb : 0 ≤ b) : fo (fo a + b) = fo (a + b) := by
  by_cases h : a = 0
  · subst h; rfl
  · have : fo a = (a - 1) % 65535 + 1 := by unfold fo; rw [if_neg h]
    rw [this]; unfold fo; rw [if_neg (by omega), if_neg (by omega)]; omega
theorem fo_fo (a : Int) (ha : 0 ≤ a) : fo (fo a) = fo a := fo_small (fo_bd ha).1 (fo_bd ha).2
attribute [go_sem] u64_and65535
end Go.Proofs.YtilhkhnjloplfaaGreatDoor
namespace Go.Proofs.YtilhkhnjloplfaaGreatDoor
set_option linter.unusedVariables false
set_option linter.unusedSimpArgs false
/-- the sum of 16-bit words; the flag says whether the next byte is a high one -/
def sb : Bool → List Int → Int
  | _, [] => 0
  | true, x :: l => x * 256 + sb false l
  | false, x :: l => x + sb true l
theorem sb_snoc (l : List Int) (x : Int) : ∀ h, sb h (l ++ [x]) = sb h l + (if (l.length % 2 = 0) = (h = true) then x * 256 else x) := by
  induction l with
  | nil => intro h; cases h <;> simp [sb]
  | cons y l ih =>
    intro h
    cases h
    · simp only [List.cons_append, sb, ih, List.length_cons]; rcases Nat.mod_two_eq_zero_or_one l.length with e | e <;> simp [Nat.add_mod, e] <;> omega
    · simp only [List.cons_append, sb, ih, List.length_cons]; rcases Nat.mod_two_eq_zero_or_one l.length with e | e <;> simp [Nat.add_mod, e] <;> omega
theorem sb_bd (l : List Int) (hl : ∀ x, x ∈ l → 0 ≤ x ∧ x ≤ 255) : ∀ h, 0 ≤ sb h l ∧ sb h l ≤ l.length * 65280 := by
  induction l with
  | nil => intro h; simp [sb]
  | cons y l ih =>
    intro h
    have hy := hl y (by simp)
    have i1 := ih (fun x hx => hl x (by simp [hx]))
    have i2 := i1 true
    have i3 := i1 false
    cases h <;> simp only [sb, List.length_cons] <;> omega
theorem sb_take (l : List Int) (i : Nat) (hi : i < l.length) : sb true (l.take (i + 1)) = sb true (l.take i) + l.getD i 0 * (if i % 2 = 0 then 256 else 1) := by
  rw [List.take_succ_eq_append_getElem hi, sb_snoc, List.length_take_of_le (by omega), List.getD_eq_getElem?_getD, List.getElem?_eq_getElem hi]
  rcases Nat.mod_two_eq_zero_or_one i with e | e <;> simp [e]
theorem sb_app (a b : List Int) (h : a.length % 2 = 0) : sb true (a ++ b) = sb true a + sb true b := by
  suffices ∀ n (a : List Int), a.length = 2 * n → sb true (a ++ b) = sb true a + sb true b from this (a.length / 2) a (by omega)
  intro n
  induction n with
  | zero => intro a ha; have : a = [] := List.length_eq_zero_iff.mp (by omega); subst this; simp [sb]
  | succ n ih =>
    intro a ha
    match a, ha with
    | x :: y :: r, ha => simp only [List.cons_append, sb]; rw [ih r (by simp at ha; omega)]; omega
/-- the checksum of bytes -/
def sumOf (l : List Int) : Int := 65535 - fo (sb true l)
end Go.Proofs.YtilhkhnjloplfaaGreatDoor
namespace Go.Proofs.YtilhkhnjloplfaaGreatDoor
set_option linter.unusedVariables false
set_option linter.unusedSimpArgs false
open Go.RowKit

/-- the range of a kind of integers -/
def inr (k : IntKind) (x : Int) : Prop := (Lit.int k x).wf = true
theorem inr_u8 {x : Int} (h : inr .u8 x) : 0 ≤ x ∧ x ≤ 255 := by
  simpa [inr, Lit.wf, IntKind.min, IntKind.max, IntKind.signed, IntKind.bits] using h
theorem inr_u64 {x : Int} (h : inr .u64 x) : 0 ≤ x ∧ x ≤ 18446744073709551615 := by
  simpa [inr, Lit.wf, IntKind.min, IntKind.max, IntKind.signed, IntKind.bits] using h
theorem u8_inr {x : Int} (h : 0 ≤ x ∧ x ≤ 255) : inr .u8 x := WalkArith.wf_u8 h
theorem u64_inr {x : Int} (h : 0 ≤ x ∧ x ≤ 18446744073709551615) : inr .u64 x := WalkArith.wf_u64 h
theorem i64_inr {x : Int} (h : -9223372036854775808 ≤ x ∧ x ≤ 9223372036854775807) : inr .i64 x := WalkArith.wf_i64 h

/-- the slice (A, n) holds the integers l of kind k, below block B -/
structure Rd (k : IntKind) (w : World) (B : Nat) (A : Option Addr) (n : Nat) (l : List Int) : Prop where
  len : l.length = n
  rng : ∀ x, x ∈ l → inr k x
  cel : 0 < n → ∃ b o, A = some ⟨b, o, none⟩ ∧ b < B ∧ ∀ j, j < n → w.cell? ⟨b, o + j, none⟩ = some (.int k (l.getD j 0))

section
variable {k : IntKind} {w w' : World} {B B' n : Nat} {A : Option Addr} {l : List Int}
theorem Rd.nil (k : IntKind) (w : World) (B : Nat) (A : Option Addr) : Rd k w B A 0 [] := ⟨rfl, by simp, fun h => absurd h (by omega)⟩
theorem Rd.at_ {j : Nat} (h : Rd k w B A n l) (hj : j < n) : ∃ b o, A = some ⟨b, o, none⟩ ∧ b < B ∧ w.cell? ⟨b, o + j, none⟩ = some (.int k (l.getD j 0)) ∧ inr k (l.getD j 0) := by
  obtain ⟨b, o, e, hb, hc⟩ := h.cel (by omega)
  refine ⟨b, o, e, hb, hc j hj, h.rng _ ?_⟩
  have hl := h.len
  rw [List.getD_eq_getElem?_getD, List.getElem?_eq_getElem (by omega)]
  exact List.getElem_mem _
theorem Rd.keep (h : Rd k w B A n l) (hk : ∀ p : Addr, p.block < B → w'.cell? p = w.cell? p) : Rd k w' B A n l :=
  ⟨h.len, h.rng, fun hn => by
    obtain ⟨b, o, e, hb, hc⟩ := h.cel hn
    exact ⟨b, o, e, hb, fun j hj => (hk _ hb).trans (hc j hj)⟩⟩
theorem Rd.more (h : Rd k w B A n l) (hB : B ≤ B') : Rd k w B' A n l :=
  ⟨h.len, h.rng, fun hn => by
    obtain ⟨b, o, e, hb, hc⟩ := h.cel hn
    exact ⟨b, o, e, by omega, hc⟩⟩
theorem Rd.below (h : Rd k w B A n l) (hb : Below B w w') : Rd k w' B A n l := h.keep fun _ hp => hb.cell hp
theorem Rd.drewN (h : Rd k w B A n l) (m : Nat) : Rd k (w.drewN m) B A n l := ⟨h.len, h.rng, h.cel⟩
theorem Rd.alloc (h : Rd k w B A n l) (hB : B ≤ w.heap.size) (o : Obj) : Rd k (w.alloc o) B A n l := h.keep fun p hp => World.cell?_alloc_lt w o p (by omega)
theorem Rd.take (h : Rd k w B A n l) {m : Nat} (hm : m ≤ n) : Rd k w B A m (l.take m) := by
  have hl := h.len
  refine ⟨by rw [List.length_take]; omega, fun x hx => h.rng x (List.mem_of_mem_take hx), fun h0 => ?_⟩
  obtain ⟨b, o, e, hb, hc⟩ := h.cel (by omega)
  refine ⟨b, o, e, hb, fun j hj => ?_⟩
  rw [hc j (by omega)]
  simp [List.getD_eq_getElem?_getD, hj]
theorem Rd.drop (h : Rd k w B A n l) {m cap : Nat} (hm : m ≤ n) (hc : n ≤ cap) : Rd k w B (if cap = m then A else A.map (·.add m)) (n - m) (l.drop m) := by
  have hl := h.len
  refine ⟨by rw [List.length_drop, hl], fun x hx => h.rng x (List.mem_of_mem_drop hx), fun h0 => ?_⟩
  obtain ⟨b, o, rfl, hb, hcell⟩ := h.cel (by omega)
  rw [if_neg (by omega)]
  refine ⟨b, o + m, by simp [Addr.add], hb, fun j hj => ?_⟩
  rw [Nat.add_assoc, hcell _ (by omega)]
  simp [List.getD_eq_getElem?_getD]
theorem Rd.cut (h : Rd k w B A n l) {m cap : Nat} (hm : m ≤ n) (hc : n ≤ cap) : ∃ A2, (if cap = m then A else Option.map (fun x => x.add m) A) = A2 ∧ Rd k w B A2 (n - m) (l.drop m) := ⟨_, rfl, h.drop hm hc⟩
theorem Rd.of_own {base : Nat} {e : TypeId} {c : Nat} (h : w.ownsRow base e 1 (.slice A n c) n (l.map (Value.int k))) (hr : ∀ x, x ∈ l → inr k x) : Rd k w w.heap.size A n l := by
  have hl : l.length = n := by have := h.1; simpa using this
  refine ⟨hl, hr, fun hn => ?_⟩
  obtain ⟨g, cap, hv, _, hlt⟩ := h.form hn
  have hA : A = some ⟨g, 0, none⟩ := by injection hv
  subst hA
  refine ⟨g, 0, rfl, hlt, fun j hj => ?_⟩
  have hc := h.cells (g := g) rfl j (.int k (l.getD j 0)) ?_
  · rw [← hc]; simp [Addr.add]; split <;> simp_all
  simp [List.getElem?_eq_getElem (show j < l.length by omega)]
theorem Rd.new (k : IntKind) (w : World) (t : TypeId) (l : List Int) (hr : ∀ x, x ∈ l → inr k x) (cs : Array Value) (hcs : cs = (l.map (Value.int k)).toArray) (n : Nat) (hn : l.length = n) :
    Rd k (w.alloc (.cells cs t)) (w.heap.size + 1) (some ⟨w.heap.size, 0, none⟩) n l := by
  subst hcs
  refine ⟨hn, hr, fun h0 => ⟨_, 0, rfl, by omega, fun j hj => ?_⟩⟩
  rw [cell_of_row _ _ _ _ _ _ (heap_alloc_new w _)]
  simp [List.getElem?_eq_getElem (show j < l.length by omega)]

/-- a row of the call's own that holds the integers l -/
structure Own (k : IntKind) (e : TypeId) (w : World) (base : Nat) (v : Value) (l : List Int) : Prop where
  row : w.ownsRow base e 1 v l.length (l.map (Value.int k))
  rng : ∀ x, x ∈ l → inr k x
theorem bel_after {w W w1 : World} (h : Below w.heap.size w W) (hb : Below W.heap.size W w1) : Below w.heap.size w w1 := h.trans (hb.mono h.size)
theorem bel_alloc (w : World) (o : Obj) : Below w.heap.size w (w.alloc o) := (Below.refl _ _).alloc (Nat.le_refl _) o
theorem bcell {W w1 : World} (hb : Below W.heap.size W w1) : (∀ b o, b < W.heap.size → w1.cell? ⟨b, o, none⟩ = W.cell? ⟨b, o, none⟩) ∧ (∀ b o, b < W.heap.size → w1.frozen? ⟨b, o, none⟩ = W.frozen? ⟨b, o, none⟩) :=
  ⟨fun b o h => hb.cell (p := ⟨b, o, none⟩) h, fun b o h => hb.frozen (p := ⟨b, o, none⟩) h⟩
theorem below_drewN {B : Nat} {a w : World} (h : Below B a w) (n : Nat) : Below B a (w.drewN n) := ⟨h.os, h.tape, h.output, h.size, h.block⟩
theorem Own.nil (k : IntKind) (e : TypeId) (w : World) (base : Nat) : Own k e w base (.slice none 0 0) [] := ⟨World.ownsRow_nil w base e 1, by simp⟩
theorem Own.form {e : TypeId} {v : Value} {base : Nat} (h : Own k e w base v l) {n : Nat} (hn : l.length = n) : ∃ A c, v = .slice A n c ∧ n ≤ c ∧ c ≤ maxLen ∧ Rd k w w.heap.size A n l := by
  subst hn
  have hr := h.row
  rcases hr.2 with ⟨rfl, h0⟩ | ⟨g, cap, cur, rfl, hg, hh, hnc, hcm, hcs, hx⟩
  · have : l = [] := List.length_eq_zero_iff.mp h0
    subst this
    exact ⟨none, 0, rfl, Nat.le_refl _, Nat.zero_le _, Rd.nil _ _ _ _⟩
  · exact ⟨_, cap, rfl, hnc, hcm, Rd.of_own hr h.rng⟩
theorem Own.keep {e : TypeId} {v : Value} {base : Nat} (h : Own k e w base v l) {row : Option Nat} (hg : w.grownBy w' row) (hne : v.ownBlock = none ∨ v.ownBlock ≠ row) : Own k e w' base v l := ⟨h.row.kept hg hne, h.rng⟩
theorem Own.alloc {e : TypeId} {v : Value} {base : Nat} (h : Own k e w base v l) (o : Obj) : Own k e (w.alloc o) base v l := ⟨h.row.alloc o, h.rng⟩
theorem Own.drew {e : TypeId} {v : Value} {base : Nat} (h : Own k e w base v l) : Own k e w.drew base v l := ⟨h.row, h.rng⟩
theorem Own.below {e : TypeId} {v : Value} {base : Nat} (h : Own k e w base v l) (hb : Below w.heap.size w w') : Own k e w' base v l := by
  refine h.keep (row := none) ⟨hb.os, hb.tape, hb.output, hb.size, fun k hk _ => hb.block k hk⟩ ?_
  cases hv : v.ownBlock
  · exact .inl rfl
  · exact .inr (by simp)
theorem Own.lt {e : TypeId} {v : Value} {base : Nat} (h : Own k e w base v l) : ∀ g, v.ownBlock = some g → base ≤ g ∧ g < w.heap.size := h.row.lt
theorem Own.formG {e : TypeId} {v : Value} {base : Nat} (h : Own k e w base v l) {n : Nat} (hn : l.length = n) (h0 : 0 < n) :
    ∃ g c, v = .slice (some ⟨g, 0, none⟩) n c ∧ n ≤ c ∧ c ≤ maxLen ∧ base ≤ g ∧ g < w.heap.size := by
  subst hn
  rcases h.row.2 with ⟨rfl, h1⟩ | ⟨g, cap, cur, rfl, hg, hh, hnc, hcm, hcs, hx⟩
  · omega
  · exact ⟨g, cap, rfl, hnc, hcm, hg, (h.lt g rfl).2⟩
theorem Own.at_ {e : TypeId} {g n c base : Nat} (h : Own k e w base (.slice (some ⟨g, 0, none⟩) n c) l) (hn : l.length = n) {j : Nat} (hj : j < n) :
    w.cell? ⟨g, j, none⟩ = some (.int k (l.getD j 0)) ∧ w.frozen? ⟨g, j, none⟩ = false ∧ inr k (l.getD j 0) := by
  subst hn
  refine ⟨?_, h.row.frozenAt j, h.rng _ ?_⟩
  · rw [h.row.cellAt j (by omega)]; simp [List.getElem?_eq_getElem hj]
  · rw [List.getD_eq_getElem?_getD, List.getElem?_eq_getElem hj]; exact List.getElem_mem _
theorem Own.set {e : TypeId} {g n c base : Nat} (h : Own k e w base (.slice (some ⟨g, 0, none⟩) n c) l) (hn : l.length = n) (j : Nat) {x : Int} (hx : inr k x) :
    Own k e (w.setCell ⟨g, j, none⟩ (.int k x)) base (.slice (some ⟨g, 0, none⟩) n c) (l.set j x) := by
  subst hn
  refine ⟨?_, fun y hy => ?_⟩
  · have := (h.row.stored j (.int k x)).1
    rw [List.length_set, List.map_set]; exact this
  · rcases List.mem_or_eq_of_mem_set hy with h1 | h1
    · exact h.rng y h1
    · exact h1 ▸ hx
theorem Own.rd {e : TypeId} {g n c base : Nat} (h : Own k e w base (.slice (some ⟨g, 0, none⟩) n c) l) (hn : l.length = n) : Rd k w w.heap.size (some ⟨g, 0, none⟩) n l := by
  obtain ⟨A, c', h1, _, _, h2⟩ := h.form hn
  simp only [Value.slice.injEq] at h1
  exact h1.1 ▸ h2
theorem Own.take {e : TypeId} {g n c base : Nat} (h : Own k e w base (.slice (some ⟨g, 0, none⟩) n c) l) {m : Nat} (hm : m ≤ n) :
    Own k e w base (.slice (some ⟨g, 0, none⟩) m c) (l.take m) := by
  refine ⟨?_, fun x hx => h.rng x (List.mem_of_mem_take hx)⟩
  rcases h.row.2 with ⟨h', _⟩ | ⟨g', cap', cur, h', hb, hg, hnc, hcm, hcs, htake⟩
  · simp at h'
  · simp only [Value.slice.injEq, Option.some.injEq, Addr.mk.injEq, and_true] at h'
    obtain ⟨rfl, hn, rfl⟩ := h'
    have hl : (l.take m).length = m := by rw [List.length_take]; omega
    refine ⟨by simp, .inr ⟨g, c, cur, by rw [hl], hb, hg, by rw [hl]; omega, hcm, hcs, ?_⟩⟩
    rw [hl, List.map_take, ← htake, List.take_take]; congr 1; omega
/-- a block that was just laid, with exactly these cells -/
theorem Own.new (k : IntKind) (w : World) (t : TypeId) (base : Nat) (hb : base ≤ w.heap.size) (l : List Int) (hr : ∀ x, x ∈ l → inr k x) (cs : Array Value) (hcs : cs = (l.map (Value.int k)).toArray) (n : Nat) (hn : n = l.length) (hm : l.length ≤ maxLen) :
    Own k t (w.alloc (.cells cs t)) base (.slice (some ⟨w.heap.size, 0, none⟩) n n) l := by
  subst hcs; subst hn
  refine ⟨⟨by simp, .inr ⟨w.heap.size, l.length, _, rfl, hb, heap_alloc_new w _, Nat.le_refl _, hm, by simp, by simp [List.take_of_length_le]⟩⟩, hr⟩

section
variable {P : Program}
/-- 'append(own, src...)': the source is a slice that reads as a list, nil or not -/
theorem run_app (w : World) (k : IntKind) (base : Nat) (t ty e : TypeId) (i : TypeInfo) (z : Value) (bytes : Nat) (ht : P.underlying t = some (.slice e)) (hi : P.info? e = some i) (hz : i.zero = some z)
    (hsize : i.size = 1) (hby : i.bytes = bytes) (hzs : z.cells.size = 1) (v : Value) (l : List Int) (hown : Own k e w base v l)
    (B : Nat) (A : Option Addr) (m c : Nat) (l2 : List Int) (hr : Rd k w B A m l2) (hlen : (l.length + m) * bytes ≤ 140737488355328) (hbp : 0 < bytes) (hbase : base ≤ w.heap.size) :
    ∃ v' w', (Builtin.append_ #[t, t] ty #[v, .slice A m c]).run P w = .ok v' w' ∧ Own k e w' base v' (l ++ l2) ∧ w.grownBy w' v.ownBlock ∧ (v'.ownBlock = v.ownBlock ∨ v'.ownBlock = some w.heap.size) := by
  have hl := hr.len
  have h63 : l.length + m ≤ maxLen := by
    have := Nat.le_mul_of_pos_right (l.length + m) hbp
    unfold maxLen; omega
  have hrng : ∀ x, x ∈ l ++ l2 → inr k x := fun x hx => (List.mem_append.1 hx).elim (hown.rng x) (hr.rng x)
  have main : ∀ ad : Addr, (∀ j u, (l2.map (Value.int k))[j]? = some u → w.cell? (ad.add j) = some u) → ∃ v' w', (Builtin.append_ #[t, t] ty #[v, .slice (some ad) m c]).run P w = .ok v' w' ∧ Own k e w' base v' (l ++ l2) ∧ w.grownBy w' v.ownBlock ∧ (v'.ownBlock = v.ownBlock ∨ v'.ownBlock = some w.heap.size) := by
    intro ad hc
    obtain ⟨v', w', h1, h2, h3, _, h5⟩ := run_append_own_at (P := P) w base t ty e i z 1 bytes ht hi hz hsize hby hzs (by omega) v l.length (l.map (Value.int k)) hown.row ad m c (l2.map (Value.int k)) (by simpa using hl) hc
      (by simp [Value.oneCell']) h63 hlen hbase
    exact ⟨v', w', h1, ⟨by rw [List.length_append, List.map_append, hl]; exact h2, hrng⟩, h3, h5⟩
  rcases Nat.eq_zero_or_pos m with h0 | h0
  · subst h0
    have e2 : l2 = [] := List.length_eq_zero_iff.mp hl
    subst e2
    cases A with
    | some ad => exact main ad (by simp)
    | none =>
      refine ⟨v, w, ?_, by simpa using hown, World.grownBy.refl w _, .inl rfl⟩
      rcases hown.row.2 with ⟨rfl, h⟩ | ⟨g, cap, cur, rfl, _, _, hnc, _⟩
      · simp [Builtin.append_, run_underlying ht, sizeOf, typeInfo, hi, Builtin.lenOf, Builtin.firstCells]
      · simp [Builtin.append_, run_underlying ht, sizeOf, typeInfo, hi, Builtin.lenOf, Builtin.firstCells, hnc, storeCells]
  · obtain ⟨b, o, rfl, hb, hc⟩ := hr.cel h0
    refine main ⟨b, o, none⟩ fun j u hu => ?_
    have hj : j < l2.length := by
      have := List.getElem?_eq_some_iff.1 hu; obtain ⟨h, _⟩ := this; simpa using h
    have := hc j (by omega)
    rw [List.getElem?_map, List.getElem?_eq_getElem hj] at hu
    simp at hu
    subst hu
    rw [List.getD_eq_getElem?_getD, List.getElem?_eq_getElem hj] at this
    simp [Addr.add]
    split
    · rename_i h; subst h; simpa using this
    · simpa using this

theorem wpList_app {ops : Array Oper} {rest : List Oper} {o : Oper} {a : Act} {Q : Exit → Act → World → Prop} (w : World) (hgd : o.guard = none) (s x : Operand) (t : TypeId)
    (ho : o.op = .call { callee := .builtin .append, args := #[s, x], argTypes := #[t, t] }) (k : IntKind)
    (base : Nat) (e : TypeId) (i : TypeInfo) (z : Value) (bytes : Nat) (ht : P.underlying t = some (.slice e)) (hi : P.info? e = some i) (hz : i.zero = some z)
    (hsize : i.size = 1) (hby : i.bytes = bytes) (hzs : z.cells.size = 1) (v : Value) (hs : a.eval s = v) (l : List Int) (hown : Own k e w base v l)
    (B : Nat) (A : Option Addr) (m c : Nat) (hx : a.eval x = .slice A m c) (l2 : List Int) (hr : Rd k w B A m l2) (hlen : (l.length + m) * bytes ≤ 140737488355328) (hbp : 0 < bytes) (hbase : base ≤ w.heap.size)
    (h : ∀ v' w', Own k e w' base v' (l ++ l2) → w.grownBy w' v.ownBlock → (v'.ownBlock = v.ownBlock ∨ v'.ownBlock = some w.heap.size) → wpList P ops Q rest (a.put o.dst v') w') : wpList P ops Q (o :: rest) a w := by
  refine wpList_plain hgd fun K hK => ?_
  obtain ⟨v', w', hrun, h2, h3, h4⟩ := run_app (P := P) w k base t o.type e i z bytes ht hi hz hsize hby hzs v l hown B A m c l2 hr hlen hbp hbase
  unfold Oper.wp execOp
  simp only [ho, resolve, invoke, builtin, Sem.run_bind, Sem.run_pure, Result.andThen_ok, List.map_toArray, List.map_cons, List.map_nil, hs, hx, hrun]
  exact hK _ _ (h v' w' h2 h3 h4)
end
end
end Go.Proofs.YtilhkhnjloplfaaGreatDoor
namespace Go.Proofs.YtilhkhnjloplfaaGreatDoor
set_option linter.unusedVariables false
set_option linter.unusedSimpArgs false
open Go.RowKit
section
variable {P : Program}
end
end Go.Proofs.YtilhkhnjloplfaaGreatDoor
namespace Go.Proofs.YtilhkhnjloplfaaGreatDoor
set_option linter.unusedVariables false
set_option linter.unusedSimpArgs false
open Go.RowKit
theorem cell_lt {W : World} {a : Addr} {y : Value} (h : W.cell? a = some y) : a.block < W.heap.size := by
  rcases Nat.lt_or_ge a.block W.heap.size with h1 | h1
  · exact h1
  · simp [World.cell?, Array.getElem?_eq_none h1] at h
/-- block g is just these cells, of element type t, none frozen -/
def Blk (w : World) (g : Nat) (t : TypeId) (cs : Array Value) : Prop := w.heap[g]? = some (.cells cs t (0, 0))
section
variable {w w' : World} {g : Nat} {t : TypeId} {cs : Array Value}
theorem Blk.lt (h : Blk w g t cs) : g < w.heap.size := (Array.getElem?_eq_some_iff.1 h).1
theorem Blk.cell (h : Blk w g t cs) (i : Nat) : w.cell? ⟨g, i, none⟩ = cs[i]? := cell_of_row w g i cs t (0, 0) h
theorem Blk.frozen (h : Blk w g t cs) (i : Nat) : w.frozen? ⟨g, i, none⟩ = false := by
  unfold Blk at h; simp [World.frozen?, h]
theorem Blk.new (w : World) (t : TypeId) (cs : Array Value) : Blk (w.alloc (.cells cs t)) w.heap.size t cs := heap_alloc_new w _
theorem Blk.drew (h : Blk w g t cs) : Blk w.drew g t cs := h
theorem Blk.alloc (h : Blk w g t cs) (o : Obj) : Blk (w.alloc o) g t cs := (Below.heap_alloc w o g h.lt).trans h
theorem Blk.set_ (h : Blk w g t cs) (i : Nat) (u : Value) : Blk (w.setCell ⟨g, i, none⟩ u) g t (cs.setIfInBounds i u) := by
  unfold Blk at h ⊢; simp [World.setCell, Array.getElem?_modify, h]
theorem Blk.far (h : Blk w g t cs) {p : Addr} (hp : g ≠ p.block) (u : Value) : Blk (w.setCell p u) g t cs := (Below.heap_setCell w p u g hp).trans h
theorem Blk.below {B : Nat} (h : Blk w g t cs) (hb : Below B w w') (hg : g < B) : Blk w' g t cs := (hb.block g hg).trans h
theorem Blk.bel (h : Blk w g t cs) (hb : Below w.heap.size w w') : Blk w' g t cs := (hb.block g h.lt).trans h
theorem Blk.grown (h : Blk w g t cs) {row : Option Nat} (hb : w.grownBy w' row) (hg : row ≠ some g) : Blk w' g t cs := (hb.block g h.lt (fun e => hg e.symm)).trans h
theorem Blk.ne_ {g' : Nat} {t' : TypeId} {cs' : Array Value} (h : Blk w g t cs) (h' : Blk w g' t' cs') (hne : t ≠ t') : g ≠ g' := by
  rintro rfl
  have := h.symm.trans h'
  simp only [Option.some.injEq, Obj.cells.injEq] at this
  exact hne this.2.1
end
/-- only the blocks of S may have turned; new ones may have come -/
structure Upd (S : Nat → Prop) (w w' : World) : Prop where
  os : w'.os = w.os
  tape : w'.tape = w.tape
  output : w'.output = w.output
  size : w.heap.size ≤ w'.heap.size
  block : ∀ k, k < w.heap.size → ¬ S k → w'.heap[k]? = w.heap[k]?
section
variable {S T : Nat → Prop} {w w' w'' : World}
theorem Upd.refl (S : Nat → Prop) (w : World) : Upd S w w := ⟨rfl, rfl, rfl, Nat.le_refl _, fun _ _ _ => rfl⟩
theorem Upd.trans (h : Upd S w w') (k : Upd S w' w'') : Upd S w w'' :=
  ⟨k.os.trans h.os, k.tape.trans h.tape, k.output.trans h.output, Nat.le_trans h.size k.size, fun i hi hS => (k.block i (Nat.lt_of_lt_of_le hi h.size) hS).trans (h.block i hi hS)⟩
theorem Upd.mono (h : Upd S w w') (hS : ∀ k, k < w.heap.size → S k → T k) : Upd T w w' := ⟨h.os, h.tape, h.output, h.size, fun k hk hT => h.block k hk (fun e => hT (hS k hk e))⟩
theorem Upd.drew (h : Upd S w w') : Upd S w w'.drew := ⟨h.os, h.tape, h.output, h.size, h.block⟩
theorem Upd.alloc (h : Upd S w w') (o : Obj) : Upd S w (w'.alloc o) :=
  h.trans ⟨rfl, rfl, rfl, by simp, fun k hk _ => Below.heap_alloc _ _ _ hk⟩
theorem Upd.setCell (h : Upd S w w') {p : Addr} (hp : p.block < w.heap.size → S p.block) (u : Value) : Upd S w (w'.setCell p u) :=
  ⟨h.os, h.tape, h.output, by simpa [World.setCell] using h.size, fun k hk hS => by
    rw [Below.heap_setCell _ _ _ _ (fun e => hS (by subst e; exact hp hk))]; exact h.block k hk hS⟩
theorem Upd.one (w : World) (h i : Nat) (u : Value) : Upd (· = h) w (w.setCell ⟨h, i, none⟩ u) := (Upd.refl (· = h) w).setCell (p := ⟨h, i, none⟩) (fun _ => rfl) u
theorem Upd.of_below (h : Below w.heap.size w w') (S : Nat → Prop) : Upd S w w' := ⟨h.os, h.tape, h.output, h.size, fun k hk _ => h.block k hk⟩
theorem Upd.below (h : Upd S w w') {B : Nat} (hB : B ≤ w.heap.size) (hS : ∀ k, k < B → ¬ S k) : Below B w w' := ⟨h.os, h.tape, h.output, h.size, fun k hk => h.block k (Nat.lt_of_lt_of_le hk hB) (hS k hk)⟩
theorem Upd.of_grown {row : Option Nat} (h : w.grownBy w' row) (hS : ∀ g, row = some g → S g) : Upd S w w' := ⟨h.os, h.tape, h.output, h.size, fun k hk hk' => h.block k hk (fun e => hk' (hS k e.symm))⟩
theorem Blk.upd {g : Nat} {t : TypeId} {cs : Array Value} (h : Blk w g t cs) (hu : Upd S w w') (hg : ¬ S g) : Blk w' g t cs := (hu.block g h.lt hg).trans h
end
theorem Own.updne {kd : IntKind} {e t : TypeId} {w w' : World} {base h : Nat} {v : Value} {l : List Int} {cs : Array Value} (ho : Own kd e w base v l) (hb : Blk w h t cs) (hne : e ≠ t) (hu : Upd (· = h) w w') : Own kd e w' base v l := by
  refine ho.keep (row := some h) ⟨hu.os, hu.tape, hu.output, hu.size, fun k hk hk' => hu.block k hk (fun e => hk' (by rw [e]))⟩ ?_
  rcases ho.row.2 with ⟨rfl, _⟩ | ⟨g, cap, cur, rfl, _, hh, _⟩
  · exact .inl rfl
  · refine .inr (fun e => ?_)
    have : g = h := by simpa [Value.ownBlock] using e
    exact Blk.ne_ (t := _) (cs := cur) hh hb hne this
/-- 'make([]T, n)', T of one cell -/
theorem make_one {P : Program} {z' : Value} (t e : TypeId) (i : TypeInfo) (z : Value) (ht : P.underlying t = some (.slice e)) (hi : P.info? e = some i) (hz : i.zero = some z) (hs : i.size = 1) (hc : z.cells = #[z'])
    (kl kc : IntKind) (n : Nat) (hb : i.bytes * n ≤ 281474976710656) (h63 : n ≤ 9223372036854775807) (w : World) :
    (Instr.makeSlice t (.int kl (n : Int)) (.int kc (n : Int))).run P w = .ok (.slice (some ⟨w.heap.size, 0, none⟩) n n) (w.alloc (.cells (Array.replicate n z') e)) := by
  have hb' : (i.bytes : Int) * (n : Int) ≤ 281474976710656 := by
    have h : ((i.bytes * n : Nat) : Int) ≤ 281474976710656 := by omega
    rwa [Int.natCast_mul] at h
  have hr := run_make (P := P) w t e i z ht hi hz kl kc n n (by omega) (by omega) hb' (by omega)
  simp only [Int.toNat_natCast, hs, Nat.mul_one, hc] at hr
  have : madeCells #[z'] n = Array.replicate n z' := by
    apply Array.ext
    · simp [madeCells]
    · intro j h1 h2; simp [madeCells, Nat.mod_one]
  rw [this] at hr
  exact hr
end Go.Proofs.YtilhkhnjloplfaaGreatDoor
namespace Go.Proofs.YtilhkhnjloplfaaGreatDoor
set_option linter.unusedVariables false
set_option linter.unusedSimpArgs false
open Go.RowKit
/-- the number of bytes -/
def numOf (l : List Int) : Int := l.foldl (fun n x => n * 256 + x) 0
theorem numOf_snoc (l : List Int) (x : Int) : numOf (l ++ [x]) = numOf l * 256 + x := by simp [numOf]
theorem numOf_bd (l : List Int) (h : ∀ x, x ∈ l → 0 ≤ x ∧ x ≤ 255) : ∀ n, n ≤ l.length → 0 ≤ numOf (l.take n) ∧ numOf (l.take n) < 256 ^ n := by
  intro n
  induction n with
  | zero => intro _; simp [numOf]
  | succ n ih =>
    intro hn
    have i := ih (by omega)
    have hx := h l[n] (List.getElem_mem (by omega))
    rw [List.take_succ_eq_append_getElem (by omega), numOf_snoc, Int.pow_succ]
    omega
/-- n from i on -/
def seg (l : List Int) (i n : Nat) : List Int := (l.drop i).take n
theorem seg_length (l : List Int) (i n : Nat) (h : i + n ≤ l.length) : (seg l i n).length = n := by simp [seg]; omega
theorem seg_mem {l : List Int} {i n : Nat} {x : Int} (h : x ∈ seg l i n) : x ∈ l := List.mem_of_mem_drop (List.mem_of_mem_take h)
def n2 (l : List Int) (i : Nat) : Int := numOf (seg l i 2)
def n4 (l : List Int) (i : Nat) : Int := numOf (seg l i 4)
section
variable {l : List Int} {i : Nat}
theorem n2_bd (hl : ∀ x, x ∈ l → 0 ≤ x ∧ x ≤ 255) (h : i + 2 ≤ l.length) : 0 ≤ n2 l i ∧ n2 l i ≤ 65535 := by
  have := numOf_bd (seg l i 2) (fun x hx => hl x (seg_mem hx)) 2 (by rw [seg_length l i 2 h]; omega)
  rw [List.take_of_length_le (by rw [seg_length l i 2 h]; omega)] at this
  unfold n2; omega
end
theorem drop_two (l : List Int) (i : Nat) (h : i + 2 ≤ l.length) : l.drop i = l.getD i 0 :: l.getD (i + 1) 0 :: l.drop (i + 2) := by
  rw [List.drop_eq_getElem_cons (by omega), List.drop_eq_getElem_cons (by omega)]
  simp [List.getD_eq_getElem?_getD, List.getElem?_eq_getElem (show i < l.length by omega), List.getElem?_eq_getElem (show i + 1 < l.length by omega)]
theorem n2_eq (l : List Int) (i : Nat) (h : i + 2 ≤ l.length) : n2 l i = l.getD i 0 * 256 + l.getD (i + 1) 0 := by
  unfold n2 seg; rw [drop_two l i h]; simp [numOf]
theorem n4_eq (l : List Int) (i : Nat) (h : i + 4 ≤ l.length) : n4 l i = ((l.getD i 0 * 256 + l.getD (i + 1) 0) * 256 + l.getD (i + 2) 0) * 256 + l.getD (i + 3) 0 := by
  unfold n4 seg; rw [drop_two l i (by omega), drop_two l (i + 2) (by omega)]; simp [numOf]
/-- one head -/
structure Hd where
  size : Int
  len : Int
  ttl : Int
  proto : Int
  src : Int
  dst : Int
deriving instance DecidableEq for Hd
def Hd.z : Hd := ⟨0, 0, 0, 0, 0, 0⟩
def hdOf (l : List Int) : Hd := ⟨l.getD 0 0 % 16 * 4, n2 l 2, l.getD 8 0, l.getD 9 0, n4 l 12, n4 l 16⟩
/-- what stands in the head's first byte, and the lengths -/
def shapeE (l : List Int) (most : Int) : Int :=
  if l.length < 20 then 2 else if l.getD 0 0 / 16 ≠ 4 ∨ l.getD 0 0 % 16 * 4 < 20 then 3 else if (l.length : Int) < l.getD 0 0 % 16 * 4 then 2
  else if n2 l 2 < l.getD 0 0 % 16 * 4 ∨ most < n2 l 2 then 3 else 0
def wholeE (l : List Int) : Int := if n2 l 6 % 16384 ≠ 0 then 5 else 0
def getE (l : List Int) : Int :=
  if shapeE l 1500 ≠ 0 then shapeE l 1500 else if (l.length : Int) < n2 l 2 then 2 else if sumOf (l.take (l.getD 0 0 % 16 * 4).toNat) ≠ 0 then 4 else wholeE l
def partE (l : List Int) : Int := if shapeE l 65535 ≠ 0 then shapeE l 65535 else wholeE l
/-- the head, where there is no error -/
def hdIf (l : List Int) (e : Int) : Hd := if e = 0 then hdOf l else Hd.z
theorem shape_cases (l : List Int) (most : Int) :
    (shapeE l most = 2 ∧ l.length < 20) ∨
    (shapeE l most = 3 ∧ 20 ≤ l.length ∧ (l.getD 0 0 / 16 == 4) = false ∧ (l.getD 0 0 / 16 != 4) = true) ∨
    (shapeE l most = 3 ∧ 20 ≤ l.length ∧ l.getD 0 0 / 16 = 4 ∧ l.getD 0 0 % 16 * 4 < 20) ∨
    (shapeE l most = 2 ∧ 20 ≤ l.length ∧ l.getD 0 0 / 16 = 4 ∧ 20 ≤ l.getD 0 0 % 16 * 4 ∧ (l.length : Int) < l.getD 0 0 % 16 * 4) ∨
    (shapeE l most = 3 ∧ 20 ≤ l.length ∧ l.getD 0 0 / 16 = 4 ∧ 20 ≤ l.getD 0 0 % 16 * 4 ∧ l.getD 0 0 % 16 * 4 ≤ l.length ∧ n2 l 2 < l.getD 0 0 % 16 * 4) ∨
    (shapeE l most = 3 ∧ 20 ≤ l.length ∧ l.getD 0 0 / 16 = 4 ∧ 20 ≤ l.getD 0 0 % 16 * 4 ∧ l.getD 0 0 % 16 * 4 ≤ l.length ∧ l.getD 0 0 % 16 * 4 ≤ n2 l 2 ∧ most < n2 l 2) ∨
    (shapeE l most = 0 ∧ 20 ≤ l.length ∧ l.getD 0 0 / 16 = 4 ∧ 20 ≤ l.getD 0 0 % 16 * 4 ∧ l.getD 0 0 % 16 * 4 ≤ l.length ∧ l.getD 0 0 % 16 * 4 ≤ n2 l 2 ∧ n2 l 2 ≤ most) := by
  unfold shapeE
  by_cases h1 : l.length < 20
  · left; rw [if_pos h1]; exact ⟨rfl, h1⟩
  rw [if_neg h1]
  by_cases h2 : l.getD 0 0 / 16 = 4
  · by_cases h3 : l.getD 0 0 % 16 * 4 < 20
    · rw [if_pos (.inr h3)]; exact .inr (.inr (.inl ⟨rfl, by omega, h2, h3⟩))
    rw [if_neg (by rintro (h | h); exact h h2; exact h3 h)]
    by_cases h4 : (l.length : Int) < l.getD 0 0 % 16 * 4
    · rw [if_pos h4]; exact .inr (.inr (.inr (.inl ⟨rfl, by omega, h2, by omega, h4⟩)))
    rw [if_neg h4]
    by_cases h5 : n2 l 2 < l.getD 0 0 % 16 * 4
    · rw [if_pos (.inl h5)]; exact .inr (.inr (.inr (.inr (.inl ⟨rfl, by omega, h2, by omega, by omega, h5⟩))))
    by_cases h6 : most < n2 l 2
    · rw [if_pos (.inr h6)]; exact .inr (.inr (.inr (.inr (.inr (.inl ⟨rfl, by omega, h2, by omega, by omega, by omega, h6⟩)))))
    · rw [if_neg (by omega)]; exact .inr (.inr (.inr (.inr (.inr (.inr ⟨rfl, by omega, h2, by omega, by omega, by omega, by omega⟩)))))
  · rw [if_pos (.inl h2)]; exact .inr (.inl ⟨rfl, by omega, by simpa using h2, by simpa using h2⟩)
/-- a head of twenty bytes, its sum s -/
def hd20 (ttl proto src dst n s : Int) : List Int :=
  [69, 0, n / 256, n % 256, 0, 0, 64, 0, ttl, proto, s / 256, s % 256, src / 16777216, src / 65536 % 256, src / 256 % 256, src % 256, dst / 16777216, dst / 65536 % 256, dst / 256 % 256, dst % 256]
def putL (ttl proto src dst : Int) (l : List Int) : List Int :=
  hd20 ttl proto src dst (20 + l.length) (sumOf (hd20 ttl proto src dst (20 + l.length) 0)) ++ l
end Go.Proofs.YtilhkhnjloplfaaGreatDoor
namespace Go.Proofs.YtilhkhnjloplfaaGreatDoor
set_option linter.unusedVariables false
set_option linter.unusedSimpArgs false
open Go.RowKit
section
variable {P : Program} {ops : Array Oper} {C : Array Bool → World → Prop}
def effUpon (P : Program) (C : World → Prop) (v : Value) : Result Next → Prop
  | .ok (.value u) w' => u = v ∧ C w'
  | .ok .skip w' => v = undef ∧ C w'
  | .ok (.enter f args) w' => Calls P f args w' (fun e w'' => e = .returned v ∧ C w'')
  | _ => False
def Ready (i : Nat) (o : Oper) (listed : Array Bool) : Prop := listed.getD i true = false ∧ ∀ e ∈ o.after, Region.binds .any e = true → listed.getD e.on false = true
def eff (P : Program) (C : Array Bool → World → Prop) (i : Nat) (o : Oper) (a : Act) (v : Value) : Prop :=
  ∀ listed w, Ready i o listed → C listed w → effUpon P (C (listed.setIfInBounds i true)) v ((execOp a.eval o).run P w)
def YE (P : Program) (ops : Array Oper) (C : Array Bool → World → Prop) (i : Nat) (o : Oper) (v : Value) (a : Act) : Prop :=
  (Region.wanted o (yielded ops a.tmps) = true ∧ eff P C i o a v) ∨
  (Region.wanted o (yielded ops a.tmps) = false ∧ v = undef ∧ ∀ listed w, Ready i o listed → C listed w → C (listed.setIfInBounds i true) w)
def eOp (P : Program) (ops : Array Oper) (C : Array Bool → World → Prop) (i : Nat) (K : Act → Prop) (a : Act) : Prop :=
  match ops[i]? with
  | none => K a
  | some o => ∃ v, YE P ops C i o v a ∧ K (a.put o.dst v)
def wpAnyE (P : Program) (ops : Array Oper) (C : Array Bool → World → Prop) (Q : Array Bool → Act → Prop) : Nat → Array Bool → Act → Prop
  | 0, listed, a => Region.ready .any ops listed = [] ∧ Q listed a
  | fuel + 1, listed, a =>
    (Region.ready .any ops listed = [] → Q listed a) ∧
    ∀ i ∈ Region.ready .any ops listed, eOp P ops C i (wpAnyE P ops C Q fuel (listed.setIfInBounds i true)) a
theorem eOp_mono {i : Nat} {a : Act} {K K' : Act → Prop} (h : ∀ a, K a → K' a) (hh : eOp P ops C i K a) : eOp P ops C i K' a := by
  unfold eOp at *
  split
  · exact h _ (by simpa [*] using hh)
  · rename_i o ho
    simp only [ho] at hh
    obtain ⟨v, h1, h2⟩ := hh
    exact ⟨v, h1, h _ h2⟩
theorem wpOp_of_eOp {i : Nat} {a : Act} {K : Act → Prop} {K' : Act → World → Prop} {Q' : Exit → Act → World → Prop} {w : World} {listed : Array Bool} (hi : i ∈ Region.ready .any ops listed) (hC : C listed w)
    (h : ∀ a w', C (listed.setIfInBounds i true) w' → K a → K' a w') (hh : eOp P ops C i K a) : wpOp P ops Q' i K' a w := by
  obtain ⟨h1, o, ho, h2⟩ := mem_ready.1 hi
  have hr : Ready i o listed := ⟨h1, h2⟩
  unfold eOp at hh
  simp only [ho] at hh
  obtain ⟨v, hy, hK⟩ := hh
  unfold wpOp
  simp only [ho]
  rcases hy with ⟨hw, he⟩ | ⟨hw, rfl, he⟩
  · simp only [hw, if_true]
    left
    have h3 := he listed w hr hC
    unfold Oper.wp
    generalize (execOp a.eval o).run P w = r at *
    cases r with
    | ok n w' =>
      cases n <;> simp only [effUpon] at h3 <;> simp only [Oper.upon]
      case value u =>
        obtain ⟨e1, e2⟩ := h3
        rw [e1]
        exact h _ _ e2 hK
      case skip =>
        obtain ⟨e1, e2⟩ := h3
        rw [← e1]
        exact h _ _ e2 hK
      case enter f args => exact h3.mono fun e w'' ⟨he, hw''⟩ => by subst he; exact h _ _ hw'' hK
    | halt x w' => simp only [effUpon] at h3
  · simp only [hw, Bool.false_eq_true, if_false]
    exact h _ _ (he listed w hr hC) hK
theorem wpAny_of_E {Q : Array Bool → Act → Prop} {Q' : Exit → Act → World → Prop} (hQ : ∀ listed a w, C listed w → Q listed a → Q' .normal a w) : ∀ (fuel : Nat) (listed : Array Bool) (a : Act) (w : World), C listed w →
    wpAnyE P ops C Q fuel listed a → wpAny P .any ops Q' fuel listed a w
  | 0, _, _, _, hw, h => ⟨h.1, hQ _ _ _ hw h.2⟩
  | fuel + 1, _, _, _, hw, h => ⟨fun h0 => hQ _ _ _ hw (h.1 h0), fun i hi => wpOp_of_eOp hi hw (fun a' w' hw' => wpAny_of_E hQ fuel _ a' w' hw') (h.2 i hi)⟩
theorem YE.of_same {i : Nat} {o : Oper} {v : Value} {a a' : Act} (hy : YE P ops C i o v a) (he : execOp a'.eval o = execOp a.eval o)
    (hw : Region.wanted o (yielded ops a'.tmps) = Region.wanted o (yielded ops a.tmps)) : YE P ops C i o v a' := by
  unfold YE eff at *
  rw [he, hw]
  exact hy
theorem eOp_put {i j : Nat} {oi oj : Oper} {v : Value} (hj : ops[j]? = some oj) (hap : oi.apart ops oj = true)
    (hsi : ∀ cs b, oi.op ≠ .select cs b) (hsj : ∀ cs b, oj.op ≠ .select cs b) {K : Act → Prop} {a : Act}
    (hy : YE P ops C i oi v a) (h : eOp P ops C j K (a.put oi.dst v)) :
    eOp P ops C j (fun a' => YE P ops C i oi v a' ∧ K (a'.put oi.dst v)) a := by
  obtain ⟨h1, h2, h3⟩ := Oper.apart_spec hap
  have keep : ∀ (a : Act), YE P ops C i oi v a → ∀ u, YE P ops C i oi v (a.put oj.dst u) := fun a hy u =>
    hy.of_same (execOp_put oi hsi a oj.dst u h3) (wanted_put oi a oj.dst u h3)
  unfold eOp at *
  simp only [hj] at *
  obtain ⟨u, hu, hn⟩ := h
  refine ⟨u, ?_, keep a hy u, by rw [← Act.put_comm a v u h2]; exact hn⟩
  exact hu.of_same (execOp_put oj hsj a oi.dst v h1).symm (wanted_put oj a oi.dst v h1).symm
theorem wpAnyE_first {Q : Array Bool → Act → Prop} {i : Nat} {oi : Oper} {v : Value} (hi : ops[i]? = some oi) (hsel : ∀ (j : Nat) (o : Oper) cs b, ops[j]? = some o → o.op ≠ .select cs b) :
    ∀ (fuel : Nat) (listed : Array Bool) (a : Act),
      (∀ j oj, ops[j]? = some oj → j ≠ i → listed.getD j true = false → (∀ e ∈ oj.after, Region.binds .any e = true → e.on ≠ i) → oi.apart ops oj = true) →
      i ∈ Region.ready .any ops listed → YE P ops C i oi v a →
      wpAnyE P ops C Q fuel (listed.setIfInBounds i true) (a.put oi.dst v) → wpAnyE P ops C Q (fuel + 1) listed a := by
  intro fuel
  have hdo : ∀ {listed : Array Bool} {a : Act} {K : Act → Prop}, YE P ops C i oi v a → K (a.put oi.dst v) → eOp P ops C i K a := fun hy hK => by
    unfold eOp; simp only [hi]; exact ⟨v, hy, hK⟩
  induction fuel with
  | zero =>
    intro listed a _ hr hy H
    refine ⟨fun h => (by rw [h] at hr; cases hr), fun j hj => ?_⟩
    by_cases hji : j = i
    · subst hji; exact hdo (listed := listed) hy H
    · have := ready_mono hj hji
      rw [H.1] at this
      cases this
  | succ fuel ih =>
    intro listed a hfree hr hy H
    refine ⟨fun h => (by rw [h] at hr; cases hr), fun j hj => ?_⟩
    by_cases hji : j = i
    · subst hji; exact hdo (listed := listed) hy H
    · have h1 := H.2 j (ready_mono hj hji)
      obtain ⟨hjun, oj, hoj, hall⟩ := mem_ready.1 hj
      have hnot : ∀ e ∈ oj.after, Region.binds .any e = true → e.on ≠ i := fun e he hb heq => by
        have h1 := hall e he hb
        have h0 := (mem_ready.1 hr).1
        rw [heq] at h1
        rcases Nat.lt_or_ge i listed.size with h' | h'
        · simp [h'] at h0 h1; rw [h0] at h1; cases h1
        · simp [Array.getElem?_eq_none h'] at h1
      have h2 := eOp_put hoj (hfree j oj hoj hji hjun hnot) (fun cs b => hsel i oi cs b hi) (fun cs b => hsel j oj cs b hoj) hy h1
      have hfree' : ∀ k ok, ops[k]? = some ok → k ≠ i → (listed.setIfInBounds j true).getD k true = false →
          (∀ e ∈ ok.after, Region.binds .any e = true → e.on ≠ i) → oi.apart ops ok = true := fun k ok hk hki hun hno => by
        refine hfree k ok hk hki ?_ hno
        by_cases hjk : j = k
        · subst hjk; exact hjun
        · rw [getD_set_ne true hjk] at hun; exact hun
      refine eOp_mono (fun a' h3 => ih (listed.setIfInBounds j true) a' hfree' (ready_mono hr (Ne.symm hji)) h3.1 ?_) h2
      rw [Array.setIfInBounds_comm _ _ hji]
      exact h3.2
/-- the walk in the order of the text -/
def wpE (P : Program) (ops : Array Oper) (C : Array Bool → World → Prop) (Q : Act → Prop) : Nat → List Oper → Act → Prop
  | _, [], a => Q a
  | k, o :: l, a => ∃ v, YE P ops C k o v a ∧ wpE P ops C Q (k + 1) l (a.put o.dst v)
def sets : Array Bool → Nat → Nat → Array Bool
  | listed, _, 0 => listed
  | listed, k, n + 1 => sets (listed.setIfInBounds k true) (k + 1) n
theorem wpAnyE_lex {Q : Array Bool → Act → Prop} (hs : Region.noSelect ops = true) : ∀ (l : List Oper) (k : Nat) (listed : Array Bool) (a : Act), (∀ j, l[j]? = ops[k + j]?) →
    Region.lexFrom .any ops l.length k listed = true → wpE P ops C (Q (sets listed k l.length)) k l a → wpAnyE P ops C Q l.length listed a
  | [], _, _, _, _, hB, h => ⟨by simpa [Region.lexFrom] using hB, h⟩
  | o :: l, k, listed, a, hl, hB, h => by
    have h0 : ops[k]? = some o := by simpa using (hl 0).symm
    simp only [List.length_cons, Region.lexFrom, Bool.and_eq_true] at hB
    obtain ⟨⟨hr, hf⟩, hB'⟩ := hB
    obtain ⟨v, hy, hK⟩ := h
    exact wpAnyE_first h0 (Region.noSelect_spec hs) l.length listed a (Region.free_spec h0 hf) (by simpa using hr) hy
      (wpAnyE_lex hs l (k + 1) _ _ (fun j => by have := hl (j + 1); simpa [Nat.add_assoc, Nat.add_comm 1 j] using this) hB' hK)
theorem wp_region_E {id : Nat} {Q : Exit → Act → World → Prop} {a : Act} {w : World} {l : List Oper} (C : Array Bool → World → Prop) (hm : P.follows .mixedOrders = true) (hB : Region.lexB .any l.toArray = true) (hC : C (Array.replicate l.length false) w.drew)
    (h : wpE P l.toArray C (fun a' => ∀ w', C (sets (Array.replicate l.length false) 0 l.length) w' → Q .normal a' w') 0 l a) : (Code.region id l.toArray true).wp P Q a w := by
  simp only [Region.lexB, Bool.and_eq_true] at hB
  refine wp_region_any hm (wpAny_of_E (Q := fun L a' => ∀ w', C L w' → Q .normal a' w') (C := C) (fun _ _ w' hw' h => h w' hw') _ _ _ _ (by simpa using hC) ?_)
  have := wpAnyE_lex (C := C) (Q := fun L a' => ∀ w', C L w' → Q .normal a' w') hB.1 l 0 (Array.replicate l.toArray.size false) a (by simp) (by simpa using hB.2) (by simpa using h)
  simpa using this
def isV : Op → Bool
  | .move _ | .assign _ | .pick .. | .load .. | .binOp .. | .unOp .. | .convert .. | .slice .. | .fieldAddr .. | .field .. | .indexAddr .. | .index .. | .extract .. | .build .. | .nilCheck _ => true
  | .call c => match c.callee with
    | .builtin .len | .builtin .cap | .builtin .min | .builtin .max => true
    | _ => false
  | _ => false
theorem andThen_ok' {α β : Type} {r : Result α} {f : α → World → Result β} {n : β} {w' : World} (h : r.andThen f = .ok n w') : ∃ u w1, r = .ok u w1 ∧ f u w1 = .ok n w' := by
  cases r with
  | ok u w1 => exact ⟨u, w1, rfl, by simpa using h⟩
  | halt x w1 => simp [Result.andThen] at h
theorem nilCheck_spec {x : Operand} {ρ : Operand → Value} {w w' : World} {n : Next} {o : Oper} (ho : o.op = .nilCheck x) (h : (execOp ρ o).run P w = .ok n w') : ∃ u, n = .value u := by
  unfold execOp at h
  simp only [ho] at h
  split at h
  · simp [runtimePanic] at h
  · simp [runtimePanic] at h
  · simp [runtimePanic] at h
  · split at h
    · simp [runtimePanic] at h
    · simp only [Sem.run_bind] at h
      obtain ⟨_, _, _, h⟩ := andThen_ok' h
      obtain ⟨_, _, _, h⟩ := andThen_ok' h
      split at h
      · obtain ⟨_, _, _, h⟩ := andThen_ok' (by simpa only [Sem.run_bind] using h)
        simp only [Sem.run_pure, Result.ok.injEq] at h; exact ⟨_, h.1.symm⟩
      · simp only [Sem.run_pure, Result.ok.injEq] at h; exact ⟨_, h.1.symm⟩
    · simp only [Sem.run_pure, Result.ok.injEq] at h; exact ⟨_, h.1.symm⟩
  · simp only [Sem.run_pure, Result.ok.injEq] at h; exact ⟨_, h.1.symm⟩
theorem isV_spec {o : Oper} {ρ : Operand → Value} {w w' : World} {n : Next} (hv : isV o.op = true) (h : (execOp ρ o).run P w = .ok n w') : ∃ u, n = .value u := by
  have key : ∀ (s : Sem Value), (do pure (Next.value (← s)) : Sem Next).run P w = .ok n w' → ∃ u, n = .value u := fun s hs => by
    simp only [Sem.run_bind] at hs
    cases hr : s.run P w with
    | ok u w1 => rw [hr] at hs; simp only [Result.andThen_ok, Sem.run_pure, Result.ok.injEq] at hs; exact ⟨u, hs.1.symm⟩
    | halt x w1 => rw [hr] at hs; simp [Result.andThen] at hs
  have hn : ∀ x, o.op = .nilCheck x → ∃ u, n = .value u := fun x ho => nilCheck_spec ho h
  unfold execOp at h
  cases ho : o.op <;> rw [ho] at hv <;> simp only [isV, Bool.false_eq_true] at hv <;> simp only [ho] at h
  case nilCheck x => exact hn x ho
  case move x => simp only [Sem.run_pure, Result.ok.injEq] at h; exact ⟨_, h.1.symm⟩
  case assign x => simp only [Sem.run_pure, Result.ok.injEq] at h; exact ⟨_, h.1.symm⟩
  case pick c x y =>
    simp only [Sem.run_bind] at h
    cases hr : (asBool (ρ c)).run P w with
    | ok u w1 => rw [hr] at h; simp only [Result.andThen_ok, Sem.run_pure, Result.ok.injEq] at h; exact ⟨_, h.1.symm⟩
    | halt x w1 => rw [hr] at h; simp [Result.andThen] at h
  case call c =>
    unfold resolve at h
    cases hc : c.callee with
    | builtin b =>
      cases b <;> simp only [hc, Bool.false_eq_true] at hv <;> simp only [hc, Sem.run_bind, Sem.run_pure, Result.andThen_ok, invoke, builtin] at h <;> exact key _ (by simpa only [Sem.run_bind, Sem.run_pure] using h)
    | _ => simp only [hc, Bool.false_eq_true] at hv
  all_goals exact key _ h
/-- operations that only reckon and read, one value each in all the worlds of D -/
theorem wpE_qs {D : World → Prop} {Q : Act → Prop} (hD : ∀ listed w, C listed w → D w) : ∀ (n : Nat) (l : List Oper) (k : Nat) (a : Act),
    ((l.take n).all fun o => isV o.op) = true → n ≤ l.length → (∀ i, k ≤ i → i < k + n → ∀ listed w, C listed w → C (listed.setIfInBounds i true) w) →
    wpQuiet P ops D (fun a' => wpE P ops C Q (k + n) (l.drop n) a') (l.take n) a → wpE P ops C Q k l a
  | 0, l, k, a, _, _, _, h => h
  | n + 1, [], k, a, _, hn, _, _ => by simp at hn
  | n + 1, o :: l, k, a, hv, hn, hk, h => by
    simp only [List.take_succ_cons, List.all_cons, Bool.and_eq_true] at hv
    simp only [List.take_succ_cons, List.drop_succ_cons, wpQuiet] at h
    have ih := fun a' h' => wpE_qs (Q := Q) hD n l (k + 1) a' hv.2 (by simpa using hn) (fun i h1 h2 => hk i (by omega) (by omega)) h'
    rw [show k + (n + 1) = k + 1 + n by omega] at h
    have hk0 := hk k (Nat.le_refl _) (by omega)
    by_cases hw : Region.wanted o (yielded ops a.tmps) = true
    · rw [if_pos hw] at h
      obtain ⟨v, h1, h2⟩ := h
      refine ⟨v, .inl ⟨hw, fun listed w hr hC => ?_⟩, ih _ h2⟩
      have h3 := h1 w (hD _ _ hC)
      unfold Oper.quietAt at h3
      cases hr : (execOp a.eval o).run P w with
      | ok nx w' =>
        obtain ⟨u, rfl⟩ := isV_spec hv.1 hr
        rw [hr] at h3
        simp only [Oper.quietUpon] at h3
        simp only [effUpon]
        exact ⟨h3.2, by rw [h3.1]; exact hk0 _ _ hC⟩
      | halt x w' => rw [hr] at h3; simp only [Oper.quietUpon] at h3
    · rw [if_neg hw] at h
      exact ⟨undef, .inr ⟨by simpa using hw, rfl, fun listed w _ hC => hk0 _ _ hC⟩, ih _ h⟩
/-- one operation with an effect, or a call -/
theorem wpE_do {Q : Act → Prop} {o : Oper} {l : List Oper} {k : Nat} {a : Act} (hw : Region.wanted o (yielded ops a.tmps) = true) (v : Value)
    (h : ∀ K : Act → Prop, (∀ a, wpE P ops C Q (k + 1) l a → K a) → eff P C k o a v ∧ K (a.put o.dst v)) : wpE P ops C Q k (o :: l) a :=
  ⟨v, .inl ⟨hw, (h _ fun _ h => h).1⟩, (h _ fun _ h => h).2⟩
end
theorem drewN_setCell_ (w : World) (n : Nat) (a : Addr) (v : Value) : (w.drewN n).setCell a v = (w.setCell a v).drewN n := rfl
theorem drewN_alloc_ (w : World) (n : Nat) (o : Obj) : (w.drewN n).alloc o = (w.alloc o).drewN n := rfl
attribute [go_sem] drewN_setCell_ drewN_alloc_
section
variable {P : Program} {ops : Array Oper} {md : Region.Mode} {w : World}
/-- all operations behind number n wait for it, or for one that does -/
def gateB (md : Region.Mode) (ops : Array Oper) (n : Nat) : Bool :=
  (List.range ops.size).all fun t => decide (t ≤ n) || (List.range t).any fun s => decide (n ≤ s) && Region.waitsFor md ops t s
end
/-- which of two effects are done -/
def cd : Bool → Bool → Nat
  | false, false => 0
  | true, false => 1
  | false, true => 2
  | true, true => 3
/-- two effects, i ahead of j -/
def cls2 (i j : Nat) (F : Nat → World) (listed : Array Bool) (w : World) : Prop := (listed.getD j false = true → listed.getD i false = true) ∧ ∃ m, w = (F (cd (listed.getD i false) (listed.getD j false))).drewN m
/-- two effects in any order -/
def cls2f (i j : Nat) (F : Nat → World) (listed : Array Bool) (w : World) : Prop := ∃ m, w = (F (cd (listed.getD i false) (listed.getD j false))).drewN m
structure Tm where
  t : Nat
  m : Nat
instance : Inhabited Tm := ⟨⟨0, 0⟩⟩
def dom2 (F : Nat → World) (w : World) : Prop := ∃ q : Tm, w = (F q.t).drewN q.m
def four (W0 W1 W2 W3 : World) : Nat → World
  | 0 => W0
  | 1 => W1
  | 2 => W2
  | _ => W3
theorem four_all {W0 W1 W2 W3 : World} {p : World → Prop} (h0 : p W0) (h1 : p W1) (h2 : p W2) (h3 : p W3) (t : Nat) : p (four W0 W1 W2 W3 t) := by
  match t with
  | 0 => exact h0
  | 1 => exact h1
  | 2 => exact h2
  | _ + 3 => exact h3
section
variable {i j k : Nat} {F : Nat → World} {listed : Array Bool} {w : World}
theorem getD_both_ {listed : Array Bool} {i : Nat} (h : listed.getD i true = false) : listed.getD i false = false := by
  rcases Nat.lt_or_ge i listed.size with h' | h'
  · simp [h'] at h ⊢; exact h
  · simp [Array.getElem?_eq_none h'] at h
theorem getD_self {listed : Array Bool} {i : Nat} (h : listed.getD i true = false) : (listed.setIfInBounds i true).getD i false = true := by
  rcases Nat.lt_or_ge i listed.size with h' | h'
  · simp [h']
  · simp [Array.getElem?_eq_none h'] at h
theorem cls2.dom (h : cls2 i j F listed w) : dom2 F w := let ⟨_, m, e⟩ := h; ⟨⟨_, m⟩, e⟩
theorem cls2f.dom (h : cls2f i j F listed w) : dom2 F w := let ⟨m, e⟩ := h; ⟨⟨_, m⟩, e⟩
theorem cls2.form (h : cls2 i j F listed w) : ∃ t m, w = (F t).drewN m := ⟨_, h.2⟩
theorem cls2f.form (h : cls2f i j F listed w) : ∃ t m, w = (F t).drewN m := ⟨_, h⟩
theorem cls2.keep (h : cls2 i j F listed w) (h1 : k ≠ i) (h2 : k ≠ j) : cls2 i j F (listed.setIfInBounds k true) w := by
  unfold cls2 at *; rw [getD_set_ne false h1, getD_set_ne false h2]; exact h
theorem cls2f.keep (h : cls2f i j F listed w) (h1 : k ≠ i) (h2 : k ≠ j) : cls2f i j F (listed.setIfInBounds k true) w := by
  unfold cls2f at *; rw [getD_set_ne false h1, getD_set_ne false h2]; exact h
theorem cls2.at1 (h : cls2 i j F listed w) (hr : listed.getD i true = false) : ∃ m, w = (F 0).drewN m := by
  obtain ⟨h1, m, h2⟩ := h
  have e := getD_both_ hr
  rw [e] at h1 h2
  have e2 : listed.getD j false = false := by cases h : listed.getD j false <;> simp_all
  rw [e2] at h2
  exact ⟨m, h2⟩
theorem cls2.at2 (h : cls2 i j F listed w) (hr : listed.getD j true = false) (hi : listed.getD i false = true) : ∃ m, w = (F 1).drewN m := by
  obtain ⟨h1, m, h2⟩ := h
  rw [hi, getD_both_ hr] at h2
  exact ⟨m, h2⟩
theorem cls2.to1 (hij : i ≠ j) (h : cls2 i j F listed w) (hr : listed.getD i true = false) (m : Nat) : cls2 i j F (listed.setIfInBounds i true) ((F 1).drewN m) := by
  have e2 : listed.getD j false = false := by cases h' : listed.getD j false; rfl; have := h.1 h'; rw [getD_both_ hr] at this; cases this
  unfold cls2; rw [getD_self hr, getD_set_ne false hij, e2]
  exact ⟨fun _ => rfl, m, rfl⟩
theorem cls2.to2 (hij : i ≠ j) (hr : listed.getD j true = false) (hi : listed.getD i false = true) (m : Nat) : cls2 i j F (listed.setIfInBounds j true) ((F 3).drewN m) := by
  unfold cls2; rw [getD_self hr, getD_set_ne false (Ne.symm hij), hi]
  exact ⟨fun _ => rfl, m, rfl⟩
theorem cls2.end_ (h : cls2 i j F listed w) (hi : listed.getD i false = true) (hj : listed.getD j false = true) : ∃ m, w = (F 3).drewN m := by
  obtain ⟨_, m, h2⟩ := h
  rw [hi, hj] at h2; exact ⟨m, h2⟩
theorem cls2f.end_ (h : cls2f i j F listed w) (hi : listed.getD i false = true) (hj : listed.getD j false = true) : ∃ m, w = (F 3).drewN m := by
  obtain ⟨m, h2⟩ := h
  rw [hi, hj] at h2; exact ⟨m, h2⟩
theorem cls2f.at1 (h : cls2f i j F listed w) (hr : listed.getD i true = false) : ∃ y m, listed.getD j false = y ∧ w = (F (cd false y)).drewN m := by
  obtain ⟨m, h2⟩ := h
  rw [getD_both_ hr] at h2
  exact ⟨_, m, rfl, h2⟩
theorem cls2f.at2 (h : cls2f i j F listed w) (hr : listed.getD j true = false) : ∃ x m, listed.getD i false = x ∧ w = (F (cd x false)).drewN m := by
  obtain ⟨m, h2⟩ := h
  rw [getD_both_ hr] at h2
  exact ⟨_, m, rfl, h2⟩
theorem cls2f.to1 (hij : i ≠ j) (hr : listed.getD i true = false) {y : Bool} (hy : listed.getD j false = y) (m : Nat) : cls2f i j F (listed.setIfInBounds i true) ((F (cd true y)).drewN m) := by
  unfold cls2f; rw [getD_self hr, getD_set_ne false hij, hy]; exact ⟨m, rfl⟩
theorem cls2f.to2 (hij : i ≠ j) (hr : listed.getD j true = false) {x : Bool} (hx : listed.getD i false = x) (m : Nat) : cls2f i j F (listed.setIfInBounds j true) ((F (cd x true)).drewN m) := by
  unfold cls2f; rw [getD_self hr, getD_set_ne false (Ne.symm hij), hx]; exact ⟨m, rfl⟩
end
end Go.Proofs.YtilhkhnjloplfaaGreatDoor
namespace Go.Proofs.YtilhkhnjloplfaaGreatDoor
set_option linter.unusedVariables false
set_option linter.unusedSimpArgs false
open Go.RowKit
set_option maxHeartbeats 400000 in
theorem fold_any (n : Int) (w : World) (h0 : 0 ≤ n) (h1 : n ≤ 4611686018427387904) :
    Calls Tryz.prog 83 #[.int .u64 n] w fun e w' => e = .returned (.int .u32 (fo n)) ∧ w = w' := by
  go_enter Tryz.func83, Tryz.ntmps83
  go_wp2
  go_loop [0] (fun i => ∃ k : Int, 0 ≤ k ∧ k ≤ 4611686018427387904 ∧ fo k = fo n ∧ i = .int .u64 k) (fun i => (intOf i).toNat)
  case atStart => exact ⟨n, h0, h1, rfl, rfl⟩
  case round =>
    obtain ⟨k, hk0, hk1, hk2, rfl⟩ := hrel
    have H := Lib.hid hk2; clear hk2
    go_wp2
    · have hk : 65535 < k := by assumption
      exact ⟨⟨_, by omega, by omega, by rw [fo_step hk]; exact H.out, rfl⟩, by simp [intOf]; omega⟩
    · have hk : k ≤ 65535 := by assumption
      go_ret
      exact ⟨by rw [← H.out, fo_small hk0 hk]; rfl, rfl⟩
set_option maxHeartbeats 400000 in
theorem More_any (n : Int) (l : List Int) (A : Option Addr) (len c B : Nat) (w : World) (h0 : 0 ≤ n) (h1 : n ≤ 4294967295) (hl : len ≤ 100000) (hr : Rd .u8 w B A len l) :
    Calls Tryz.prog 75 #[.int .u32 n, .slice A len c] w fun e w' => e = .returned (.int .u32 (fo (n + sb true l))) ∧ w = w' := by
  have hb := sb_bd l (fun x hx => inr_u8 (hr.rng x hx)) true
  have hlen := Lib.hid hr.len
  rw [hr.len] at hb
  go_enter Tryz.func75, Tryz.ntmps75
  go_wp2
  go_loop [5, 6, 7, 8, 13] (fun s i c' sh ix => ∃ k : Nat, k ≤ len ∧ ix = .int .i64 k ∧ s = .int .u64 (n + sb true (l.take k))) (fun _ _ _ _ ix => len - (intOf ix).toNat)
  case atStart => exact ⟨0, by omega, rfl, by simp [sb]⟩
  case round =>
    obtain ⟨k, hk, rfl, rfl⟩ := hrel
    by_cases hlt : k < len
    · obtain ⟨b, o, rfl, hbl, hc, hx⟩ := hr.at_ hlt
      have hx := inr_u8 hx
      have HS := Lib.hid (sb_take l k (by rw [hlen.out]; exact hlt))
      have hb1 := (sb_bd (l.take k) (fun x hx => inr_u8 (hr.rng x (List.mem_of_mem_take hx))) true)
      rw [List.length_take_of_le (by rw [hlen.out]; omega)] at hb1
      rw [List.getD_eq_getElem?_getD] at hx
      clear hlen
      rcases Nat.mod_two_eq_zero_or_one k with e | e
      all_goals
        have e' : (k : Int) % 2 = (k % 2 : Nat) := by omega
        rw [e] at e'
        go_wp2
        exact ⟨⟨k + 1, by omega, by go_num, by rw [HS.out, e, List.getD_eq_getElem?_getD]; go_num⟩, by simp [intOf]; omega⟩
    · have hke : Hid (k = len) := Nat.le_antisymm hk (by omega)
      have hk2 : 0 ≤ sb true (l.take k) ∧ sb true (l.take k) ≤ len * 65280 := by rw [List.take_of_length_le (by rw [hlen.out, hke.out]; omega)]; exact hb
      go_wp2_with (go_at_call 83; refine (fold_any _ _ (by omega) (by omega)).mono ?_; rintro e w' ⟨rfl, rfl⟩)
      go_ret
      exact ⟨by rw [List.take_of_length_le (by rw [hlen.out, hke.out]; omega)]; rfl, rfl⟩
theorem Done_any (n : Int) (w : World) (h0 : 0 ≤ n) (h1 : n ≤ 4294967295) :
    Calls Tryz.prog 74 #[.int .u32 n] w fun e w' => e = .returned (.int .u16 (65535 - fo n)) ∧ w = w' := by
  have hb := fo_bd h0
  have hx := cpl_u16 (fo n) hb
  go_enter Tryz.func74, Tryz.ntmps74
  go_wp2_with (go_at_call 83; refine (fold_any _ _ (by omega) (by omega)).mono ?_; rintro e w' ⟨rfl, rfl⟩)
  go_ret
  exact ⟨rfl, rfl⟩
theorem Of_any (l : List Int) (A : Option Addr) (len c B : Nat) (w : World) (hl : len ≤ 100000) (hr : Rd .u8 w B A len l) :
    Calls Tryz.prog 55 #[.slice A len c] w fun e w' => e = .returned (.int .u16 (sumOf l)) ∧ w = w' := by
  have hs := (sb_bd l (fun x hx => inr_u8 (hr.rng x hx)) true).1
  have hb := fo_bd hs
  have H := Lib.hid (show fo (0 + sb true l) = fo (sb true l) by rw [Int.zero_add])
  have H2 := fo_fo _ hs
  go_enter Tryz.func55, Tryz.ntmps55
  go_wp2_with (first | (go_at_call 75; refine (More_any 0 l A len c B _ (by omega) (by omega) hl hr).mono ?_; rw [H.out]; rintro e w' ⟨rfl, rfl⟩) | (go_at_call 74; refine (Done_any _ _ (by omega) (by omega)).mono ?_; rintro e w' ⟨rfl, rfl⟩))
  go_ret
  exact ⟨rfl, rfl⟩
end Go.Proofs.YtilhkhnjloplfaaGreatDoor
namespace Go.Proofs.YtilhkhnjloplfaaGreatDoor
set_option linter.unusedVariables false
set_option linter.unusedSimpArgs false
end Go.Proofs.YtilhkhnjloplfaaGreatDoor
namespace Go.Proofs.YtilhkhnjloplfaaGreatDoor
set_option linter.unusedVariables false
set_option linter.unusedSimpArgs false
open Go.RowKit
/-- the row v of w has become v', which holds l: nothing else that was there has turned -/
structure App (w w' : World) (base : Nat) (v v' : Value) (l : List Int) : Prop where
  own : Own .u8 5 w' base v' l
  upd : Upd (fun k => v.ownBlock = some k) w w'
  blk : ∀ g, v'.ownBlock = some g → v.ownBlock = some g ∨ w.heap.size ≤ g
section
variable {w w1 w2 : World} {base : Nat} {v v1 v2 : Value} {l l1 l2 : List Int}
theorem App.refl (h : Own .u8 5 w base v l) : App w w base v v l := ⟨h, Upd.refl _ _, fun _ h => .inl h⟩
theorem App.trans (h : App w w1 base v v1 l1) (k : App w1 w2 base v1 v2 l2) : App w w2 base v v2 l2 := by
  refine ⟨k.own, ⟨k.upd.os.trans h.upd.os, k.upd.tape.trans h.upd.tape, k.upd.output.trans h.upd.output, Nat.le_trans h.upd.size k.upd.size, fun i hi hS => ?_⟩, fun g hg => ?_⟩
  · refine (k.upd.block i (Nat.lt_of_lt_of_le hi h.upd.size) fun e => ?_).trans (h.upd.block i hi hS)
    rcases h.blk i e with h1 | h1
    · exact hS h1
    · omega
  · rcases k.blk g hg with h1 | h1
    · exact h.blk g h1
    · exact .inr (Nat.le_trans h.upd.size h1)
theorem App.alloc (h : App w w1 base v v1 l) (o : Obj) : App w (w1.alloc o) base v v1 l := ⟨h.own.alloc o, h.upd.alloc o, h.blk⟩
theorem App.drew (h : App w w1 base v v1 l) : App w w1.drew base v v1 l := ⟨h.own.drew, h.upd.drew, h.blk⟩
/-- one append -/
theorem App.app (h : App w w1 base v v1 l) (own : Own .u8 5 w2 base v2 l2) (hg : w1.grownBy w2 v1.ownBlock) (hb : v2.ownBlock = v1.ownBlock ∨ v2.ownBlock = some w1.heap.size) : App w w2 base v v2 l2 := by
  refine h.trans ⟨own, Upd.of_grown hg fun g hg => hg, fun g hg' => ?_⟩
  rcases hb with hb | hb
  · left; rw [← hb]; exact hg'
  · right; rw [hb] at hg'; injection hg' with e; omega
theorem Own.notBlk {kd : IntKind} {e t : TypeId} {g : Nat} {cs : Array Value} (ho : Own kd e w base v l) (hb : Blk w g t cs) (hne : e ≠ t) : v.ownBlock ≠ some g := by
  intro hv
  rcases ho.row.2 with ⟨rfl, _⟩ | ⟨g', cap, cur, rfl, _, hh, _⟩
  · simp [Value.ownBlock] at hv
  · have : g' = g := by simpa [Value.ownBlock] using hv
    exact Blk.ne_ (cs := cur) hh hb hne this
theorem App.keep {t : TypeId} {g : Nat} {cs : Array Value} (h : App w w1 base v v1 l) (ho : v.ownBlock ≠ some g) (hb : Blk w g t cs) : Blk w1 g t cs := hb.upd h.upd ho
theorem App.below (h : App w w1 base v v1 l) {B : Nat} (hB : B ≤ w.heap.size) (hv : ∀ g, v.ownBlock = some g → B ≤ g) : Below B w w1 := h.upd.below hB fun k hk e => by have := hv k e; omega
end
theorem info_u8_ : (Tryz.prog.info? 5).map (fun i => (i.zero, i.size, i.bytes)) = some (some (.int .u8 0), 1, 1) := by kernel_rfl
def be2 (n : Int) : List Int := [n / 256, n % 256]
def be4 (n : Int) : List Int := [n / 16777216, n / 65536 % 256, n / 256 % 256, n % 256]
theorem be2_bd (n : Int) (h : 0 ≤ n ∧ n ≤ 65535) : ∀ x, x ∈ be2 n → 0 ≤ x ∧ x ≤ 255 := by intro x hx; simp [be2] at hx; omega
theorem be4_bd (n : Int) (h : 0 ≤ n ∧ n ≤ 4294967295) : ∀ x, x ∈ be4 n → 0 ≤ x ∧ x ≤ 255 := by intro x hx; simp [be4] at hx; omega
/-- what an appending call leaves -/
def Puts (w : World) (base : Nat) (v : Value) (l : List Int) (e : Ending) (w' : World) : Prop := ∃ v', e = .returned v' ∧ App w w' base v v' l
end Go.Proofs.YtilhkhnjloplfaaGreatDoor
namespace Go.Proofs.YtilhkhnjloplfaaGreatDoor
set_option linter.unusedVariables false
set_option linter.unusedSimpArgs false
open Go.RowKit
theorem sumOf_null (l : List Int) (q : Int) (hq : 0 < q) (h : sb true l = 65535 * q) : sumOf l = 0 := by
  unfold sumOf fo; rw [h, if_neg (by omega)]; omega
end Go.Proofs.YtilhkhnjloplfaaGreatDoor
namespace Go.Proofs.YtilhkhnjloplfaaGreatDoor
set_option linter.unusedVariables false
set_option linter.unusedSimpArgs false
open Go.RowKit
section
variable (t p s d n S : Int) (r : List Int)
theorem hd_len : (hd20 t p s d n S ++ r).length = 20 + r.length := by simp [hd20]; omega
theorem hd_0 : (hd20 t p s d n S ++ r).getD 0 0 = 69 := rfl
theorem hd_n2 : n2 (hd20 t p s d n S ++ r) 2 = n := by
  rw [n2_eq _ _ (by rw [hd_len]; omega)]
  show n / 256 * 256 + n % 256 = n
  omega
theorem hd_take (k : Nat) : (hd20 t p s d n S ++ r).take (20 + k) = hd20 t p s d n S ++ r.take k := by
  rw [List.take_append]
  have : (hd20 t p s d n S).length = 20 := rfl
  rw [this, List.take_of_length_le (by rw [this]; omega)]
  congr 2; omega
theorem hd_shape (most : Int) (h : 20 ≤ n) (hm : n ≤ most) : shapeE (hd20 t p s d n S ++ r) most = 0 := by
  unfold shapeE
  rw [hd_len, hd_0, hd_n2]
  rw [if_neg (by omega), if_neg (by omega), if_neg (by omega), if_neg (by omega)]
theorem hd_whole : wholeE (hd20 t p s d n S ++ r) = 0 := by
  unfold wholeE
  rw [n2_eq _ _ (by rw [hd_len]; omega)]
  rfl
theorem hd_hd (hs : 0 ≤ s ∧ s ≤ 4294967295) (hd : 0 ≤ d ∧ d ≤ 4294967295) : hdOf (hd20 t p s d n S ++ r) = ⟨20, n, t, p, s, d⟩ := by
  unfold hdOf
  rw [hd_0, hd_n2, n4_eq _ _ (by rw [hd_len]; omega), n4_eq _ _ (by rw [hd_len]; omega)]
  have e1 : ((s / 16777216 * 256 + s / 65536 % 256) * 256 + s / 256 % 256) * 256 + s % 256 = s := by omega
  have e2 : ((d / 16777216 * 256 + d / 65536 % 256) * 256 + d / 256 % 256) * 256 + d % 256 = d := by omega
  show (⟨69 % 16 * 4, n, t, p, ((s / 16777216 * 256 + s / 65536 % 256) * 256 + s / 256 % 256) * 256 + s % 256, ((d / 16777216 * 256 + d / 65536 % 256) * 256 + d / 256 % 256) * 256 + d % 256⟩ : Hd) = _
  rw [e1, e2]; rfl
theorem hd_sb : sb true (hd20 t p s d n S) = sb true (hd20 t p s d n 0) + S := by
  simp only [hd20, sb]; omega
theorem hd_bd (ht : 0 ≤ t ∧ t ≤ 255) (hp : 0 ≤ p ∧ p ≤ 255) (hs : 0 ≤ s ∧ s ≤ 4294967295) (hd : 0 ≤ d ∧ d ≤ 4294967295) (hn : 0 ≤ n ∧ n ≤ 65535) (hss : 0 ≤ S ∧ S ≤ 65535) : ∀ x, x ∈ hd20 t p s d n S → 0 ≤ x ∧ x ≤ 255 := by
  intro x hx
  simp only [hd20, List.mem_cons, List.not_mem_nil, or_false] at hx
  omega
theorem hd_take20 : (hd20 t p s d n S ++ r).take 20 = hd20 t p s d n S := by
  have := hd_take t p s d n S r 0
  simpa using this
theorem sumOf_bd {l : List Int} (h : ∀ x, x ∈ l → 0 ≤ x ∧ x ≤ 255) : 0 ≤ sumOf l ∧ sumOf l ≤ 65535 := by
  have := (sb_bd l h true).1; have := fo_bd this; unfold sumOf; omega
/-- the sum that was put in closes the head -/
theorem hd_closed (h0 : 0 ≤ sb true (hd20 t p s d n 0)) : ∃ q : Int, 0 < q ∧ sb true (hd20 t p s d n (sumOf (hd20 t p s d n 0))) = 65535 * q := by
  rw [hd_sb]
  unfold sumOf
  generalize sb true (hd20 t p s d n 0) = A at *
  by_cases h : A = 0
  · subst h; exact ⟨1, by omega, by decide⟩
  · have : fo A = (A - 1) % 65535 + 1 := by unfold fo; rw [if_neg h]
    rw [this]; exact ⟨(A - 1) / 65535 + 1, by omega, by omega⟩
end
section
variable {t p s d : Int} {l r : List Int}
theorem put_eq (l : List Int) : putL t p s d l = hd20 t p s d (20 + l.length) (sumOf (hd20 t p s d (20 + l.length) 0)) ++ l := rfl
theorem put_len : (putL t p s d l).length = 20 + l.length := by rw [put_eq, hd_len]
/-- whole, and whatever behind it -/
theorem put_get (ht : 0 ≤ t ∧ t ≤ 255) (hp : 0 ≤ p ∧ p ≤ 255) (hs : 0 ≤ s ∧ s ≤ 4294967295) (hd : 0 ≤ d ∧ d ≤ 4294967295) (hl : l.length ≤ 1480) (r : List Int) : getE (putL t p s d l ++ r) = 0 ∧ hdOf (putL t p s d l ++ r) = ⟨20, 20 + l.length, t, p, s, d⟩ := by
  have e : putL t p s d l ++ r = hd20 t p s d (20 + l.length) (sumOf (hd20 t p s d (20 + l.length) 0)) ++ (l ++ r) := by rw [put_eq, List.append_assoc]
  rw [e]
  have hb := hd_bd t p s d (20 + l.length) 0 ht hp hs hd (by omega) (by omega)
  obtain ⟨q, hq, hc⟩ := hd_closed t p s d (20 + l.length) (sb_bd _ hb true).1
  refine ⟨?_, hd_hd _ _ _ _ _ _ _ hs hd⟩
  unfold getE
  rw [hd_shape _ _ _ _ _ _ _ 1500 (by omega) (by omega), if_neg (by decide), hd_len, hd_n2, if_neg (by rw [List.length_append]; omega), hd_0]
  rw [show ((69 : Int) % 16 * 4).toNat = 20 from rfl, hd_take20, sumOf_null _ q hq hc, if_neg (by decide), hd_whole]
end
end Go.Proofs.YtilhkhnjloplfaaGreatDoor
namespace Go.Proofs.YtilhkhnjloplfaaGreatDoor
set_option linter.unusedVariables false
set_option linter.unusedSimpArgs false
open Go.RowKit
/-- what stands ahead of UDP's and TCP's bytes for their sum -/
def ph (s d p : Int) (n : Nat) : List Int := be4 s ++ be4 d ++ [0, p] ++ be2 n
theorem ph_len (s d p : Int) (n : Nat) : (ph s d p n).length = 12 := rfl
def csum (s d p : Int) (l : List Int) : Int := sumOf (ph s d p l.length ++ l)
theorem ph_bd {s d p : Int} {n : Nat} (hs : 0 ≤ s ∧ s ≤ 4294967295) (hd : 0 ≤ d ∧ d ≤ 4294967295) (hp : 0 ≤ p ∧ p ≤ 255) (hn : n ≤ 65535) : ∀ x, x ∈ ph s d p n → 0 ≤ x ∧ x ≤ 255 := by
  intro x hx
  simp only [ph, List.mem_append] at hx
  rcases hx with ((h | h) | h) | h
  · exact be4_bd s hs x h
  · exact be4_bd d hd x h
  · simp only [List.mem_cons, List.not_mem_nil, or_false] at h; omega
  · exact be2_bd n (by omega) x h
theorem csum_eq (s d p : Int) (l : List Int) : csum s d p l = 65535 - fo (sb true (ph s d p l.length) + sb true l) := by
  unfold csum sumOf
  rw [sb_app _ _ (by rw [ph_len])]
theorem csum_bd {s d p : Int} {l : List Int} (hs : 0 ≤ s ∧ s ≤ 4294967295) (hd : 0 ≤ d ∧ d ≤ 4294967295) (hp : 0 ≤ p ∧ p ≤ 255) (hn : l.length ≤ 65535) (hl : ∀ x, x ∈ l → 0 ≤ x ∧ x ≤ 255) : 0 ≤ csum s d p l ∧ csum s d p l ≤ 65535 :=
  sumOf_bd (fun x hx => by
    rcases List.mem_append.1 hx with h | h
    · exact ph_bd hs hd hp hn x h
    · exact hl x h)
/-- the rows that are laid: with the sum S at its place -/
def udpB (a b : Int) (l : List Int) (S : Int) : List Int := be2 a ++ be2 b ++ be2 (8 + l.length) ++ be2 S ++ l
def tcpB (a b f : Int) (l : List Int) (S : Int) : List Int := be2 a ++ be2 b ++ [0, 0, 0, 0, 0, 0, 0, 0, 80, f % 256, 32, 0] ++ be2 S ++ [0, 0] ++ l
def echoB (k a : Int) (l : List Int) (S : Int) : List Int := [k, 0] ++ be2 S ++ be2 a ++ [0, 0] ++ l
def faultB (k c : Int) (l : List Int) (S : Int) : List Int := [k % 256, c % 256] ++ be2 S ++ [0, 0, 0, 0] ++ l
def fewL (l : List Int) : List Int := l.take 1400
def nev (s : Int) : Int := if s = 0 then 65535 else s
def udpL (s d a b : Int) (l : List Int) : List Int := udpB a b (fewL l) (nev (csum s d 17 (udpB a b (fewL l) 0)))
def tcpL (s d a b f : Int) (l : List Int) : List Int := tcpB a b f (fewL l) (csum s d 6 (tcpB a b f (fewL l) 0))
def echoL (r : Bool) (a : Int) (l : List Int) : List Int := echoB (if r then 0 else 8) a (fewL l) (sumOf (echoB (if r then 0 else 8) a (fewL l) 0))
def faultL (k c : Int) (l : List Int) : List Int := faultB k c (fewL l) (sumOf (faultB k c (fewL l) 0))
/-- what a packet carries -/
structure Pt where
  proto : Int
  src : Int
  dst : Int
  flags : Int
  kind : Int
  code : Int
  err : Bool
  inner : Hd
  pat : Int
  bare : Bool
def Pt.z : Pt := ⟨0, 0, 0, 0, 0, 0, false, Hd.z, 0, false⟩
/-- an error, or a part -/
abbrev PR := Int × Pt
def portsP (p : Pt) (l : List Int) (i j : Nat) : Pt := { p with src := n2 l i, dst := n2 l j }
def udpR (h : Hd) (x : List Int) : PR :=
  if x.length < 8 then (2, Pt.z) else if n2 x 4 ≠ x.length then (3, Pt.z) else
  if n2 x 6 ≠ 0 ∧ csum h.src h.dst 17 x ≠ 0 then (4, Pt.z) else (0, portsP { Pt.z with proto := 17, bare := decide (n2 x 6 = 0) } x 0 2)
def tcpR (h : Hd) (x : List Int) : PR :=
  if x.length < 20 then (2, Pt.z) else if x.getD 12 0 / 16 * 4 < 20 ∨ (x.length : Int) < x.getD 12 0 / 16 * 4 then (3, Pt.z) else
  if csum h.src h.dst 6 x ≠ 0 then (4, Pt.z) else (0, portsP { Pt.z with proto := 6, flags := x.getD 13 0 } x 0 2)
def faultR (p : Pt) (at_ : Int) (b : List Int) : PR :=
  if partE b ≠ 0 then (partE b, Pt.z) else
  if (b.length : Int) - (hdOf b).size < 8 ∨ (hdOf b).len < (hdOf b).size + 8 then (3, Pt.z) else
  if (hdOf b).proto = 17 ∨ (hdOf b).proto = 6 then (0, portsP { p with err := true, inner := hdOf b, pat := at_ } (b.drop (hdOf b).size.toNat) 0 2) else
  if (hdOf b).proto = 1 ∧ ((b.drop (hdOf b).size.toNat).getD 0 0 = 0 ∨ (b.drop (hdOf b).size.toNat).getD 0 0 = 8) then (0, portsP { p with err := true, inner := hdOf b, pat := at_ } (b.drop (hdOf b).size.toNat) 4 4) else (6, Pt.z)
def icmpR (h : Hd) (x : List Int) : PR :=
  if x.length < 8 then (2, Pt.z) else if sumOf x ≠ 0 then (4, Pt.z) else
  if x.getD 0 0 = 0 ∨ x.getD 0 0 = 8 then (if x.getD 1 0 ≠ 0 then (3, Pt.z) else (0, portsP { Pt.z with proto := 1, kind := x.getD 0 0, code := x.getD 1 0 } x 4 4)) else
  if x.getD 0 0 = 3 ∨ x.getD 0 0 = 11 ∨ x.getD 0 0 = 12 then faultR { Pt.z with proto := 1, kind := x.getD 0 0, code := x.getD 1 0 } (h.size + 8) (x.drop 8) else (6, Pt.z)
def getR (h : Hd) (b : List Int) : PR :=
  if h.size < 20 ∨ 60 < h.size ∨ h.len < h.size ∨ (b.length : Int) < h.len then (1, Pt.z) else
  if h.proto = 17 then udpR h (seg b h.size.toNat (h.len - h.size).toNat) else
  if h.proto = 6 then tcpR h (seg b h.size.toNat (h.len - h.size).toNat) else
  if h.proto = 1 then icmpR h (seg b h.size.toNat (h.len - h.size).toNat) else (6, Pt.z)
end Go.Proofs.YtilhkhnjloplfaaGreatDoor
namespace Go.Proofs.YtilhkhnjloplfaaGreatDoor
set_option linter.unusedVariables false
set_option linter.unusedSimpArgs false
open Go.RowKit
/-- a world that meets S -/
structure Tw (S : World → Prop) where
  w : World
  h : S w
def clsS (S : World → Prop) (w : World) : Prop := ∃ t : Tw S, w = t.w
section
variable {P : Program} {ops : Array Oper} {Q : Exit → Act → World → Prop} {S : World → Prop}
def planB (ops : Array Oper) : List (Nat × Bool) → Array Bool → Bool
  | [], listed => (Region.ready .any ops listed).isEmpty
  | (i, true) :: r, listed => (match ops[i]? with | some o => isV o.op | none => false) && (Region.ready .any ops listed).contains i && Region.free .any ops listed i && planB ops r (listed.setIfInBounds i true)
  | (i, false) :: r, listed => decide (Region.ready .any ops listed = [i]) && planB ops r (listed.setIfInBounds i true)
def wpPl (P : Program) (ops : Array Oper) (Q : Exit → Act → World → Prop) (S : World → Prop) : List (Nat × Bool) → Act → World → Prop
  | [], a, w => Q .normal a w
  | (i, true) :: r, a, w => ∀ o, ops[i]? = some o → ∃ v, ((Region.wanted o (yielded ops a.tmps) = true ∧ ∀ w, S w → o.quietAt P a (clsS S) w v) ∨ (Region.wanted o (yielded ops a.tmps) = false ∧ v = undef)) ∧ wpPl P ops Q S r (a.put o.dst v) w
  | (i, false) :: r, a, w => ∀ o, ops[i]? = some o → ∀ K : Act → World → Prop, (∀ a' w', S w' → wpPl P ops Q S r a' w' → K a' w') → Region.wanted o (yielded ops a.tmps) = true ∧ o.wp P a w K Q
theorem wpAnyH_of_plan (hs : Region.noSelect ops = true) (hQ : ∀ c a w, ¬ Q (.panic c) a w) : ∀ (l : List (Nat × Bool)) (listed : Array Bool) (a : Act) (w : World), S w → planB ops l listed = true → wpPl P ops Q S l a w → ∀ fuel, l.length ≤ fuel → wpAnyH P .any ops Q S fuel listed a w
  | [], listed, a, w, _, hB, h, fuel, _ => wpAnyH_done (by simpa [planB] using hB) h fuel
  | (i, true) :: r, listed, a, w, hS, hB, h, 0, hf => by simp at hf
  | (i, false) :: r, listed, a, w, hS, hB, h, 0, hf => by simp at hf
  | (i, true) :: r, listed, a, w, hS, hB, h, fuel + 1, hf => by
    simp only [planB, Bool.and_eq_true] at hB
    obtain ⟨⟨⟨h1, h2⟩, h3⟩, h4⟩ := hB
    cases ho : ops[i]? with
    | none => rw [ho] at h1; cases h1
    | some o =>
      rw [ho] at h1
      obtain ⟨v, hy, hr⟩ := h o ho
      refine wpAnyH_take ho hs h3 h2 (fun c a w hq => absurd hq (hQ _ _ _)) (v := v) ?_ hS (wpAnyH_of_plan hs hQ r _ _ w hS h4 hr fuel (by simpa using hf))
      rcases hy with ⟨hw, hy⟩ | hy
      · refine .inl ⟨hw, fun w' hS' => ?_⟩
        have h5 := hy w' hS'
        unfold Oper.quietAt at h5
        cases hr : (execOp a.eval o).run P w' with
        | ok nx w2 =>
          obtain ⟨u, rfl⟩ := isV_spec h1 hr
          rw [hr] at h5
          simp only [Oper.quietUpon] at h5
          rw [h5.1, h5.2]
        | halt x w2 => rw [hr] at h5; simp only [Oper.quietUpon] at h5
      · exact .inr hy
  | (i, false) :: r, listed, a, w, hS, hB, h, fuel + 1, hf => by
    simp only [planB, Bool.and_eq_true, decide_eq_true_eq] at hB
    refine wpAnyH_all hB.1 (by simp) fun j hj => ?_
    obtain rfl : j = i := by simpa using hj
    have hm : j ∈ Region.ready .any ops listed := by rw [hB.1]; exact hj
    obtain ⟨_, o, ho, _⟩ := mem_ready.1 hm
    obtain ⟨hw, hx⟩ := h o ho (fun a' w' => S w' ∧ wpAnyH P .any ops Q S fuel (listed.setIfInBounds j true) a' w') (fun a' w' hS' hr => ⟨hS', wpAnyH_of_plan hs hQ r _ a' w' hS' hB.2 hr fuel (by simpa using hf)⟩)
    unfold wpOp
    simp only [ho]
    rw [if_pos hw]
    exact .inl hx
theorem wp_region_plan {id : Nat} {a : Act} {w : World} {l : List Oper} (S : World → Prop) (pl : List (Nat × Bool)) (hm : P.follows .mixedOrders = true) (hs : Region.noSelect l.toArray = true) (hB : planB l.toArray pl (Array.replicate l.length false) = true) (hl : pl.length = l.length) (hS : S w.drew)
    (h : wpPl P l.toArray (NoPanic Q) S pl a w.drew) : (Code.region id l.toArray true).wp P Q a w := by
  refine wp_region_noPanic (wp_region_held (S := S) hm ?_)
  have := wpAnyH_of_plan (P := P) (Q := NoPanic Q) (S := S) hs (fun c a w h => h) pl (Array.replicate l.length false) a w.drew hS hB h l.length (by omega)
  simpa using this
/-- a run of operations that only reckon and read -/
theorem wpPl_qs : ∀ (n : Nat) (l : List (Nat × Bool)) (a : Act) (w : World), ((l.take n).all fun x => x.2) = true → ((l.take n).all fun x => (ops[x.1]?).isSome) = true → n ≤ l.length →
    wpQuiet P ops (clsS S) (fun a' => wpPl P ops Q S (l.drop n) a' w) ((l.take n).filterMap fun x => ops[x.1]?) a → wpPl P ops Q S l a w
  | 0, l, a, w, _, _, _, h => h
  | n + 1, [], a, w, _, _, hn, _ => by simp at hn
  | n + 1, (i, false) :: l, a, w, h1, _, _, _ => by simp at h1
  | n + 1, (i, true) :: l, a, w, h1, h2, hn, h => by
    simp only [List.take_succ_cons, List.all_cons, Bool.and_eq_true] at h1 h2
    intro o ho
    simp only [List.take_succ_cons, List.drop_succ_cons, List.filterMap_cons, ho, wpQuiet] at h
    by_cases hw : Region.wanted o (yielded ops a.tmps) = true
    · rw [if_pos hw] at h
      obtain ⟨v, h3, h4⟩ := h
      exact ⟨v, .inl ⟨hw, fun w' hS => h3 w' ⟨⟨w', hS⟩, rfl⟩⟩, wpPl_qs n l _ w h1.2 h2.2 (by simpa using hn) h4⟩
    · rw [if_neg hw] at h
      exact ⟨undef, .inr ⟨by simpa using hw, rfl⟩, wpPl_qs n l _ w h1.2 h2.2 (by simpa using hn) h⟩
theorem wpPl_e {i : Nat} {r : List (Nat × Bool)} {a : Act} {w : World} (o : Oper) (ho : ops[i]? = some o) (hw : Region.wanted o (yielded ops a.tmps) = true)
    (h : ∀ K : Act → World → Prop, (∀ a' w', S w' → wpPl P ops Q S r a' w' → K a' w') → o.wp P a w K Q) : wpPl P ops Q S ((i, false) :: r) a w :=
  fun o' ho' K hK => by
    obtain rfl : o = o' := Option.some.inj (ho.symm.trans ho')
    exact ⟨hw, h K hK⟩
/-- all operations read, or call what is quiet in the class -/
theorem region_tw {id : Nat} {a : Act} {w : World} {l : List Oper} (S : World → Prop) (hm : P.follows .mixedOrders = true) (hB : Region.lexB .any l.toArray = true) (hS : S w.drew)
    (h : wpQuiet P l.toArray (clsS S) (fun a' => ∀ t : Tw S, Q .normal a' t.w) l a) : (Code.region id l.toArray true).wp P Q a w :=
  wp_region_quiet (C := clsS S) hm hB ⟨⟨w.drew, hS⟩, rfl⟩ (by
    have e : (fun a' => ∀ w', clsS S w' → Q .normal a' w') = fun a' => ∀ t : Tw S, Q .normal a' t.w := by
      funext a'; apply propext; constructor
      · intro h t; exact h _ ⟨t, rfl⟩
      · rintro h w' ⟨t, rfl⟩; exact h t
    rw [e]; simpa using h)
theorem q_tw {B : Nat} {W : World} {f : FuncId} {args : Array Value} {v : Value} {t : Tw (fun w' => Below B W w')} (hB : B ≤ W.heap.size) (h : Calls P f args t.w fun e w' => e = .returned v ∧ Below t.w.heap.size t.w w') :
    Calls P f args t.w fun e w'' => e = .returned v ∧ ∃ t' : Tw (fun w' => Below B W w'), w'' = t'.w :=
  h.mono fun e w'' ⟨he, hb⟩ => ⟨he, ⟨w'', t.h.trans (hb.mono (Nat.le_trans hB t.h.size))⟩, rfl⟩
theorem q_tw_same {S : World → Prop} {f : FuncId} {args : Array Value} {v : Value} {t : Tw S} (h : Calls P f args t.w fun e w' => e = .returned v ∧ t.w = w') :
    Calls P f args t.w fun e w'' => e = .returned v ∧ ∃ t' : Tw S, w'' = t'.w :=
  h.mono fun e w'' ⟨he, hb⟩ => ⟨he, t, hb.symm⟩
theorem Blk.tw {B : Nat} {W : World} {g : Nat} {ty : TypeId} {cs : Array Value} (h : Blk W g ty cs) (hg : g < B) (t : Tw (fun w' => Below B W w')) (i : Nat) : t.w.cell? ⟨g, i, none⟩ = cs[i]? := (h.below t.h hg).cell i
end
end Go.Proofs.YtilhkhnjloplfaaGreatDoor
namespace Go.Proofs.YtilhkhnjloplfaaGreatDoor
set_option linter.unusedVariables false
set_option linter.unusedSimpArgs false
open Go.RowKit
theorem below_setRow {B : Nat} {w W : World} (h : Below B w W) {g : Nat} (hg : B ≤ g) (c : Array Value) : Below B w (W.setRow g c) :=
  ⟨h.os, h.tape, h.output, by simpa using h.size, fun k hk => (setRow_other W g k c (by omega)).trans (h.block k hk)⟩
theorem Blk.setRow {W : World} {g : Nat} {t : TypeId} {cs : Array Value} (h : Blk W g t cs) (c : Array Value) : Blk (W.setRow g c) g t c := setRow_heap W g cs c t (0, 0) h
theorem Blk.setRow_far {W : World} {g g' : Nat} {t : TypeId} {cs : Array Value} (h : Blk W g t cs) (hne : g ≠ g') (c : Array Value) : Blk (W.setRow g' c) g t cs := (setRow_other W g' g c hne).trans h
section
variable {P : Program} {ops : Array Oper} {Q : Exit → Act → World → Prop} {a : Act} {w : World} {rest : List Oper} {o : Oper}
/-- a struct is stored whole -/
theorem wpList_stRow (hg : o.guard = none) (hd : o.dst = none) {t : TypeId} {p v : Operand} (ho : o.op = .store t p v) {g : Nat} (hp : a.eval p = .pointer (some ⟨g, 0, none⟩)) {cs : Array Value} (hv : a.eval v = .agg cs) {tt : TypeId} {old : Array Value}
    (hb : Blk w g tt old) (hi : (P.info? t).map (·.size) = some cs.size) (hs : old.size = cs.size) (h1 : cs.all (·.oneCell') = true) (h : wpList P ops Q rest a (w.setRow g cs)) : wpList P ops Q (o :: rest) a w := by
  refine wpList_plain hg fun K hK => ?_
  have hr : (execOp a.eval o).run P w = .ok .skip (w.setRow g cs) := by
    have h2 := run_storeVar_row (P := P) w g tt t old cs hb hi hs h1
    simp only [execOp, ho, hp, hv, Instr.storeAt, Instr.sureAddr, Sem.run_bind, Sem.run_pure, Result.andThen, h2]
  unfold Oper.wp
  rw [hr, Oper.upon_skip, hd]
  exact hK _ _ h
/-- a struct is loaded whole -/
theorem wpList_ldRow (hg : o.guard = none) {t : TypeId} {p : Operand} (ho : o.op = .load t p) {g : Nat} (hp : a.eval p = .pointer (some ⟨g, 0, none⟩)) {tt : TypeId} {cs : Array Value}
    (hb : Blk w g tt cs) {fs : Array Field} (hu : P.underlying t = some (.struct fs)) (hi : (P.info? t).map (·.size) = some cs.size) (h : wpList P ops Q rest (a.put o.dst (.agg cs)) w) : wpList P ops Q (o :: rest) a w := by
  refine wpList_plain hg fun K hK => ?_
  have hr : (execOp a.eval o).run P w = .ok (.value (.agg cs)) w := by
    have h2 := run_loadVar_row (P := P) w g tt t cs (0, 0) (.struct fs) hb hu rfl hi
    simp only [execOp, ho, hp, Instr.loadAt, Instr.sureAddr, Sem.run_bind, Sem.run_pure, Result.andThen, h2]
  unfold Oper.wp
  rw [hr, Oper.upon_value]
  exact hK _ _ h
/-- results: a struct's cell, and one more -/
theorem results_row {fn : Func} {x : Tmp} {ty : TypeId} (h : fn.results = #[.cell x ty]) (tmps : Array Value) {g : Nat} (hp : tmps.getD x undef = .pointer (some ⟨g, 0, none⟩)) {tt : TypeId} {cs : Array Value} (hb : Blk w g tt cs) {fs : Array Field} (hu : P.underlying ty = some (.struct fs))
    (hi : (P.info? ty).map (·.size) = some cs.size) : (results fn tmps).run P w = .ok (.agg cs) w := by
  have h2 := run_loadVar_row (P := P) w g tt ty cs (0, 0) (.struct fs) hb hu rfl hi
  rw [Array.getD_eq_getD_getElem?] at hp
  simp [results, h, hp, asAddr, h2]
theorem results_row2 {fn : Func} {x y : Tmp} {ty : TypeId} (h : fn.results = #[.cell x ty, .tmp y]) (tmps : Array Value) {g : Nat} (hp : tmps.getD x undef = .pointer (some ⟨g, 0, none⟩)) {tt : TypeId} {cs : Array Value} (hb : Blk w g tt cs) {fs : Array Field} (hu : P.underlying ty = some (.struct fs))
    (hi : (P.info? ty).map (·.size) = some cs.size) : (results fn tmps).run P w = .ok (.tuple #[.agg cs, tmps.getD y undef]) w := by
  have h2 := run_loadVar_row (P := P) w g tt ty cs (0, 0) (.struct fs) hb hu rfl hi
  rw [Array.getD_eq_getD_getElem?] at hp
  simp [results, h, hp, asAddr, h2]
end
theorem Upd.row' (w : World) (g : Nat) (t : Array Value) : Upd (fun k => k = g) w (w.setRow g t) := ⟨rfl, rfl, rfl, by simp, fun k _ hS => setRow_other w g k t hS⟩
section
variable {P : Program}
end
end Go.Proofs.YtilhkhnjloplfaaGreatDoor
namespace Go.Proofs.YtilhkhnjloplfaaGreatDoor
set_option linter.unusedVariables false
set_option linter.unusedSimpArgs false
open Go.RowKit
theorem u16_shl_or (a b : Int) (h0 : 0 ≤ a ∧ a ≤ 255) (h1 : 0 ≤ b ∧ b ≤ 255) : bits .or .u16 (a * 256) b = a * 256 + b := by
  rw [u16_or _ _ (by omega) (by omega) (by omega) (by omega)]
  have : (a * 256).toNat ||| b.toNat = (a * 256).toNat + b.toNat := by
    have e : (a * 256).toNat = 2 ^ 8 * a.toNat := by omega
    rw [e, Nat.two_pow_add_eq_or_of_lt (by omega)]
  rw [this]; omega
set_option maxHeartbeats 400000 in
theorem pnum_any (b o len c : Nat) (x y : Int) (w : World) (h2 : 2 ≤ len) (hx : 0 ≤ x ∧ x ≤ 255) (hy : 0 ≤ y ∧ y ≤ 255) (h0 : w.cell? ⟨b, o, none⟩ = some (.int .u8 x)) (h1 : w.cell? ⟨b, o + 1, none⟩ = some (.int .u8 y)) :
    Calls Tryz.prog 77 #[.slice (some ⟨b, o, none⟩) len c] w fun e w' => e = .returned (.int .u16 (x * 256 + y)) ∧ Below w.heap.size w w' := by
  have hor := u16_shl_or x y hx hy
  go_enter Tryz.func77, Tryz.ntmps77
  go_wp2_with fail
  have F0 : ∀ t : Tw (fun w' => Below w.heap.size w w'), t.w.cell? ⟨b, o, none⟩ = some (.int .u8 x) := fun t => (t.h.cell (p := ⟨b, o, none⟩) (cell_lt h0)).trans h0
  have F1 : ∀ t : Tw (fun w' => Below w.heap.size w w'), t.w.cell? ⟨b, o + 1, none⟩ = some (.int .u8 y) := fun t => (t.h.cell (p := ⟨b, o + 1, none⟩) (cell_lt h1)).trans h1
  have : Nonempty (Tw (fun w' => Below w.heap.size w w')) := ⟨⟨w, Below.refl _ _⟩⟩
  refine region_tw (fun w' => Below (w).heap.size (w) w') (by kernel_rfl) (by kernel_rfl) (Below.refl _ _).drew ?_
  unfold clsS
  repeat (first
    | go_big_quiet_skip
    | (go_big_quiet_want; go_big_quiet_op; first | go_big_quiet_on | go_big_quiet_call (
      (first |(fail)))))
  refine wpQuiet_nil ?_
  intro tq
  clear F0 F1 this
  go_wp2_with fail
  go_ret
  exact ⟨rfl, tq.h⟩
def PPR4 (w : World) (base : Nat) (v : Value) (l : List Int) (n : Int) (i b : Value) (wr : World) : Prop :=
  (i = .int .i64 3 ∧ App w wr base v b l) ∨ (i = .int .i64 2 ∧ App w wr base v b (l ++ [n / 16777216])) ∨ (i = .int .i64 1 ∧ App w wr base v b (l ++ [n / 16777216, n / 65536 % 256])) ∨
  (i = .int .i64 0 ∧ App w wr base v b (l ++ [n / 16777216, n / 65536 % 256, n / 256 % 256])) ∨ (i = .int .i64 (-1) ∧ App w wr base v b (l ++ be4 n))
def PPR2 (w : World) (base : Nat) (v : Value) (l : List Int) (n : Int) (i b : Value) (wr : World) : Prop :=
  (i = .int .i64 1 ∧ App w wr base v b l) ∨ (i = .int .i64 0 ∧ App w wr base v b (l ++ [n / 256])) ∨ (i = .int .i64 (-1) ∧ App w wr base v b (l ++ be2 n))
set_option maxHeartbeats 1000000 in
theorem pput4_any (n : Int) (v : Value) (l : List Int) (base : Nat) (w : World) (hown : Own .u8 5 w base v l) (hl : l.length ≤ 100000) (hn : 0 ≤ n ∧ n ≤ 4294967295) (hbase : base ≤ w.heap.size) :
    Calls Tryz.prog 57 #[v, .int .u32 n, .int .i64 4] w (Puts w base v (l ++ be4 n)) := by
  obtain ⟨i0, hi, hz0, hz1, hz2⟩ := info_parts info_u8_
  go_enter Tryz.func57, Tryz.ntmps57
  go_wp2
  go_loopw [0, 7] (fun b i wr => PPR4 w base v l n i b wr) (fun _ i _ => (intOf i + 1).toNat)
  case atStart => exact .inl ⟨rfl, App.refl hown⟩
  case round =>
    rcases hrel with ⟨rfl, h⟩ | ⟨rfl, h⟩ | ⟨rfl, h⟩ | ⟨rfl, h⟩ | ⟨rfl, h⟩
    · go_wp2_with (at_builtin; have hx := Rd.new .u8 wr 5 [n / 16777216] (by intro y hy; simp at hy; subst hy; exact u8_inr (by omega)) #[.int .u8 (n / 16777216)] rfl 1 rfl; refine wpList_app _ rfl (.tmp 14) (.tmp 20) 76 rfl .u8 base 5 i0 (.int .u8 0) 1 Tryz.underlying76 hi hz0 hz1 hz2 rfl _ (by rfl) _ (h.own.alloc _) (wr.heap.size + 1) _ 1 1 rfl [n / 16777216] hx (by simp; try omega) (by decide) (by have := h.upd.size; simp; omega) ?_; intro v1 w1 own1 hg1 hb1; have h1 := (h.alloc (.cells #[.int .u8 (n / 16777216)] 5)).app own1 hg1 hb1; clear own1 hg1 hb1 hx)
      exact ⟨.inr (.inl ⟨rfl, h1⟩), by simp [intOf]⟩
    · go_wp2_with (at_builtin; have hx := Rd.new .u8 wr 5 [n / 65536 % 256] (by intro y hy; simp at hy; subst hy; exact u8_inr (by omega)) #[.int .u8 (n / 65536 % 256)] rfl 1 rfl; refine wpList_app _ rfl (.tmp 14) (.tmp 20) 76 rfl .u8 base 5 i0 (.int .u8 0) 1 Tryz.underlying76 hi hz0 hz1 hz2 rfl _ (by rfl) _ (h.own.alloc _) (wr.heap.size + 1) _ 1 1 rfl [n / 65536 % 256] hx (by simp; try omega) (by decide) (by have := h.upd.size; simp; omega) ?_; intro v1 w1 own1 hg1 hb1; have h1 := (h.alloc (.cells #[.int .u8 (n / 65536 % 256)] 5)).app own1 hg1 hb1; clear own1 hg1 hb1 hx)
      exact ⟨.inr (.inr (.inl ⟨rfl, by simpa using h1⟩)), by simp [intOf]⟩
    · go_wp2_with (at_builtin; have hx := Rd.new .u8 wr 5 [n / 256 % 256] (by intro y hy; simp at hy; subst hy; exact u8_inr (by omega)) #[.int .u8 (n / 256 % 256)] rfl 1 rfl; refine wpList_app _ rfl (.tmp 14) (.tmp 20) 76 rfl .u8 base 5 i0 (.int .u8 0) 1 Tryz.underlying76 hi hz0 hz1 hz2 rfl _ (by rfl) _ (h.own.alloc _) (wr.heap.size + 1) _ 1 1 rfl [n / 256 % 256] hx (by simp; try omega) (by decide) (by have := h.upd.size; simp; omega) ?_; intro v1 w1 own1 hg1 hb1; have h1 := (h.alloc (.cells #[.int .u8 (n / 256 % 256)] 5)).app own1 hg1 hb1; clear own1 hg1 hb1 hx)
      exact ⟨.inr (.inr (.inr (.inl ⟨rfl, by simpa using h1⟩))), by simp [intOf]⟩
    · go_wp2_with (at_builtin; have hx := Rd.new .u8 wr 5 [n % 256] (by intro y hy; simp at hy; subst hy; exact u8_inr (by omega)) #[.int .u8 (n % 256)] rfl 1 rfl; refine wpList_app _ rfl (.tmp 14) (.tmp 20) 76 rfl .u8 base 5 i0 (.int .u8 0) 1 Tryz.underlying76 hi hz0 hz1 hz2 rfl _ (by rfl) _ (h.own.alloc _) (wr.heap.size + 1) _ 1 1 rfl [n % 256] hx (by simp; try omega) (by decide) (by have := h.upd.size; simp; omega) ?_; intro v1 w1 own1 hg1 hb1; have h1 := (h.alloc (.cells #[.int .u8 (n % 256)] 5)).app own1 hg1 hb1; clear own1 hg1 hb1 hx)
      exact ⟨.inr (.inr (.inr (.inr ⟨rfl, by simpa [be4] using h1⟩))), by simp [intOf]⟩
    · go_wp2
      go_ret
      exact ⟨_, rfl, h⟩
set_option maxHeartbeats 1000000 in
theorem pput2_any (n : Int) (v : Value) (l : List Int) (base : Nat) (w : World) (hown : Own .u8 5 w base v l) (hl : l.length ≤ 100000) (hn : 0 ≤ n ∧ n ≤ 65535) (hbase : base ≤ w.heap.size) :
    Calls Tryz.prog 57 #[v, .int .u32 n, .int .i64 2] w (Puts w base v (l ++ be2 n)) := by
  obtain ⟨i0, hi, hz0, hz1, hz2⟩ := info_parts info_u8_
  go_enter Tryz.func57, Tryz.ntmps57
  go_wp2
  go_loopw [0, 7] (fun b i wr => PPR2 w base v l n i b wr) (fun _ i _ => (intOf i + 1).toNat)
  case atStart => exact .inl ⟨rfl, App.refl hown⟩
  case round =>
    rcases hrel with ⟨rfl, h⟩ | ⟨rfl, h⟩ | ⟨rfl, h⟩
    · go_wp2_with (at_builtin; have hx := Rd.new .u8 wr 5 [n / 256] (by intro y hy; simp at hy; subst hy; exact u8_inr (by omega)) #[.int .u8 (n / 256)] rfl 1 rfl; refine wpList_app _ rfl (.tmp 14) (.tmp 20) 76 rfl .u8 base 5 i0 (.int .u8 0) 1 Tryz.underlying76 hi hz0 hz1 hz2 rfl _ (by rfl) _ (h.own.alloc _) (wr.heap.size + 1) _ 1 1 rfl [n / 256] hx (by simp; try omega) (by decide) (by have := h.upd.size; simp; omega) ?_; intro v1 w1 own1 hg1 hb1; have h1 := (h.alloc (.cells #[.int .u8 (n / 256)] 5)).app own1 hg1 hb1; clear own1 hg1 hb1 hx)
      exact ⟨.inr (.inl ⟨rfl, h1⟩), by simp [intOf]⟩
    · go_wp2_with (at_builtin; have hx := Rd.new .u8 wr 5 [n % 256] (by intro y hy; simp at hy; subst hy; exact u8_inr (by omega)) #[.int .u8 (n % 256)] rfl 1 rfl; refine wpList_app _ rfl (.tmp 14) (.tmp 20) 76 rfl .u8 base 5 i0 (.int .u8 0) 1 Tryz.underlying76 hi hz0 hz1 hz2 rfl _ (by rfl) _ (h.own.alloc _) (wr.heap.size + 1) _ 1 1 rfl [n % 256] hx (by simp; try omega) (by decide) (by have := h.upd.size; simp; omega) ?_; intro v1 w1 own1 hg1 hb1; have h1 := (h.alloc (.cells #[.int .u8 (n % 256)] 5)).app own1 hg1 hb1; clear own1 hg1 hb1 hx)
      exact ⟨.inr (.inr ⟨rfl, by simpa [be2] using h1⟩), by simp [intOf]⟩
    · go_wp2
      go_ret
      exact ⟨_, rfl, h⟩
theorem few_any (l : List Int) (A : Option Addr) (len c B : Nat) (w : World) (hr : Rd .u8 w B A len l) (hlc : len ≤ c) (hcm : c ≤ 9223372036854775807) :
    Calls Tryz.prog 56 #[.slice A len c] w fun e w' => (∃ c', e = .returned (.slice A (fewL l).length c') ∧ (fewL l).length ≤ c' ∧ c' ≤ 9223372036854775807 ∧ Rd .u8 w B A (fewL l).length (fewL l)) ∧ w = w' := by
  have hm : (fewL l).length = min 1400 len := by unfold fewL; rw [List.length_take, hr.len]
  have hrd : Rd .u8 w B A (fewL l).length (fewL l) := by
    have e : l.take (min 1400 len) = l.take 1400 := List.take_eq_take_iff.2 (by rw [hr.len]; omega)
    rw [hm]; unfold fewL; rw [← e]; exact hr.take (m := min 1400 len) (by omega)
  rw [hm] at hrd ⊢
  generalize fewL l = F at *
  clear hm
  by_cases h : len ≤ 1400
  · have e : min 1400 len = len := by omega
    rw [e] at hrd ⊢
    clear e
    go_enter Tryz.func56, Tryz.ntmps56
    have hc : min (len : Int) 1400 = (len : Int) := by omega
    go_wp2
    go_ret
    refine ⟨⟨c, rfl, hlc, ?_⟩, rfl⟩
    first | exact ⟨hcm, hrd⟩ | exact hcm
  · have e : min 1400 len = 1400 := by omega
    rw [e] at hrd ⊢
    clear e
    go_enter Tryz.func56, Tryz.ntmps56
    have hc : min (len : Int) 1400 = 1400 := by omega
    go_wp2
    go_ret
    refine ⟨⟨c, rfl, by omega, ?_⟩, rfl⟩
    first | exact ⟨hcm, hrd⟩ | exact hcm
/-- a call's own row of bytes -/
def Gives (w : World) (l : List Int) (e : Ending) (w' : World) : Prop := ∃ v', e = .returned v' ∧ Own .u8 5 w' w.heap.size v' l ∧ Below w.heap.size w w'
theorem set_any (g n c at_ base : Nat) (s : Int) (l : List Int) (w : World) (own : Own .u8 5 w base (.slice (some ⟨g, 0, none⟩) n c) l) (hn : l.length = n) (ha : at_ + 1 < n) (hnb : n ≤ 100000) (hs : 0 ≤ s ∧ s ≤ 65535) (hat : at_ = 2 ∨ at_ = 6 ∨ at_ = 16) :
    Calls Tryz.prog 59 #[.slice (some ⟨g, 0, none⟩) n c, .int .i64 at_, .int .u16 s] w fun e w' => e = .returned (.slice (some ⟨g, 0, none⟩) n c) ∧ Own .u8 5 w' base (.slice (some ⟨g, 0, none⟩) n c) ((l.set at_ (s / 256)).set (at_ + 1) (s % 256)) ∧ Upd (fun x => x = g) w w' := by
  have hSw : IntKind.u8.wrap s = s % 256 := IntKind.wrap_u8' s
  rcases hat with rfl | rfl | rfl
  · have own8 := (own.set hn 2 (x := s / 256) (u8_inr (by omega))).set (by rw [List.length_set]; exact hn) (2 + 1) (x := s % 256) (u8_inr (by omega))
    have up8 := (Upd.one w g 2 (.int .u8 (s / 256))).trans (Upd.one _ g (2 + 1) (.int .u8 (s % 256)))
    obtain ⟨c0, f0, _⟩ := own.at_ hn (j := 2) (by omega)
    obtain ⟨c1, f1, _⟩ := own.at_ hn (j := 2 + 1) (by omega)
    replace hn := Lib.hid hn
    go_enter Tryz.func59, Tryz.ntmps59
    go_wp2
    go_ret
    exact ⟨rfl, own8, up8⟩
  · have own8 := (own.set hn 6 (x := s / 256) (u8_inr (by omega))).set (by rw [List.length_set]; exact hn) (6 + 1) (x := s % 256) (u8_inr (by omega))
    have up8 := (Upd.one w g 6 (.int .u8 (s / 256))).trans (Upd.one _ g (6 + 1) (.int .u8 (s % 256)))
    obtain ⟨c0, f0, _⟩ := own.at_ hn (j := 6) (by omega)
    obtain ⟨c1, f1, _⟩ := own.at_ hn (j := 6 + 1) (by omega)
    replace hn := Lib.hid hn
    go_enter Tryz.func59, Tryz.ntmps59
    go_wp2
    go_ret
    exact ⟨rfl, own8, up8⟩
  · have own8 := (own.set hn 16 (x := s / 256) (u8_inr (by omega))).set (by rw [List.length_set]; exact hn) (16 + 1) (x := s % 256) (u8_inr (by omega))
    have up8 := (Upd.one w g 16 (.int .u8 (s / 256))).trans (Upd.one _ g (16 + 1) (.int .u8 (s % 256)))
    obtain ⟨c0, f0, _⟩ := own.at_ hn (j := 16) (by omega)
    obtain ⟨c1, f1, _⟩ := own.at_ hn (j := 16 + 1) (by omega)
    replace hn := Lib.hid hn
    go_enter Tryz.func59, Tryz.ntmps59
    go_wp2
    go_ret
    exact ⟨rfl, own8, up8⟩
end Go.Proofs.YtilhkhnjloplfaaGreatDoor
namespace Go.Proofs.YtilhkhnjloplfaaGreatDoor
set_option linter.unusedVariables false
set_option linter.unusedSimpArgs false
open Go.RowKit
theorem own_none {w : World} (base : Nat) : Own .u8 5 w base (.slice none 0 0) [] := Own.nil _ _ _ _
theorem App.bel {w w' : World} {v' : Value} {l : List Int} (h : App w w' w.heap.size (.slice none 0 0) v' l) : Below w.heap.size w w' := h.below (Nat.le_refl _) (fun g hg => by simp [Value.ownBlock] at hg)
set_option maxRecDepth 100000 in
set_option maxHeartbeats 1000000 in
theorem pseudo_any (s d p : Int) (l : List Int) (A : Option Addr) (len c B : Nat) (w : World) (hr : Rd .u8 w B A len l) (hB : B ≤ w.heap.size) (hs : 0 ≤ s ∧ s ≤ 4294967295) (hd : 0 ≤ d ∧ d ≤ 4294967295) (hp : 0 ≤ p ∧ p ≤ 255) (hl : len ≤ 60000) :
    Calls Tryz.prog 58 #[.int .u32 s, .int .u32 d, .int .i64 p, .slice A len c] w fun e w' => e = .returned (.int .u16 (csum s d p l)) ∧ Below w.heap.size w w' := by
  obtain ⟨i0, hi, hz0, hz1, hz2⟩ := info_parts info_u8_
  have hlen := hr.len
  have hrB := hr.more hB
  have hcs := csum_eq s d p l
  have hsb := sb_bd l (fun x hx => inr_u8 (hr.rng x hx)) true
  have hph := sb_bd (ph s d p len) (ph_bd hs hd hp (by omega)) true
  have hff := fo_fo _ hph.1
  rw [hlen] at hcs hsb
  rw [ph_len] at hph
  rw [hcs]
  have hfo := fo_bd hph.1
  have hadd := fo_add (sb true (ph s d p len)) (sb true l) hph.1 hsb.1
  clear hcs
  have hL12 := ph_len s d p len
  obtain ⟨L, hL⟩ : ∃ L, L = ph s d p len := ⟨_, rfl⟩
  rw [← hL] at hph hff hfo hadd hL12 ⊢
  replace hL := Lib.hid hL
  replace hL12 := Lib.hid hL12
  replace hlen := Lib.hid hlen
  replace hff := Lib.hid hff
  replace hadd := Lib.hid hadd
  go_enter Tryz.func58, Tryz.ntmps58
  go_wp2_with fail
  refine (pput4_any s _ [] w.heap.size _ (own_none _) (by simp) hs (Nat.le_refl _)).mono ?_
  rintro e w1 ⟨v1, rfl, a1⟩
  go_wp2_with fail
  refine (pput4_any d _ _ w.heap.size _ a1.own (by simp [be4]) hd a1.upd.size).mono ?_
  rintro e w2 ⟨v2, rfl, a2⟩
  replace a2 := a1.trans a2
  clear a1
  go_wp2_with (at_builtin; go_loud (have hx := Rd.new .u8 w2 5 [0, p] (by intro y hy; simp at hy; rcases hy with rfl | rfl <;> exact u8_inr (by omega)) #[.int .u8 0, .int .u8 p] rfl 2 rfl; refine wpList_app _ rfl (.tmp 14) (.tmp 17) 76 rfl .u8 w.heap.size 5 i0 (.int .u8 0) 1 Tryz.underlying76 hi hz0 hz1 hz2 rfl _ (by rfl) _ (a2.own.alloc _) (w2.heap.size + 1) _ 2 2 rfl [0, p] hx (by simp [be4]) (by decide) (by have := a2.upd.size; simp; omega) ?_; intro v4 w4 own4 hg4 hb4; have a4 := (a2.alloc (.cells #[.int .u8 0, .int .u8 p] 5)).app own4 hg4 hb4; clear own4 hg4 hb4 hx))
  refine (pput2_any len v4 _ w.heap.size _ a4.own (by simp [be4]) (by omega) a4.upd.size).mono ?_
  rintro e w5 ⟨v5, rfl, a5⟩
  replace a5 := a4.trans a5
  clear a4 a2
  have eL : (([] ++ be4 s ++ be4 d) ++ [0, p]) ++ be2 (len : Int) = ph s d p len := by simp [ph]
  rw [eL, ← hL.out] at a5
  obtain ⟨A5, c5, rfl, _, _, rd5⟩ := a5.own.form hL12.out
  have bel5 := a5.bel
  clear a5 eL
  go_wp2_with fail
  refine (More_any 0 L A5 12 c5 _ w5 (by omega) (by omega) (by omega) rd5).mono ?_
  rw [Int.zero_add]
  rintro e w6 ⟨rfl, rfl⟩
  go_wp2_with fail
  refine (More_any (fo (sb true L)) l A len c _ w5 (by omega) (by omega) (by omega) (hrB.below bel5)).mono ?_
  rw [hadd.out]
  rintro e w6 ⟨rfl, rfl⟩
  have hfo2 := fo_bd (n := sb true L + sb true l) (by omega)
  have hff2 := fo_fo (sb true L + sb true l) (by omega)
  replace hff2 := Lib.hid hff2
  go_wp2_with fail
  refine (Done_any _ w5 (by omega) (by omega)).mono ?_
  rw [hff2.out]
  rintro e w6 ⟨rfl, rfl⟩
  go_wp2_with fail
  go_ret
  exact ⟨rfl, bel5⟩
end Go.Proofs.YtilhkhnjloplfaaGreatDoor
namespace Go.Proofs.YtilhkhnjloplfaaGreatDoor
set_option linter.unusedVariables false
set_option linter.unusedSimpArgs false
open Go.RowKit
theorem fewL_len (l : List Int) : (fewL l).length ≤ 1400 := by unfold fewL; rw [List.length_take]; omega
theorem fewL_mem {l : List Int} {x : Int} (h : x ∈ fewL l) : x ∈ l := List.mem_of_mem_take h
theorem udpB_len (a b : Int) (l : List Int) (S : Int) : (udpB a b l S).length = 8 + l.length := by simp [udpB, be2]; omega
theorem tcpB_len (a b f : Int) (l : List Int) (S : Int) : (tcpB a b f l S).length = 20 + l.length := by simp [tcpB, be2]; omega
theorem echoB_len (k a : Int) (l : List Int) (S : Int) : (echoB k a l S).length = 8 + l.length := by simp [echoB, be2]; omega
theorem udpB_set (a b : Int) (l : List Int) (S : Int) : ((udpB a b l 0).set 6 (S / 256)).set (6 + 1) (S % 256) = udpB a b l S := by simp [udpB, be2]
set_option maxRecDepth 100000 in
set_option maxHeartbeats 1000000 in
theorem pUdp_any (s d a b : Int) (l : List Int) (A : Option Addr) (len c B : Nat) (w : World) (hr : Rd .u8 w B A len l) (hB : B ≤ w.heap.size) (hlc : len ≤ c) (hcm : c ≤ 9223372036854775807) (hs : 0 ≤ s ∧ s ≤ 4294967295) (hd : 0 ≤ d ∧ d ≤ 4294967295) (ha : 0 ≤ a ∧ a ≤ 65535) (hb : 0 ≤ b ∧ b ≤ 65535) :
    Calls Tryz.prog 36 #[.int .u32 s, .int .u32 d, .int .u16 a, .int .u16 b, .slice A len c] w (Gives w (udpL s d a b l)) := by
  unfold udpL
  obtain ⟨i0, hi, hz0, hz1, hz2⟩ := info_parts info_u8_
  have hrB := hr.more hB
  have hfew := fun w' hr => few_any l A len c w.heap.size w' hr hlc hcm
  have hFl := fewL_len l
  have hFx : ∀ x, x ∈ fewL l → 0 ≤ x ∧ x ≤ 255 := fun x hx => inr_u8 (hr.rng x (fewL_mem hx))
  obtain ⟨F, hF⟩ : ∃ F, F = fewL l := ⟨_, rfl⟩
  rw [← hF] at hfew hFl hFx ⊢
  obtain ⟨m, hm⟩ : ∃ m, m = F.length := ⟨_, rfl⟩
  rw [← hm] at hfew hFl
  replace hfew := Lib.hid hfew
  replace hF := Lib.hid hF
  obtain ⟨L, hL⟩ : ∃ L, L = udpB a b F 0 := ⟨_, rfl⟩
  have hLl : L.length = 8 + m := by rw [hL, udpB_len, hm]
  rw [← hL]
  have hset := fun S => udpB_set a b F S
  rw [← hL] at hset
  have hps := fun (A' : Option Addr) (c' : Nat) (w' : World) (rd : Rd .u8 w' w'.heap.size A' (8 + m) L) => pseudo_any s d 17 L A' (8 + m) c' _ w' rd (Nat.le_refl _) hs hd (by omega) (by omega)
  have hSb : (∀ x, x ∈ L → 0 ≤ x ∧ x ≤ 255) → 0 ≤ csum s d 17 L ∧ csum s d 17 L ≤ 65535 := fun h => csum_bd hs hd (by omega) (by omega) h
  obtain ⟨S, hS⟩ : ∃ S, S = csum s d 17 L := ⟨_, rfl⟩
  rw [← hS] at hps hSb ⊢
  obtain ⟨T, hT⟩ : ∃ T, T = nev S := ⟨_, rfl⟩
  rw [← hT]
  replace hset := Lib.hid (hset T)
  replace hT := Lib.hid hT
  replace hps := Lib.hid hps
  replace hLl := Lib.hid hLl
  replace hS := Lib.hid hS
  have eL : (([] ++ be2 a ++ be2 b) ++ be2 (8 + (m : Int)) ++ be2 0) ++ F = L := by rw [hL, hm]; simp [udpB]
  replace eL := Lib.hid eL
  replace hL := Lib.hid hL
  replace hm := Lib.hid hm
  go_enter Tryz.func36, Tryz.ntmps36
  go_wp2_with fail
  refine (hfew.out _ hrB).mono ?_
  rintro e w0 ⟨⟨c', rfl, hmc, hcm', rdF⟩, rfl⟩
  go_wp2_with fail
  refine (pput2_any a _ [] w.heap.size _ (own_none _) (by simp) ha (Nat.le_refl _)).mono ?_
  rintro e w1 ⟨v1, rfl, a1⟩
  go_wp2_with fail
  refine (pput2_any b _ _ w.heap.size _ a1.own (by simp [be2]) hb a1.upd.size).mono ?_
  rintro e w2 ⟨v2, rfl, a2⟩
  replace a2 := a1.trans a2
  clear a1
  go_wp2_with fail
  refine (pput2_any (8 + m) _ _ w.heap.size _ a2.own (by simp [be2]) (by omega) a2.upd.size).mono ?_
  rintro e w3 ⟨v3, rfl, a3⟩
  replace a3 := a2.trans a3
  clear a2
  go_wp2_with fail
  refine (pput2_any 0 _ _ w.heap.size _ a3.own (by simp [be2]) (by omega) a3.upd.size).mono ?_
  rintro e w4 ⟨v4, rfl, a4⟩
  replace a4 := a3.trans a4
  clear a3
  have rd4 := rdF.below a4.bel
  go_wp2_with (at_builtin; go_loud (refine wpList_app _ rfl (.tmp 28) (.tmp 29) 76 rfl .u8 w.heap.size 5 i0 (.int .u8 0) 1 Tryz.underlying76 hi hz0 hz1 hz2 rfl _ (by rfl) _ a4.own w.heap.size _ _ _ (by rfl) F rd4 (by simp [be2]; omega) (by decide) a4.upd.size ?_; intro v5 w5 own5 hg5 hb5; have a5 := a4.app own5 hg5 hb5; clear own5 hg5 hb5))
  rw [eL.out] at a5
  have bel5 := a5.bel
  have own5 := a5.own
  clear a4 a5 rd4 rdF eL
  obtain ⟨g, c5, rfl, hc1, hc2, hg1, hg2⟩ := own5.formG hLl.out (by omega)
  have rd5 := own5.rd hLl.out
  have hSb := hSb (fun x hx => inr_u8 (own5.rng x hx))
  refine (hps.out _ c5 _ rd5).mono ?_
  rintro e w6 ⟨rfl, bel6⟩
  have bel8 := bel_after bel5 bel6
  have own8 := own5.below bel6
  clear bel5 bel6 rd5 own5
  by_cases hz : S = 0
  · subst hz
    have hgw : w.heap.size ≤ g := hg1
    go_wp2_with fail
    refine (set_any g (8 + m) c5 6 w.heap.size _ L _ own8 hLl.out (by omega) (by omega) (show (0 : Int) ≤ 65535 ∧ (65535 : Int) ≤ 65535 by omega) (by omega)).mono ?_
    rintro e w9 ⟨rfl, own9, up9⟩
    go_wp2_with fail
    go_ret
    refine ⟨_, rfl, ?_, bel8.trans (up9.below bel8.size (fun x hx e => by omega))⟩
    rw [show (65535 : Int) = T from hT.out.symm] at own9
    rw [hset.out] at own9
    exact own9
  · have hz2 : (S == 0) = false := by simpa using hz
    have hTS : Hid (S = T) := by
      show S = T
      rw [hT.out]; unfold nev; rw [if_neg hz]
    have hgw : w.heap.size ≤ g := hg1
    go_wp2_with fail
    refine (set_any g (8 + m) c5 6 w.heap.size _ L _ own8 hLl.out (by omega) (by omega) hSb (by omega)).mono ?_
    rintro e w9 ⟨rfl, own9, up9⟩
    go_wp2_with fail
    go_ret
    refine ⟨_, rfl, ?_, bel8.trans (up9.below bel8.size (fun x hx e => by omega))⟩
    rw [hTS.out] at own9
    rw [hset.out] at own9
    exact own9
end Go.Proofs.YtilhkhnjloplfaaGreatDoor
