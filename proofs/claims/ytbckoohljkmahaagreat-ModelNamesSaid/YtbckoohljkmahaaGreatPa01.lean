/- What the laws' proofs lean on: plain facts and contracts of the program's functions, laid together (1). -/
import Derived.WalkKit
import Derived.Lib.Hide
import Derived.Laws.OwnMore
import Derived.Deep.AppendLies
import Derived.Deep.Draws
import Derived.Maps.AppendAt
import Derived.Laws.MakeOwn
import Derived.Laws.Rows
import Derived.Deep.QuietTactic
import Derived.BigQuiet
import Derived.Deep.RegionWith
import Derived.Deep.DeepMust
import Derived.Deep.WholeRow
import Derived.Test.YtbckoohljkmahaaGreatProg
import Derived.RegionTactic
import Derived.Deep.DeepCutAuto
import Derived.Deep.CutBlock
import Derived.Test.YtbckoohljkmahaaGreatRows
namespace Go.Proofs.YtbckoohljkmahaaGreat
set_option linter.unusedVariables false
set_option linter.unusedSimpArgs false
open Go.RowKit

theorem and_mask {k : IntKind} (hk : k.signed = false) (m : Nat) (hm : m ≤ k.bits) (a : Int) : bits .and k a (2 ^ m - 1 : Nat) = a % (2 ^ m : Nat) := by
  show k.wrap ((BitVec.ofInt k.bits a &&& BitVec.ofInt k.bits ((2 ^ m - 1 : Nat) : Int)).toNat : Int) = _
  rw [BitVec.toNat_and, BitVec.ofInt_natCast, BitVec.toNat_ofNat]
  have hlt : 2 ^ m - 1 < 2 ^ k.bits := by
    have h1 : 2 ^ m ≤ 2 ^ k.bits := Nat.pow_le_pow_right (by omega) hm
    have h2 : 0 < 2 ^ m := Nat.two_pow_pos m
    omega
  rw [Nat.mod_eq_of_lt hlt, Nat.and_two_pow_sub_one_eq_mod]
  have e1 : ((BitVec.ofInt k.bits a).toNat : Int) = a % (2 ^ k.bits : Nat) := by rw [BitVec.toNat_ofInt]; have := Int.emod_nonneg a (b := ((2 ^ k.bits : Nat) : Int)) (by have := Nat.two_pow_pos k.bits; omega); omega
  have e2 : (((BitVec.ofInt k.bits a).toNat % 2 ^ m : Nat) : Int) = a % (2 ^ m : Nat) := by
    rw [Int.natCast_emod, e1]
    exact Int.emod_emod_of_dvd a (by exact_mod_cast Nat.pow_dvd_pow 2 hm)
  rw [e2]
  have hb : (2 ^ m : Nat) ≤ 2 ^ k.bits := Nat.pow_le_pow_right (by omega) hm
  have h0 := Int.emod_nonneg a (b := ((2 ^ m : Nat) : Int)) (by have := Nat.two_pow_pos m; omega)
  have h1 := Int.emod_lt_of_pos a (b := ((2 ^ m : Nat) : Int)) (by have := Nat.two_pow_pos m; omega)
  have hb' : ((2 ^ m : Nat) : Int) ≤ ((2 ^ k.bits : Nat) : Int) := by omega
  have e3 : (2 : Int) ^ k.bits = ((2 ^ k.bits : Nat) : Int) := by push_cast; rfl
  unfold IntKind.wrap
  rw [e3, Int.emod_eq_of_lt h0 (by omega)]
  simp [hk]
theorem u64_and65535 (a : Int) : bits .and .u64 a 65535 = a % 65536 := and_mask (k := .u64) rfl 16 (by decide) a
theorem sg_u8 : IntKind.u8.signed = false := rfl
theorem sg_u16 : IntKind.u16.signed = false := rfl
theorem sg_u32 : IntKind.u32.signed = false := rfl
theorem sg_u64 : IntKind.u64.signed = false := rfl
theorem sg_i64 : IntKind.i64.signed = true := rfl
attribute [go_sem] sg_u8 sg_u16 sg_u32 sg_u64 sg_i64
theorem xor_not (m : Nat) (x : Nat) (hx : x < 2 ^ m) : (2 ^ m - 1) ^^^ x = 2 ^ m - 1 - x := by
  have h := BitVec.toNat_not (x := BitVec.ofNat m x)
  have h2 : (BitVec.allOnes m ^^^ BitVec.ofNat m x).toNat = (~~~ (BitVec.ofNat m x)).toNat := by
    congr 1
  rw [BitVec.toNat_xor, BitVec.toNat_allOnes, h, BitVec.toNat_ofNat, Nat.mod_eq_of_lt hx] at h2
  exact h2
theorem cpl_u16 (x : Int) (h : 0 ≤ x ∧ x ≤ 65535) : bits .xor .u16 IntKind.u16.max x = 65535 - x := by
  rw [show IntKind.u16.max = 65535 from rfl, u16_xor _ _ (by omega) (by omega) (by omega) (by omega)]
  have := xor_not 16 x.toNat (by omega)
  have e : (65535 : Int).toNat = 2 ^ 16 - 1 := rfl
  rw [e, this]; omega
theorem ret_int {k : IntKind} {a b : Int} (h : a = b) : Ending.returned (.int k a) = .returned (.int k b) := by rw [h]
theorem minc (c : Int) (h : 0 ≤ c) (len : Nat) : ∃ m : Nat, (if c < (len : Int) then c else (len : Int)) = (m : Int) ∧ m ≤ len ∧ (m : Int) ≤ c := ⟨min len c.toNat, by split <;> omega, by omega, by omega⟩
/-- 'int(uint64(a) % uint64(n))' -/
theorem modn (a N : Int) (h : 0 < N) : ∃ q : Nat, (IntKind.u64.wrap a).tmod N = (q : Int) ∧ (q : Int) < N := by
  have h0 : 0 ≤ IntKind.u64.wrap a := by simp [IntKind.wrap, IntKind.bits, IntKind.signed]; omega
  have h1 := Int.emod_nonneg (IntKind.u64.wrap a) (show N ≠ 0 by omega)
  have h2 := Int.emod_lt_of_pos (IntKind.u64.wrap a) h
  exact ⟨((IntKind.u64.wrap a) % N).toNat, by rw [Int.tmod_eq_emod_of_nonneg h0]; omega, by omega⟩
/-- folding again and again what is beyond 16 bits -/
def fo (n : Int) : Int := if n = 0 then 0 else (n - 1) % 65535 + 1
theorem fo_small {n : Int} (h0 : 0 ≤ n) (h1 : n ≤ 65535) : fo n = n := by unfold fo; split <;> omega
theorem fo_step {n : Int} (h0 : 65535 < n) : fo (n / 65536 + n % 65536) = fo n := by unfold fo; rw [if_neg (by omega), if_neg (by omega)]; omega
theorem fo_bd {n : Int} (h0 : 0 ≤ n) : 0 ≤ fo n ∧ fo n ≤ 65535 := by unfold fo; split <;> omega
theorem fo_add (a b : Int) (ha : 0 ≤ a) (hb : 0 ≤ b) : fo (fo a + b) = fo (a + b) := by
  by_cases h : a = 0
  · subst h; rfl
  · have : fo a = (a - 1) % 65535 + 1 := by unfold fo; rw [if_neg h]
    rw [this]; unfold fo; rw [if_neg (by omega), if_neg (by omega)]; omega
theorem fo_fo (a : Int) (ha : 0 ≤ a) : fo (fo a) = fo a := fo_small (fo_bd ha).1 (fo_bd ha).2
attribute [go_sem] u64_and65535
end Go.Proofs.YtbckoohljkmahaaGreat
namespace Go.Proofs.YtbckoohljkmahaaGreat
set_option linter.unusedVariables false
set_option linter.unusedSimpArgs false
open Go.RowKit

theorem add_add (a : Addr) (i j : Nat) : (a.add i).add j = a.add (i + j) := by
  unfold Addr.add
  by_cases hi : i = 0 <;> by_cases hj : j = 0 <;> simp [hi, hj, Nat.add_assoc]

/-- the range of a kind of integers -/
def inr (k : IntKind) (x : Int) : Prop := (Lit.int k x).wf = true
theorem inr_u8 {x : Int} (h : inr .u8 x) : 0 ≤ x ∧ x ≤ 255 := by
  simpa [inr, Lit.wf, IntKind.min, IntKind.max, IntKind.signed, IntKind.bits] using h
theorem inr_u16 {x : Int} (h : inr .u16 x) : 0 ≤ x ∧ x ≤ 65535 := by
  simpa [inr, Lit.wf, IntKind.min, IntKind.max, IntKind.signed, IntKind.bits] using h
theorem inr_u32 {x : Int} (h : inr .u32 x) : 0 ≤ x ∧ x ≤ 4294967295 := by
  simpa [inr, Lit.wf, IntKind.min, IntKind.max, IntKind.signed, IntKind.bits] using h
theorem u8_inr {x : Int} (h : 0 ≤ x ∧ x ≤ 255) : inr .u8 x := WalkArith.wf_u8 h
theorem u16_inr {x : Int} (h : 0 ≤ x ∧ x ≤ 65535) : inr .u16 x := WalkArith.wf_u16 h
theorem u32_inr {x : Int} (h : 0 ≤ x ∧ x ≤ 4294967295) : inr .u32 x := WalkArith.wf_u32 h
theorem i64_inr {x : Int} (h : -9223372036854775808 ≤ x ∧ x ≤ 9223372036854775807) : inr .i64 x := WalkArith.wf_i64 h

/-- the slice (A, n) holds the integers l of kind k, below block B -/
structure Rd (k : IntKind) (w : World) (B : Nat) (A : Option Addr) (n : Nat) (l : List Int) : Prop where
  len : l.length = n
  rng : ∀ x, x ∈ l → inr k x
  cel : 0 < n → ∃ b o, A = some ⟨b, o, none⟩ ∧ b < B ∧ ∀ j, j < n → w.cell? ⟨b, o + j, none⟩ = some (.int k (l.getD j 0))

section
variable {k : IntKind} {w w' : World} {B B' n : Nat} {A : Option Addr} {l : List Int}
theorem Rd.nil (k : IntKind) (w : World) (B : Nat) (A : Option Addr) : Rd k w B A 0 [] := ⟨rfl, by simp, fun h => absurd h (by omega)⟩
theorem Rd.at_ {j : Nat} (h : Rd k w B A n l) (hj : j < n) : ∃ b o, A = some ⟨b, o, none⟩ ∧ b < B ∧ w.cell? ⟨b, o + j, none⟩ = some (.int k (l.getD j 0)) ∧ inr k (l.getD j 0) := by
  obtain ⟨b, o, e, hb, hc⟩ := h.cel (by omega)
  refine ⟨b, o, e, hb, hc j hj, h.rng _ ?_⟩
  have hl := h.len
  rw [List.getD_eq_getElem?_getD, List.getElem?_eq_getElem (by omega)]
  exact List.getElem_mem _
theorem Rd.keep (h : Rd k w B A n l) (hk : ∀ p : Addr, p.block < B → w'.cell? p = w.cell? p) : Rd k w' B A n l :=
  ⟨h.len, h.rng, fun hn => by
    obtain ⟨b, o, e, hb, hc⟩ := h.cel hn
    exact ⟨b, o, e, hb, fun j hj => (hk _ hb).trans (hc j hj)⟩⟩
theorem Rd.more (h : Rd k w B A n l) (hB : B ≤ B') : Rd k w B' A n l :=
  ⟨h.len, h.rng, fun hn => by
    obtain ⟨b, o, e, hb, hc⟩ := h.cel hn
    exact ⟨b, o, e, by omega, hc⟩⟩
theorem Rd.below (h : Rd k w B A n l) (hb : Below B w w') : Rd k w' B A n l := h.keep fun _ hp => hb.cell hp
theorem Rd.drewN (h : Rd k w B A n l) (m : Nat) : Rd k (w.drewN m) B A n l := ⟨h.len, h.rng, h.cel⟩
theorem Rd.alloc (h : Rd k w B A n l) (hB : B ≤ w.heap.size) (o : Obj) : Rd k (w.alloc o) B A n l := h.keep fun p hp => World.cell?_alloc_lt w o p (by omega)
theorem Rd.take (h : Rd k w B A n l) {m : Nat} (hm : m ≤ n) : Rd k w B A m (l.take m) := by
  have hl := h.len
  refine ⟨by rw [List.length_take]; omega, fun x hx => h.rng x (List.mem_of_mem_take hx), fun h0 => ?_⟩
  obtain ⟨b, o, e, hb, hc⟩ := h.cel (by omega)
  refine ⟨b, o, e, hb, fun j hj => ?_⟩
  rw [hc j (by omega)]
  simp [List.getD_eq_getElem?_getD, hj]
theorem Rd.drop (h : Rd k w B A n l) {m cap : Nat} (hm : m ≤ n) (hc : n ≤ cap) : Rd k w B (if cap = m then A else A.map (·.add m)) (n - m) (l.drop m) := by
  have hl := h.len
  refine ⟨by rw [List.length_drop, hl], fun x hx => h.rng x (List.mem_of_mem_drop hx), fun h0 => ?_⟩
  obtain ⟨b, o, rfl, hb, hcell⟩ := h.cel (by omega)
  rw [if_neg (by omega)]
  refine ⟨b, o + m, by simp [Addr.add], hb, fun j hj => ?_⟩
  rw [Nat.add_assoc, hcell _ (by omega)]
  simp [List.getD_eq_getElem?_getD]
theorem Rd.cut (h : Rd k w B A n l) {m cap : Nat} (hm : m ≤ n) (hc : n ≤ cap) : ∃ A2, (if cap = m then A else Option.map (fun x => x.add m) A) = A2 ∧ Rd k w B A2 (n - m) (l.drop m) := ⟨_, rfl, h.drop hm hc⟩
theorem Rd.of_own {base : Nat} {e : TypeId} {c : Nat} (h : w.ownsRow base e 1 (.slice A n c) n (l.map (Value.int k))) (hr : ∀ x, x ∈ l → inr k x) : Rd k w w.heap.size A n l := by
  have hl : l.length = n := by have := h.1; simpa using this
  refine ⟨hl, hr, fun hn => ?_⟩
  obtain ⟨g, cap, hv, _, hlt⟩ := h.form hn
  have hA : A = some ⟨g, 0, none⟩ := by injection hv
  subst hA
  refine ⟨g, 0, rfl, hlt, fun j hj => ?_⟩
  have hc := h.cells (g := g) rfl j (.int k (l.getD j 0)) ?_
  · rw [← hc]; simp [Addr.add]; split <;> simp_all
  simp [List.getElem?_eq_getElem (show j < l.length by omega)]
theorem Rd.new (k : IntKind) (w : World) (t : TypeId) (l : List Int) (hr : ∀ x, x ∈ l → inr k x) (cs : Array Value) (hcs : cs = (l.map (Value.int k)).toArray) (n : Nat) (hn : l.length = n) :
    Rd k (w.alloc (.cells cs t)) (w.heap.size + 1) (some ⟨w.heap.size, 0, none⟩) n l := by
  subst hcs
  refine ⟨hn, hr, fun h0 => ⟨_, 0, rfl, by omega, fun j hj => ?_⟩⟩
  rw [cell_of_row _ _ _ _ _ _ (heap_alloc_new w _)]
  simp [List.getElem?_eq_getElem (show j < l.length by omega)]

/-- a row of the call's own that holds the integers l -/
structure Own (k : IntKind) (e : TypeId) (w : World) (base : Nat) (v : Value) (l : List Int) : Prop where
  row : w.ownsRow base e 1 v l.length (l.map (Value.int k))
  rng : ∀ x, x ∈ l → inr k x
theorem bel_after {w W w1 : World} (h : Below w.heap.size w W) (hb : Below W.heap.size W w1) : Below w.heap.size w w1 := h.trans (hb.mono h.size)
theorem bel_alloc (w : World) (o : Obj) : Below w.heap.size w (w.alloc o) := (Below.refl _ _).alloc (Nat.le_refl _) o
theorem bcell {W w1 : World} (hb : Below W.heap.size W w1) : (∀ b o, b < W.heap.size → w1.cell? ⟨b, o, none⟩ = W.cell? ⟨b, o, none⟩) ∧ (∀ b o, b < W.heap.size → w1.frozen? ⟨b, o, none⟩ = W.frozen? ⟨b, o, none⟩) :=
  ⟨fun b o h => hb.cell (p := ⟨b, o, none⟩) h, fun b o h => hb.frozen (p := ⟨b, o, none⟩) h⟩
theorem below_drewN {B : Nat} {a w : World} (h : Below B a w) (n : Nat) : Below B a (w.drewN n) := ⟨h.os, h.tape, h.output, h.size, h.block⟩
theorem Own.nil (k : IntKind) (e : TypeId) (w : World) (base : Nat) : Own k e w base (.slice none 0 0) [] := ⟨World.ownsRow_nil w base e 1, by simp⟩
theorem Own.form {e : TypeId} {v : Value} {base : Nat} (h : Own k e w base v l) {n : Nat} (hn : l.length = n) : ∃ A c, v = .slice A n c ∧ n ≤ c ∧ c ≤ maxLen ∧ Rd k w w.heap.size A n l := by
  subst hn
  have hr := h.row
  rcases hr.2 with ⟨rfl, h0⟩ | ⟨g, cap, cur, rfl, hg, hh, hnc, hcm, hcs, hx⟩
  · have : l = [] := List.length_eq_zero_iff.mp h0
    subst this
    exact ⟨none, 0, rfl, Nat.le_refl _, Nat.zero_le _, Rd.nil _ _ _ _⟩
  · exact ⟨_, cap, rfl, hnc, hcm, Rd.of_own hr h.rng⟩
theorem Own.keep {e : TypeId} {v : Value} {base : Nat} (h : Own k e w base v l) {row : Option Nat} (hg : w.grownBy w' row) (hne : v.ownBlock = none ∨ v.ownBlock ≠ row) : Own k e w' base v l := ⟨h.row.kept hg hne, h.rng⟩
theorem Own.alloc {e : TypeId} {v : Value} {base : Nat} (h : Own k e w base v l) (o : Obj) : Own k e (w.alloc o) base v l := ⟨h.row.alloc o, h.rng⟩
theorem Own.drew {e : TypeId} {v : Value} {base : Nat} (h : Own k e w base v l) : Own k e w.drew base v l := ⟨h.row, h.rng⟩
theorem Own.below {e : TypeId} {v : Value} {base : Nat} (h : Own k e w base v l) (hb : Below w.heap.size w w') : Own k e w' base v l := by
  refine h.keep (row := none) ⟨hb.os, hb.tape, hb.output, hb.size, fun k hk _ => hb.block k hk⟩ ?_
  cases hv : v.ownBlock
  · exact .inl rfl
  · exact .inr (by simp)
theorem Own.lt {e : TypeId} {v : Value} {base : Nat} (h : Own k e w base v l) : ∀ g, v.ownBlock = some g → base ≤ g ∧ g < w.heap.size := h.row.lt
theorem Own.formG {e : TypeId} {v : Value} {base : Nat} (h : Own k e w base v l) {n : Nat} (hn : l.length = n) (h0 : 0 < n) :
    ∃ g c, v = .slice (some ⟨g, 0, none⟩) n c ∧ n ≤ c ∧ c ≤ maxLen ∧ base ≤ g ∧ g < w.heap.size := by
  subst hn
  rcases h.row.2 with ⟨rfl, h1⟩ | ⟨g, cap, cur, rfl, hg, hh, hnc, hcm, hcs, hx⟩
  · omega
  · exact ⟨g, cap, rfl, hnc, hcm, hg, (h.lt g rfl).2⟩
theorem Own.at_ {e : TypeId} {g n c base : Nat} (h : Own k e w base (.slice (some ⟨g, 0, none⟩) n c) l) (hn : l.length = n) {j : Nat} (hj : j < n) :
    w.cell? ⟨g, j, none⟩ = some (.int k (l.getD j 0)) ∧ w.frozen? ⟨g, j, none⟩ = false ∧ inr k (l.getD j 0) := by
  subst hn
  refine ⟨?_, h.row.frozenAt j, h.rng _ ?_⟩
  · rw [h.row.cellAt j (by omega)]; simp [List.getElem?_eq_getElem hj]
  · rw [List.getD_eq_getElem?_getD, List.getElem?_eq_getElem hj]; exact List.getElem_mem _
theorem Own.set {e : TypeId} {g n c base : Nat} (h : Own k e w base (.slice (some ⟨g, 0, none⟩) n c) l) (hn : l.length = n) (j : Nat) {x : Int} (hx : inr k x) :
    Own k e (w.setCell ⟨g, j, none⟩ (.int k x)) base (.slice (some ⟨g, 0, none⟩) n c) (l.set j x) := by
  subst hn
  refine ⟨?_, fun y hy => ?_⟩
  · have := (h.row.stored j (.int k x)).1
    rw [List.length_set, List.map_set]; exact this
  · rcases List.mem_or_eq_of_mem_set hy with h1 | h1
    · exact h.rng y h1
    · exact h1 ▸ hx
theorem Own.rd {e : TypeId} {g n c base : Nat} (h : Own k e w base (.slice (some ⟨g, 0, none⟩) n c) l) (hn : l.length = n) : Rd k w w.heap.size (some ⟨g, 0, none⟩) n l := by
  obtain ⟨A, c', h1, _, _, h2⟩ := h.form hn
  simp only [Value.slice.injEq] at h1
  exact h1.1 ▸ h2
/-- a block that was just laid, with exactly these cells -/
theorem Own.new (k : IntKind) (w : World) (t : TypeId) (base : Nat) (hb : base ≤ w.heap.size) (l : List Int) (hr : ∀ x, x ∈ l → inr k x) (cs : Array Value) (hcs : cs = (l.map (Value.int k)).toArray) (n : Nat) (hn : n = l.length) (hm : l.length ≤ maxLen) :
    Own k t (w.alloc (.cells cs t)) base (.slice (some ⟨w.heap.size, 0, none⟩) n n) l := by
  subst hcs; subst hn
  refine ⟨⟨by simp, .inr ⟨w.heap.size, l.length, _, rfl, hb, heap_alloc_new w _, Nat.le_refl _, hm, by simp, by simp [List.take_of_length_le]⟩⟩, hr⟩

section
variable {P : Program}
/-- 'append(own, src...)': the source is a slice that reads as a list, nil or not -/
theorem run_app (w : World) (k : IntKind) (base : Nat) (t ty e : TypeId) (i : TypeInfo) (z : Value) (bytes : Nat) (ht : P.underlying t = some (.slice e)) (hi : P.info? e = some i) (hz : i.zero = some z)
    (hsize : i.size = 1) (hby : i.bytes = bytes) (hzs : z.cells.size = 1) (v : Value) (l : List Int) (hown : Own k e w base v l)
    (B : Nat) (A : Option Addr) (m c : Nat) (l2 : List Int) (hr : Rd k w B A m l2) (hlen : (l.length + m) * bytes ≤ 140737488355328) (hbp : 0 < bytes) (hbase : base ≤ w.heap.size) :
    ∃ v' w', (Builtin.append_ #[t, t] ty #[v, .slice A m c]).run P w = .ok v' w' ∧ Own k e w' base v' (l ++ l2) ∧ w.grownBy w' v.ownBlock ∧ (v'.ownBlock = v.ownBlock ∨ v'.ownBlock = some w.heap.size) := by
  have hl := hr.len
  have h63 : l.length + m ≤ maxLen := by
    have := Nat.le_mul_of_pos_right (l.length + m) hbp
    unfold maxLen; omega
  have hrng : ∀ x, x ∈ l ++ l2 → inr k x := fun x hx => (List.mem_append.1 hx).elim (hown.rng x) (hr.rng x)
  have main : ∀ ad : Addr, (∀ j u, (l2.map (Value.int k))[j]? = some u → w.cell? (ad.add j) = some u) → ∃ v' w', (Builtin.append_ #[t, t] ty #[v, .slice (some ad) m c]).run P w = .ok v' w' ∧ Own k e w' base v' (l ++ l2) ∧ w.grownBy w' v.ownBlock ∧ (v'.ownBlock = v.ownBlock ∨ v'.ownBlock = some w.heap.size) := by
    intro ad hc
    obtain ⟨v', w', h1, h2, h3, _, h5⟩ := run_append_own_at (P := P) w base t ty e i z 1 bytes ht hi hz hsize hby hzs (by omega) v l.length (l.map (Value.int k)) hown.row ad m c (l2.map (Value.int k)) (by simpa using hl) hc
      (by simp [Value.oneCell']) h63 hlen hbase
    exact ⟨v', w', h1, ⟨by rw [List.length_append, List.map_append, hl]; exact h2, hrng⟩, h3, h5⟩
  rcases Nat.eq_zero_or_pos m with h0 | h0
  · subst h0
    have e2 : l2 = [] := List.length_eq_zero_iff.mp hl
    subst e2
    cases A with
    | some ad => exact main ad (by simp)
    | none =>
      refine ⟨v, w, ?_, by simpa using hown, World.grownBy.refl w _, .inl rfl⟩
      rcases hown.row.2 with ⟨rfl, h⟩ | ⟨g, cap, cur, rfl, _, _, hnc, _⟩
      · simp [Builtin.append_, run_underlying ht, sizeOf, typeInfo, hi, Builtin.lenOf, Builtin.firstCells]
      · simp [Builtin.append_, run_underlying ht, sizeOf, typeInfo, hi, Builtin.lenOf, Builtin.firstCells, hnc, storeCells]
  · obtain ⟨b, o, rfl, hb, hc⟩ := hr.cel h0
    refine main ⟨b, o, none⟩ fun j u hu => ?_
    have hj : j < l2.length := by
      have := List.getElem?_eq_some_iff.1 hu; obtain ⟨h, _⟩ := this; simpa using h
    have := hc j (by omega)
    rw [List.getElem?_map, List.getElem?_eq_getElem hj] at hu
    simp at hu
    subst hu
    rw [List.getD_eq_getElem?_getD, List.getElem?_eq_getElem hj] at this
    simp [Addr.add]
    split
    · rename_i h; subst h; simpa using this
    · simpa using this

theorem wpList_app {ops : Array Oper} {rest : List Oper} {o : Oper} {a : Act} {Q : Exit → Act → World → Prop} (w : World) (hgd : o.guard = none) (s x : Operand) (t : TypeId)
    (ho : o.op = .call { callee := .builtin .append, args := #[s, x], argTypes := #[t, t] }) (k : IntKind)
    (base : Nat) (e : TypeId) (i : TypeInfo) (z : Value) (bytes : Nat) (ht : P.underlying t = some (.slice e)) (hi : P.info? e = some i) (hz : i.zero = some z)
    (hsize : i.size = 1) (hby : i.bytes = bytes) (hzs : z.cells.size = 1) (v : Value) (hs : a.eval s = v) (l : List Int) (hown : Own k e w base v l)
    (B : Nat) (A : Option Addr) (m c : Nat) (hx : a.eval x = .slice A m c) (l2 : List Int) (hr : Rd k w B A m l2) (hlen : (l.length + m) * bytes ≤ 140737488355328) (hbp : 0 < bytes) (hbase : base ≤ w.heap.size)
    (h : ∀ v' w', Own k e w' base v' (l ++ l2) → w.grownBy w' v.ownBlock → (v'.ownBlock = v.ownBlock ∨ v'.ownBlock = some w.heap.size) → wpList P ops Q rest (a.put o.dst v') w') : wpList P ops Q (o :: rest) a w := by
  refine wpList_plain hgd fun K hK => ?_
  obtain ⟨v', w', hrun, h2, h3, h4⟩ := run_app (P := P) w k base t o.type e i z bytes ht hi hz hsize hby hzs v l hown B A m c l2 hr hlen hbp hbase
  unfold Oper.wp execOp
  simp only [ho, resolve, invoke, builtin, Sem.run_bind, Sem.run_pure, Result.andThen_ok, List.map_toArray, List.map_cons, List.map_nil, hs, hx, hrun]
  exact hK _ _ (h v' w' h2 h3 h4)
/-- 'string(b)' -/
theorem conv_rd {w : World} {B : Nat} {A : Option Addr} {n cap : Nat} {l : List Int} (h : Rd .u8 w B A n l) (src e dst : TypeId) (hs : P.underlying src = some (.slice e)) (he : P.underlying e = some (.int .u8)) (hd : P.underlying dst = some .string) :
    (convert src dst (.slice A n cap)).run P w = .ok (.string (strOfNums l)) w := by
  rcases Nat.eq_zero_or_pos n with h0 | h0
  · subst h0
    have : l = [] := List.length_eq_zero_iff.mp h.len
    subst this
    cases A with
    | none => exact run_convert_bytes_nil w src e hs he 0 cap dst hd
    | some ad =>
      have hl : (loadCells ad 0).run P w = .ok ([] : List Value).toArray w := run_loadCells_list (P := P) w ad [] (by simp)
      have := run_convert_bytes_string w src dst e (some ad) 0 cap hs he hd
      rw [this, run_bytesToString w ad 0 cap [] (by simpa using hl), foldl_push_bytes]
      rfl
  · obtain ⟨b, o, rfl, _, hc⟩ := h.cel h0
    exact run_convert_bytes_arg w src e hs he b o n cap l h.len hc dst hd
end
end
end Go.Proofs.YtbckoohljkmahaaGreat
namespace Go.Proofs.YtbckoohljkmahaaGreat
set_option linter.unusedVariables false
set_option linter.unusedSimpArgs false
open Go.RowKit
theorem cell_lt {W : World} {a : Addr} {y : Value} (h : W.cell? a = some y) : a.block < W.heap.size := by
  rcases Nat.lt_or_ge a.block W.heap.size with h1 | h1
  · exact h1
  · simp [World.cell?, Array.getElem?_eq_none h1] at h
/-- block g is just these cells, of element type t, none frozen -/
def Blk (w : World) (g : Nat) (t : TypeId) (cs : Array Value) : Prop := w.heap[g]? = some (.cells cs t (0, 0))
section
variable {w w' : World} {g : Nat} {t : TypeId} {cs : Array Value}
theorem Blk.lt (h : Blk w g t cs) : g < w.heap.size := (Array.getElem?_eq_some_iff.1 h).1
theorem Blk.cell (h : Blk w g t cs) (i : Nat) : w.cell? ⟨g, i, none⟩ = cs[i]? := cell_of_row w g i cs t (0, 0) h
theorem Blk.frozen (h : Blk w g t cs) (i : Nat) : w.frozen? ⟨g, i, none⟩ = false := by
  unfold Blk at h; simp [World.frozen?, h]
theorem Blk.new (w : World) (t : TypeId) (cs : Array Value) : Blk (w.alloc (.cells cs t)) w.heap.size t cs := heap_alloc_new w _
theorem Blk.drew (h : Blk w g t cs) : Blk w.drew g t cs := h
theorem Blk.alloc (h : Blk w g t cs) (o : Obj) : Blk (w.alloc o) g t cs := (Below.heap_alloc w o g h.lt).trans h
theorem Blk.set_ (h : Blk w g t cs) (i : Nat) (u : Value) : Blk (w.setCell ⟨g, i, none⟩ u) g t (cs.setIfInBounds i u) := by
  unfold Blk at h ⊢; simp [World.setCell, Array.getElem?_modify, h]
theorem Blk.far (h : Blk w g t cs) {p : Addr} (hp : g ≠ p.block) (u : Value) : Blk (w.setCell p u) g t cs := (Below.heap_setCell w p u g hp).trans h
theorem Blk.below {B : Nat} (h : Blk w g t cs) (hb : Below B w w') (hg : g < B) : Blk w' g t cs := (hb.block g hg).trans h
theorem Blk.bel (h : Blk w g t cs) (hb : Below w.heap.size w w') : Blk w' g t cs := (hb.block g h.lt).trans h
theorem Blk.grown (h : Blk w g t cs) {row : Option Nat} (hb : w.grownBy w' row) (hg : row ≠ some g) : Blk w' g t cs := (hb.block g h.lt (fun e => hg e.symm)).trans h
theorem Blk.ne_ {g' : Nat} {t' : TypeId} {cs' : Array Value} (h : Blk w g t cs) (h' : Blk w g' t' cs') (hne : t ≠ t') : g ≠ g' := by
  rintro rfl
  have := h.symm.trans h'
  simp only [Option.some.injEq, Obj.cells.injEq] at this
  exact hne this.2.1
end
/-- only the blocks of S may have turned; new ones may have come -/
structure Upd (S : Nat → Prop) (w w' : World) : Prop where
  os : w'.os = w.os
  tape : w'.tape = w.tape
  output : w'.output = w.output
  size : w.heap.size ≤ w'.heap.size
  block : ∀ k, k < w.heap.size → ¬ S k → w'.heap[k]? = w.heap[k]?
section
variable {S T : Nat → Prop} {w w' w'' : World}
theorem Upd.refl (S : Nat → Prop) (w : World) : Upd S w w := ⟨rfl, rfl, rfl, Nat.le_refl _, fun _ _ _ => rfl⟩
theorem Upd.trans (h : Upd S w w') (k : Upd S w' w'') : Upd S w w'' :=
  ⟨k.os.trans h.os, k.tape.trans h.tape, k.output.trans h.output, Nat.le_trans h.size k.size, fun i hi hS => (k.block i (Nat.lt_of_lt_of_le hi h.size) hS).trans (h.block i hi hS)⟩
theorem Upd.mono (h : Upd S w w') (hS : ∀ k, k < w.heap.size → S k → T k) : Upd T w w' := ⟨h.os, h.tape, h.output, h.size, fun k hk hT => h.block k hk (fun e => hT (hS k hk e))⟩
theorem Upd.drew (h : Upd S w w') : Upd S w w'.drew := ⟨h.os, h.tape, h.output, h.size, h.block⟩
theorem Upd.alloc (h : Upd S w w') (o : Obj) : Upd S w (w'.alloc o) :=
  h.trans ⟨rfl, rfl, rfl, by simp, fun k hk _ => Below.heap_alloc _ _ _ hk⟩
theorem Upd.setCell (h : Upd S w w') {p : Addr} (hp : p.block < w.heap.size → S p.block) (u : Value) : Upd S w (w'.setCell p u) :=
  ⟨h.os, h.tape, h.output, by simpa [World.setCell] using h.size, fun k hk hS => by
    rw [Below.heap_setCell _ _ _ _ (fun e => hS (by subst e; exact hp hk))]; exact h.block k hk hS⟩
theorem Upd.one (w : World) (h i : Nat) (u : Value) : Upd (· = h) w (w.setCell ⟨h, i, none⟩ u) := (Upd.refl (· = h) w).setCell (p := ⟨h, i, none⟩) (fun _ => rfl) u
theorem Upd.of_below (h : Below w.heap.size w w') (S : Nat → Prop) : Upd S w w' := ⟨h.os, h.tape, h.output, h.size, fun k hk _ => h.block k hk⟩
theorem Upd.below (h : Upd S w w') {B : Nat} (hB : B ≤ w.heap.size) (hS : ∀ k, k < B → ¬ S k) : Below B w w' := ⟨h.os, h.tape, h.output, h.size, fun k hk => h.block k (Nat.lt_of_lt_of_le hk hB) (hS k hk)⟩
theorem Upd.of_grown {row : Option Nat} (h : w.grownBy w' row) (hS : ∀ g, row = some g → S g) : Upd S w w' := ⟨h.os, h.tape, h.output, h.size, fun k hk hk' => h.block k hk (fun e => hk' (hS k e.symm))⟩
theorem Blk.upd {g : Nat} {t : TypeId} {cs : Array Value} (h : Blk w g t cs) (hu : Upd S w w') (hg : ¬ S g) : Blk w' g t cs := (hu.block g h.lt hg).trans h
end
theorem Own.updne {kd : IntKind} {e t : TypeId} {w w' : World} {base h : Nat} {v : Value} {l : List Int} {cs : Array Value} (ho : Own kd e w base v l) (hb : Blk w h t cs) (hne : e ≠ t) (hu : Upd (· = h) w w') : Own kd e w' base v l := by
  refine ho.keep (row := some h) ⟨hu.os, hu.tape, hu.output, hu.size, fun k hk hk' => hu.block k hk (fun e => hk' (by rw [e]))⟩ ?_
  rcases ho.row.2 with ⟨rfl, _⟩ | ⟨g, cap, cur, rfl, _, hh, _⟩
  · exact .inl rfl
  · refine .inr (fun e => ?_)
    have : g = h := by simpa [Value.ownBlock] using e
    exact Blk.ne_ (t := _) (cs := cur) hh hb hne this
theorem Own.ne {kd : IntKind} {e t : TypeId} {w : World} {base h g n c : Nat} {l : List Int} {cs : Array Value} (ho : Own kd e w base (.slice (some ⟨g, 0, none⟩) n c) l) (hb : Blk w h t cs) (hne : e ≠ t) : h ≠ g := by
  rcases ho.row.2 with ⟨h', _⟩ | ⟨g', cap, cur, h', _, hh, _⟩
  · simp at h'
  · simp only [Value.slice.injEq, Option.some.injEq, Addr.mk.injEq, and_true] at h'
    rw [h'.1]; exact (Blk.ne_ (cs := cur) hh hb hne).symm
end Go.Proofs.YtbckoohljkmahaaGreat
namespace Go.Proofs.YtbckoohljkmahaaGreat
set_option linter.unusedVariables false
set_option linter.unusedSimpArgs false
open Go.RowKit
section
variable {P : Program}
theorem quiet_run {o : Oper} {a : Act} {C : World → Prop} {K : Act → Prop} (v : Value) (h : ∀ w, C w → (execOp a.eval o).run P w = .ok (.value v) w) (hk : K (a.put o.dst v)) : o.quiet P a C K :=
  ⟨v, fun w hw => by unfold Oper.quietAt; rw [h w hw]; exact ⟨rfl, rfl⟩, hk⟩
/-- a callee that leaves the world alone, in a quiet region -/
theorem quiet_l {f : FuncId} {args : Array Value} {w : World} {n : Nat} {v : Value} (h : Calls P f args (w.drewN n) fun e w' => e = .returned v ∧ w.drewN n = w') :
    Calls P f args (w.drewN n) fun e w'' => e = .returned v ∧ ∃ m, w'' = w.drewN m := h.mono fun _ _ ⟨he, hm⟩ => ⟨he, n, hm.symm⟩
end
end Go.Proofs.YtbckoohljkmahaaGreat
namespace Go.Proofs.YtbckoohljkmahaaGreat
set_option linter.unusedVariables false
set_option linter.unusedSimpArgs false
open Go.RowKit
theorem below_setRow {B : Nat} {w W : World} (h : Below B w W) {g : Nat} (hg : B ≤ g) (c : Array Value) : Below B w (W.setRow g c) :=
  ⟨h.os, h.tape, h.output, by simpa using h.size, fun k hk => (setRow_other W g k c (by omega)).trans (h.block k hk)⟩
theorem Blk.setRow {W : World} {g : Nat} {t : TypeId} {cs : Array Value} (h : Blk W g t cs) (c : Array Value) : Blk (W.setRow g c) g t c := setRow_heap W g cs c t (0, 0) h
theorem Blk.setRow_far {W : World} {g g' : Nat} {t : TypeId} {cs : Array Value} (h : Blk W g t cs) (hne : g ≠ g') (c : Array Value) : Blk (W.setRow g' c) g t cs := (setRow_other W g' g c hne).trans h
section
variable {P : Program} {ops : Array Oper} {Q : Exit → Act → World → Prop} {a : Act} {w : World} {rest : List Oper} {o : Oper}
/-- a struct is stored whole -/
theorem wpList_stRow (hg : o.guard = none) (hd : o.dst = none) {t : TypeId} {p v : Operand} (ho : o.op = .store t p v) {g : Nat} (hp : a.eval p = .pointer (some ⟨g, 0, none⟩)) {cs : Array Value} (hv : a.eval v = .agg cs) {tt : TypeId} {old : Array Value}
    (hb : Blk w g tt old) (hi : (P.info? t).map (·.size) = some cs.size) (hs : old.size = cs.size) (h1 : cs.all (·.oneCell') = true) (h : wpList P ops Q rest a (w.setRow g cs)) : wpList P ops Q (o :: rest) a w := by
  refine wpList_plain hg fun K hK => ?_
  have hr : (execOp a.eval o).run P w = .ok .skip (w.setRow g cs) := by
    have h2 := run_storeVar_row (P := P) w g tt t old cs hb hi hs h1
    simp only [execOp, ho, hp, hv, Instr.storeAt, Instr.sureAddr, Sem.run_bind, Sem.run_pure, Result.andThen, h2]
  unfold Oper.wp
  rw [hr, Oper.upon_skip, hd]
  exact hK _ _ h
/-- a struct is loaded whole -/
theorem wpList_ldRow (hg : o.guard = none) {t : TypeId} {p : Operand} (ho : o.op = .load t p) {g : Nat} (hp : a.eval p = .pointer (some ⟨g, 0, none⟩)) {tt : TypeId} {cs : Array Value}
    (hb : Blk w g tt cs) {fs : Array Field} (hu : P.underlying t = some (.struct fs)) (hi : (P.info? t).map (·.size) = some cs.size) (h : wpList P ops Q rest (a.put o.dst (.agg cs)) w) : wpList P ops Q (o :: rest) a w := by
  refine wpList_plain hg fun K hK => ?_
  have hr : (execOp a.eval o).run P w = .ok (.value (.agg cs)) w := by
    have h2 := run_loadVar_row (P := P) w g tt t cs (0, 0) (.struct fs) hb hu rfl hi
    simp only [execOp, ho, hp, Instr.loadAt, Instr.sureAddr, Sem.run_bind, Sem.run_pure, Result.andThen, h2]
  unfold Oper.wp
  rw [hr, Oper.upon_value]
  exact hK _ _ h
/-- results: a struct's cell, and one more -/
theorem results_row {fn : Func} {x : Tmp} {ty : TypeId} (h : fn.results = #[.cell x ty]) (tmps : Array Value) {g : Nat} (hp : tmps.getD x undef = .pointer (some ⟨g, 0, none⟩)) {tt : TypeId} {cs : Array Value} (hb : Blk w g tt cs) {fs : Array Field} (hu : P.underlying ty = some (.struct fs))
    (hi : (P.info? ty).map (·.size) = some cs.size) : (results fn tmps).run P w = .ok (.agg cs) w := by
  have h2 := run_loadVar_row (P := P) w g tt ty cs (0, 0) (.struct fs) hb hu rfl hi
  rw [Array.getD_eq_getD_getElem?] at hp
  simp [results, h, hp, asAddr, h2]
theorem results_row2 {fn : Func} {x y : Tmp} {ty : TypeId} (h : fn.results = #[.cell x ty, .tmp y]) (tmps : Array Value) {g : Nat} (hp : tmps.getD x undef = .pointer (some ⟨g, 0, none⟩)) {tt : TypeId} {cs : Array Value} (hb : Blk w g tt cs) {fs : Array Field} (hu : P.underlying ty = some (.struct fs))
    (hi : (P.info? ty).map (·.size) = some cs.size) : (results fn tmps).run P w = .ok (.tuple #[.agg cs, tmps.getD y undef]) w := by
  have h2 := run_loadVar_row (P := P) w g tt ty cs (0, 0) (.struct fs) hb hu rfl hi
  rw [Array.getD_eq_getD_getElem?] at hp
  simp [results, h, hp, asAddr, h2]
end
theorem Upd.row' (w : World) (g : Nat) (t : Array Value) : Upd (fun k => k = g) w (w.setRow g t) := ⟨rfl, rfl, rfl, by simp, fun k _ hS => setRow_other w g k t hS⟩
section
variable {P : Program}
theorem quiet_ldRow {o : Oper} {a : Act} {C : World → Prop} {K : Act → Prop} {t : TypeId} {p : Operand} (ho : o.op = .load t p) {g : Nat} (hp : a.eval p = .pointer (some ⟨g, 0, none⟩)) {tt : TypeId} {cs : Array Value} (h : ∀ w, C w → Blk w g tt cs) {fs : Array Field} (hu : P.underlying t = some (.struct fs)) (hi : (P.info? t).map (·.size) = some cs.size)
    (hk : K (a.put o.dst (.agg cs))) : o.quiet P a C K :=
  quiet_run _ (fun w hw => by
    have h2 := run_loadVar_row (P := P) w g tt t cs (0, 0) (.struct fs) (h w hw) hu rfl hi
    simp only [execOp, ho, hp, Instr.loadAt, Instr.sureAddr, Sem.run_bind, Sem.run_pure, Result.andThen, h2]) hk
end
end Go.Proofs.YtbckoohljkmahaaGreat
namespace Go.Proofs.YtbckoohljkmahaaGreat
set_option linter.unusedVariables false
set_option linter.unusedSimpArgs false
open Go.RowKit
theorem and32 (f : Int) (m : Nat) (hm : m < 32) : bits .and .i64 f (m : Int) = (((f % 32).toNat &&& m : Nat) : Int) := by
  show IntKind.i64.wrap ((BitVec.ofInt 64 f &&& BitVec.ofInt 64 (m : Int)).toNat : Int) = _
  rw [BitVec.ofInt_natCast, BitVec.toNat_and, BitVec.toNat_ofNat, Nat.mod_eq_of_lt (by omega)]
  have hb : ((BitVec.ofInt 64 f).toNat : Int) = f % 18446744073709551616 := by rw [BitVec.toNat_ofInt]; omega
  have h1 : (BitVec.ofInt 64 f).toNat &&& m ≤ m := Nat.and_le_right
  have h2 : ((BitVec.ofInt 64 f).toNat &&& m) % 2 ^ 5 = ((BitVec.ofInt 64 f).toNat % 2 ^ 5) &&& (m % 2 ^ 5) := Nat.and_mod_two_pow
  rw [Nat.mod_eq_of_lt (show (BitVec.ofInt 64 f).toNat &&& m < 2 ^ 5 by omega), Nat.mod_eq_of_lt (show m < 2 ^ 5 by omega)] at h2
  have h3 : (BitVec.ofInt 64 f).toNat % 2 ^ 5 = (f % 32).toNat := by omega
  rw [h3] at h2
  rw [h2]
  exact IntWalk.i64_in _ (by omega)
/-- is a flag set? -/
def fb (f m : Int) : Bool := bits .and .i64 f m != 0
theorem fb_nat (f : Int) (m : Nat) (hm : m < 32) : fb f m = ((f % 32).toNat &&& m != 0) := by
  unfold fb; rw [and32 f m hm, Bool.eq_iff_iff]; simp
theorem nat18 : ∀ x : Fin 32, ((x.val &&& 18) == 2) = ((x.val &&& 2 != 0) && !(x.val &&& 16 != 0)) := by decide +kernel
theorem nat23 : ∀ x : Fin 32, ((x.val &&& 23) == 2) = ((x.val &&& 2 != 0) && !(x.val &&& 1 != 0) && !(x.val &&& 4 != 0) && !(x.val &&& 16 != 0)) := by decide +kernel
theorem flags18 (f : Int) : (bits .and .i64 f 18 == 2) = (fb f 2 && !fb f 16) := by
  have h := nat18 ⟨(f % 32).toNat, by omega⟩
  have e1 := fb_nat f 2 (by omega)
  have e2 := fb_nat f 16 (by omega)
  rw [show fb f 2 = _ from e1, show fb f 16 = _ from e2, ← h]
  have := and32 f 18 (by omega)
  rw [show bits .and .i64 f 18 = _ from this, Bool.eq_iff_iff]; simp; omega
theorem flags23 (f : Int) : (bits .and .i64 f 23 == 2) = (fb f 2 && !fb f 1 && !fb f 4 && !fb f 16) := by
  have h := nat23 ⟨(f % 32).toNat, by omega⟩
  rw [show fb f 2 = _ from fb_nat f 2 (by omega), show fb f 16 = _ from fb_nat f 16 (by omega), show fb f 1 = _ from fb_nat f 1 (by omega), show fb f 4 = _ from fb_nat f 4 (by omega), ← h]
  have := and32 f 23 (by omega)
  rw [show bits .and .i64 f 23 = _ from this, Bool.eq_iff_iff]; simp; omega
/-- behind an end that was said -/
def endd (st : Int) (out : Bool) : Int :=
  if st = 0 ∨ st = 1 then (if out then 2 else 3) else if (st = 2 ∧ out = false) ∨ (st = 3 ∧ out = true) then 4 else st
def clampS (st : Int) : Int := if st < 0 ∨ 4 < st then 4 else st
/-- behind a segment: is Rst, Fin, Syn, Ack set? -/
def nxt (proto state : Int) (out r f s k : Bool) : Int :=
  if proto ≠ 6 then 0 else if r then 4 else if f then endd (clampS state) out
  else if s && !k && out && (clampS state == 4) then 0 else if k && !out && (clampS state == 0) then 1 else clampS state
theorem clampS_bd (st : Int) : 0 ≤ clampS st ∧ clampS st ≤ 4 := by unfold clampS; split <;> omega
end Go.Proofs.YtbckoohljkmahaaGreat
namespace Go.Proofs.YtbckoohljkmahaaGreat
set_option linter.unusedVariables false
set_option linter.unusedSimpArgs false
open Go.RowKit
/-- a Config -/
structure Cf where
  wk : Int
  ou : Int
  lo : Int
  hi : Int
  bk : Int
  rg : Int
/-- one that may be -/
structure Cf.ok (c : Cf) : Prop where
  wk : 1 ≤ c.wk ∧ c.wk ≤ 64
  ou : c.ou ≠ 0 ∧ c.ou ≠ 4294967295
  lo : 1 ≤ c.lo ∧ c.lo ≤ c.hi
  hi : c.hi ≤ 65535 ∧ c.hi - c.lo < 1024
  bk : 2 ≤ c.bk ∧ c.bk ≤ 1024
  bp : bits .and .i64 c.bk (c.bk - 1) = 0
  rg : 1 ≤ c.rg ∧ c.rg ≤ 256
def Cf.n (c : Cf) : Int := c.hi - c.lo + 1
def kindP (p : Int) : Int := if p = 1 then 0 else if p = 6 then 1 else if p = 17 then 2 else -1
def placeP (c : Cf) (p port : Int) : Int := if kindP p < 0 ∨ port < c.lo ∨ c.hi < port then -1 else kindP p * c.n + port - c.lo
theorem cf_size : (Tryz.prog.info? 36).map (·.size) = some 6 := by kernel_rfl
theorem between_yes (n lo hi : Int) (w : World) (h : lo ≤ n ∧ n ≤ hi) : Calls Tryz.prog 72 #[.int .i64 n, .int .i64 lo, .int .i64 hi] w fun e w' => e = .returned (.bool true) ∧ w = w' := by
  obtain ⟨h1, h2⟩ := h
  have d1 : decide (lo ≤ n) = true := by simpa using h1
  have d2 : decide (n ≤ hi) = true := by simpa using h2
  go_enter Tryz.func72, Tryz.ntmps72
  go_wp2
  go_ret
  exact ⟨rfl, rfl⟩
theorem between_no (n lo hi : Int) (w : World) (h : n < lo ∨ hi < n) : Calls Tryz.prog 72 #[.int .i64 n, .int .i64 lo, .int .i64 hi] w fun e w' => e = .returned (.bool false) ∧ w = w' := by
  rcases Int.lt_or_le n lo with h1 | h1
  · have d1 : decide (lo ≤ n) = false := by simp; omega
    go_enter Tryz.func72, Tryz.ntmps72
    go_wp2
    go_ret
    exact ⟨rfl, rfl⟩
  · have d1 : decide (lo ≤ n) = true := by simpa using h1
    have d2 : decide (n ≤ hi) = false := by simp; omega
    go_enter Tryz.func72, Tryz.ntmps72
    go_wp2
    go_ret
    exact ⟨rfl, rfl⟩
set_option maxRecDepth 100000 in
set_option maxHeartbeats 2000000 in
theorem Wrong_ok (c : Cf) (w : World) (h : c.ok) : Calls Tryz.prog 46 #[.agg #[.int .i64 c.wk, .int .u32 c.ou, .int .i64 c.lo, .int .i64 c.hi, .int .i64 c.bk, .int .i64 c.rg]] w fun e w' => e = .returned (.string ⟨#[]⟩) ∧ Below w.heap.size w w' := by
  obtain ⟨wk, ou, lo, hi, bk, rg⟩ := c
  obtain ⟨⟨a1, a2⟩, ⟨a3, a4⟩, ⟨a5, a6⟩, ⟨a7, a8⟩, ⟨a9, a10⟩, a11, ⟨a12, a13⟩⟩ := h
  simp only at *
  have d1 : (ou == 0) = false := by simpa using a3
  have d2 : (ou == 4294967295) = false := by simpa using a4
  have d3 : decide (lo < 1) = false := by simp; omega
  have d4 : decide (65535 < hi) = false := by simp; omega
  have d5 : decide (hi < lo) = false := by simp; omega
  have d6 : decide (1024 ≤ hi - lo) = false := by simp; omega
  have b1 := fun W => between_yes wk 1 64 W ⟨a1, a2⟩
  have b2 := fun W => between_yes bk 2 1024 W ⟨a9, a10⟩
  have b3 := fun W => between_yes rg 1 256 W ⟨a12, a13⟩
  replace a11 := Lib.hid a11
  replace b1 := Lib.hid b1
  replace b2 := Lib.hid b2
  replace b3 := Lib.hid b3
  clear a3 a4
  go_enter Tryz.func46, Tryz.ntmps46
  go_upto_region 1 with fail
  have bx := Blk.new w 36 #[.int .i64 wk, .int .u32 ou, .int .i64 lo, .int .i64 hi, .int .i64 bk, .int .i64 rg]
  have bel := bel_alloc w (.cells #[.int .i64 wk, .int .u32 ou, .int .i64 lo, .int .i64 hi, .int .i64 bk, .int .i64 rg] 36)
  generalize w.alloc (.cells #[.int .i64 wk, .int .u32 ou, .int .i64 lo, .int .i64 hi, .int .i64 bk, .int .i64 rg] 36) = W at *
  have q0 := bx.cell 0
  have q1 := bx.cell 1
  have q2 := bx.cell 2
  have q3 := bx.cell 3
  have q4 := bx.cell 4
  have q5 := bx.cell 5
  go_wp2_with fail
  refine (b1.out _).mono ?_
  rintro e w' ⟨rfl, rfl⟩
  go_wp2_with fail
  refine (b2.out _).mono ?_
  rintro e w' ⟨rfl, rfl⟩
  have e1 := a11.out
  go_wp2_with fail
  refine (b3.out _).mono ?_
  rintro e w' ⟨rfl, rfl⟩
  go_wp2_with fail
  go_ret
  exact ⟨rfl, bel⟩
set_option maxRecDepth 100000 in
theorem Ports_ok (c : Cf) (w : World) (h : c.ok) : Calls Tryz.prog 75 #[.agg #[.int .i64 c.wk, .int .u32 c.ou, .int .i64 c.lo, .int .i64 c.hi, .int .i64 c.bk, .int .i64 c.rg]] w fun e w' => e = .returned (.int .i64 c.n) ∧ Below w.heap.size w w' := by
  have kw := fun W => Wrong_ok c W h
  obtain ⟨_, _, ⟨a5, a6⟩, ⟨a7, a8⟩, _, _, _⟩ := h
  obtain ⟨wk, ou, lo, hi, bk, rg⟩ := c
  simp only [Cf.n] at *
  replace kw := Lib.hid kw
  go_enter Tryz.func75, Tryz.ntmps75
  go_upto_region 1 with fail
  have bx := Blk.new w 36 #[.int .i64 wk, .int .u32 ou, .int .i64 lo, .int .i64 hi, .int .i64 bk, .int .i64 rg]
  have bel := bel_alloc w (.cells #[.int .i64 wk, .int .u32 ou, .int .i64 lo, .int .i64 hi, .int .i64 bk, .int .i64 rg] 36)
  generalize w.alloc (.cells #[.int .i64 wk, .int .u32 ou, .int .i64 lo, .int .i64 hi, .int .i64 bk, .int .i64 rg] 36) = W at *
  go_wp2_with (refine wpList_ldRow rfl rfl rfl bx Tryz.underlying36 cf_size ?_)
  refine (kw.out _).mono ?_
  rintro e w2 ⟨rfl, hb⟩
  replace bx := bx.bel hb
  replace bel := bel_after bel hb
  have q2 := bx.cell 2
  have q3 := bx.cell 3
  go_wp2_with fail
  go_ret
  exact ⟨rfl, bel⟩
theorem Kind_any (p : Int) (w : World) : Calls Tryz.prog 76 #[.int .i64 p] w fun e w' => e = .returned (.int .i64 (kindP p)) ∧ w = w' := by
  unfold kindP
  by_cases h1 : p = 1
  · subst h1
    go_enter Tryz.func76, Tryz.ntmps76
    go_wp2
    go_ret
    exact ⟨rfl, rfl⟩
  · by_cases h6 : p = 6
    · subst h6
      go_enter Tryz.func76, Tryz.ntmps76
      go_wp2
      go_ret
      exact ⟨rfl, rfl⟩
    · by_cases h17 : p = 17
      · subst h17
        go_enter Tryz.func76, Tryz.ntmps76
        go_wp2
        go_ret
        exact ⟨rfl, rfl⟩
      · rw [if_neg h1, if_neg h6, if_neg h17]
        have d1 : (p == 1) = false := by simpa using h1
        have d2 : (p == 6) = false := by simpa using h6
        have d3 : (p == 17) = false := by simpa using h17
        clear h1 h6 h17
        go_enter Tryz.func76, Tryz.ntmps76
        go_wp2
        go_ret
        exact ⟨rfl, rfl⟩
theorem kindP_bd (p : Int) : -1 ≤ kindP p ∧ kindP p ≤ 2 := by unfold kindP; split <;> (try split) <;> (try split) <;> omega
set_option maxRecDepth 100000 in
set_option maxHeartbeats 1000000 in
theorem Place_ok (c : Cf) (p port : Int) (w : World) (h : c.ok) : Calls Tryz.prog 48 #[.agg #[.int .i64 c.wk, .int .u32 c.ou, .int .i64 c.lo, .int .i64 c.hi, .int .i64 c.bk, .int .i64 c.rg], .int .i64 p, .int .i64 port] w fun e w' => e = .returned (.int .i64 (placeP c p port)) ∧ Below w.heap.size w w' := by
  have kw := fun W => Ports_ok c W h
  have kk := fun W => Kind_any p W
  obtain ⟨_, _, ⟨a5, a6⟩, ⟨a7, a8⟩, _, _, _⟩ := h
  have hkb := kindP_bd p
  obtain ⟨V, hV⟩ : ∃ V, placeP c p port = V := ⟨_, rfl⟩
  rw [hV]
  unfold placeP at hV
  obtain ⟨wk, ou, lo, hi, bk, rg⟩ := c
  simp only [Cf.n] at *
  generalize kindP p = kp at *
  have hn : 1 ≤ hi - lo + 1 ∧ hi - lo + 1 ≤ 1024 := by omega
  obtain ⟨N, hN⟩ : ∃ N, hi - lo + 1 = N := ⟨_, rfl⟩
  rw [hN] at kw hV hn
  have n0 : (N == 0) = false := by simp; omega
  have b1 := fun W (h : lo ≤ port ∧ port ≤ hi) => between_yes port lo hi W h
  have b2 := fun W (h : port < lo ∨ hi < port) => between_no port lo hi W h
  replace hN := Lib.hid hN
  replace hV := Lib.hid hV
  replace kw := Lib.hid kw
  replace kk := Lib.hid kk
  replace b1 := Lib.hid b1
  replace b2 := Lib.hid b2
  go_enter Tryz.func48, Tryz.ntmps48
  go_upto_region 1 with fail
  have bx := Blk.new w 36 #[.int .i64 wk, .int .u32 ou, .int .i64 lo, .int .i64 hi, .int .i64 bk, .int .i64 rg]
  have bel := bel_alloc w (.cells #[.int .i64 wk, .int .u32 ou, .int .i64 lo, .int .i64 hi, .int .i64 bk, .int .i64 rg] 36)
  generalize w.alloc (.cells #[.int .i64 wk, .int .u32 ou, .int .i64 lo, .int .i64 hi, .int .i64 bk, .int .i64 rg] 36) = W at *
  go_wp2_with (refine wpList_ldRow rfl rfl rfl bx Tryz.underlying36 cf_size ?_)
  refine (kw.out _).mono ?_
  rintro e w2 ⟨rfl, hb⟩
  replace bx := bx.bel hb
  replace bel := bel_after bel hb
  clear hb kw
  go_wp2_with fail
  refine (kk.out _).mono ?_
  rintro e w' ⟨rfl, rfl⟩
  have q2 := bx.cell 2
  have q3 := bx.cell 3
  by_cases hk : kp < 0
  · have d1 : decide (kp < 0) = true := by simpa using hk
    have hVs := hV.out
    rw [if_pos (.inl hk)] at hVs
    subst hVs
    clear hV
    go_wp2_with fail
    go_ret
    exact ⟨rfl, bel⟩
  · have d1 : decide (kp < 0) = false := by simpa using hk
    by_cases hp : port < lo ∨ hi < port
    · have hVs := hV.out
      rw [if_pos (.inr hp)] at hVs
      subst hVs
      clear hV
      go_wp2_with fail
      refine (b2.out _ hp).mono ?_
      rintro e w' ⟨rfl, rfl⟩
      go_wp2_with fail
      go_ret
      exact ⟨rfl, bel⟩
    · have hVs := hV.out
      rw [if_neg (by omega)] at hVs
      subst hVs
      clear hV
      obtain ⟨hm1, hm2⟩ : 0 ≤ kp * N ∧ kp * N ≤ 2048 := by
        have h3 : kp = 0 ∨ kp = 1 ∨ kp = 2 := by omega
        rcases h3 with rfl | rfl | rfl <;> omega
      have hN2 := hN.out
      go_wp2_with fail
      refine (b1.out _ (by omega)).mono ?_
      rintro e w' ⟨rfl, rfl⟩
      have w1 : wrap64 (kp * N) = kp * N := IntWalk.wrap64_in _ ⟨by omega, by omega⟩
      have w2 : wrap64 (kp * N + port) = kp * N + port := IntWalk.wrap64_in _ ⟨by omega, by omega⟩
      have w3 : wrap64 (kp * N + port - lo) = kp * N + port - lo := IntWalk.wrap64_in _ ⟨by omega, by omega⟩
      clear hm1 hm2
      go_wp2_with fail
      go_ret
      refine ⟨?_, bel⟩
      show Ending.returned (.int .i64 (wrap64 (kp * N + port - lo))) = _
      rw [w3]
end Go.Proofs.YtbckoohljkmahaaGreat
namespace Go.Proofs.YtbckoohljkmahaaGreat
set_option linter.unusedVariables false
set_option linter.unusedSimpArgs false
open Go.RowKit
theorem ended_any (st : Int) (out : Bool) (w : World) :
    Calls Tryz.prog 101 #[.int .i64 st, .bool out] w fun e w' => e = .returned (.int .i64 (endd st out)) ∧ w = w' := by
  have hs : st = 0 ∨ st = 1 ∨ st = 2 ∨ st = 3 ∨ ((st == 0) = false ∧ (st == 1) = false ∧ (st == 2) = false ∧ (st == 3) = false) := by simp; omega
  cases out <;> rcases hs with rfl | rfl | rfl | rfl | ⟨h0, h1, h2, h3⟩
  all_goals
    go_enter Tryz.func101, Tryz.ntmps101
    go_wp2
    go_ret
    first
    | exact ⟨rfl, rfl⟩
    | exact ⟨ret_int (by unfold endd; simp at h0 h1 h2 h3; simp [h0, h1, h2, h3]), rfl⟩
set_option maxHeartbeats 4000000 in
theorem Next_in (st : Int) (out : Bool) (fl : Int) (w : World) (h0 : 0 ≤ st ∧ st ≤ 4) :
    Calls Tryz.prog 74 #[.int .i64 6, .int .i64 st, .bool out, .int .i64 fl] w fun e w' => e = .returned (.int .i64 (nxt 6 st out (fb fl 4) (fb fl 1) (fb fl 2) (fb fl 16))) ∧ w = w' := by
  have hf18 := flags18 fl
  have e4 : (bits .and .i64 fl 4 != 0) = fb fl 4 := rfl
  have e1 : (bits .and .i64 fl 1 != 0) = fb fl 1 := rfl
  have e16 : (bits .and .i64 fl 16 != 0) = fb fl 16 := rfl
  generalize fb fl 4 = r at *
  generalize fb fl 1 = f at *
  generalize fb fl 16 = k at *
  generalize fb fl 2 = s at *
  have hs : st = 0 ∨ st = 1 ∨ st = 2 ∨ st = 3 ∨ st = 4 := by omega
  cases r
  · cases f
    · rcases hs with rfl | rfl | rfl | rfl | rfl <;> cases out <;> cases s <;> cases k
      all_goals
        simp only [Bool.not_true, Bool.not_false, Bool.and_true, Bool.and_false] at hf18
        go_enter Tryz.func74, Tryz.ntmps74
        go_wp2
        go_ret
        exact ⟨rfl, rfl⟩
    · go_enter Tryz.func74, Tryz.ntmps74
      go_wp2_with (go_at_call 101; refine (ended_any _ _ _).mono ?_; rintro e w' ⟨rfl, rfl⟩)
      go_ret
      exact ⟨ret_int (by unfold nxt clampS; simp; rw [if_neg (by omega)]), rfl⟩
  · go_enter Tryz.func74, Tryz.ntmps74
    go_wp2
    go_ret
    exact ⟨rfl, rfl⟩
theorem nxt_clamp (st : Int) (out r f s k : Bool) : nxt 6 (clampS st) out r f s k = nxt 6 st out r f s k := by
  have h := clampS_bd st
  have e : clampS (clampS st) = clampS st := by show (if clampS st < 0 ∨ 4 < clampS st then 4 else clampS st) = _; rw [if_neg (by omega)]
  unfold nxt; rw [e]
set_option maxHeartbeats 4000000 in
theorem Next_out (st : Int) (out : Bool) (fl : Int) (w : World) (h0 : st < 0 ∨ 4 < st) :
    Calls Tryz.prog 74 #[.int .i64 6, .int .i64 st, .bool out, .int .i64 fl] w fun e w' => e = .returned (.int .i64 (nxt 6 st out (fb fl 4) (fb fl 1) (fb fl 2) (fb fl 16))) ∧ w = w' := by
  have hcl : clampS st = 4 := by unfold clampS; rw [if_pos h0]
  rw [← nxt_clamp, hcl]
  clear hcl
  have hf18 := flags18 fl
  have e4 : (bits .and .i64 fl 4 != 0) = fb fl 4 := rfl
  have e1 : (bits .and .i64 fl 1 != 0) = fb fl 1 := rfl
  have e16 : (bits .and .i64 fl 16 != 0) = fb fl 16 := rfl
  generalize fb fl 4 = r at *
  generalize fb fl 1 = f at *
  generalize fb fl 16 = k at *
  generalize fb fl 2 = s at *
  have hs : decide (st < 0) = true ∨ (decide (st < 0) = false ∧ decide (4 < st) = true) := by
    rcases Int.lt_or_le st 0 with h | h
    · exact .inl (by simpa using h)
    · exact .inr ⟨by simp; omega, by simp; omega⟩
  clear h0
  rcases hs with hd | ⟨hd, hd2⟩
  all_goals
    cases r
    · cases f
      · cases out <;> cases s <;> cases k
        all_goals
          simp only [Bool.not_true, Bool.not_false, Bool.and_true, Bool.and_false] at hf18
          go_enter Tryz.func74, Tryz.ntmps74
          go_wp2
          go_ret
          exact ⟨rfl, rfl⟩
      · go_enter Tryz.func74, Tryz.ntmps74
        go_wp2_with (go_at_call 101; refine (ended_any _ _ _).mono ?_; rintro e w' ⟨rfl, rfl⟩)
        go_ret
        exact ⟨rfl, rfl⟩
    · go_enter Tryz.func74, Tryz.ntmps74
      go_wp2
      go_ret
      exact ⟨rfl, rfl⟩
theorem Next_any (p st : Int) (out : Bool) (fl : Int) (w : World) :
    Calls Tryz.prog 74 #[.int .i64 p, .int .i64 st, .bool out, .int .i64 fl] w fun e w' => e = .returned (.int .i64 (nxt p st out (fb fl 4) (fb fl 1) (fb fl 2) (fb fl 16))) ∧ w = w' := by
  by_cases hp : p = 6
  · subst hp
    by_cases h : 0 ≤ st ∧ st ≤ 4
    · exact Next_in st out fl w h
    · exact Next_out st out fl w (by omega)
  · have hd : (p != 6) = true := by simpa using hp
    have hn : ∀ b1 b2 b3 b4, nxt p st out b1 b2 b3 b4 = 0 := fun _ _ _ _ => by unfold nxt; rw [if_pos hp]
    rw [hn]
    clear hn
    go_enter Tryz.func74, Tryz.ntmps74
    go_wp2
    go_ret
    exact ⟨rfl, rfl⟩
end Go.Proofs.YtbckoohljkmahaaGreat
namespace Go.Proofs.YtbckoohljkmahaaGreat
set_option linter.unusedVariables false
set_option linter.unusedSimpArgs false
open Go.RowKit
def lifeS (p st : Int) : Int := if p = 17 then 120 else if p = 1 then 60 else if p = 6 then (if st = 1 then 7440 else 240) else 0
def renewsS (p : Int) (out : Bool) : Bool := if p = 6 then true else if p = 17 ∨ p = 1 then out else false
def beginsS (p kind fl : Int) : Bool := if p = 17 then true else if p = 6 then (fb fl 2 && !fb fl 1 && !fb fl 4 && !fb fl 16) else if p = 1 then kind == 8 else false
theorem protos (p : Int) : p = 17 ∨ p = 1 ∨ p = 6 ∨ ((p == 17) = false ∧ (p == 1) = false ∧ (p == 6) = false ∧ p ≠ 17 ∧ p ≠ 1 ∧ p ≠ 6) := by simp; omega
theorem lifeS_none {p st : Int} (h : p ≠ 17 ∧ p ≠ 1 ∧ p ≠ 6) : lifeS p st = 0 := by unfold lifeS; simp [h.1, h.2.1, h.2.2]
theorem renewsS_none {p : Int} {out : Bool} (h : p ≠ 17 ∧ p ≠ 1 ∧ p ≠ 6) : renewsS p out = false := by unfold renewsS; simp [h.1, h.2.1, h.2.2]
theorem beginsS_none {p k f : Int} (h : p ≠ 17 ∧ p ≠ 1 ∧ p ≠ 6) : beginsS p k f = false := by unfold beginsS; simp [h.1, h.2.1, h.2.2]
theorem Life_any (p st : Int) (w : World) :
    Calls Tryz.prog 57 #[.int .i64 p, .int .i64 st] w fun e w' => e = .returned (.int .i64 (lifeS p st)) ∧ w = w' := by
  rcases protos p with rfl | rfl | rfl | ⟨h1, h2, h3, h⟩
  · go_enter Tryz.func57, Tryz.ntmps57
    go_wp2
    go_ret
    exact ⟨rfl, rfl⟩
  · go_enter Tryz.func57, Tryz.ntmps57
    go_wp2
    go_ret
    exact ⟨rfl, rfl⟩
  · by_cases hs : st = 1
    · subst hs
      go_enter Tryz.func57, Tryz.ntmps57
      go_wp2
      go_ret
      exact ⟨rfl, rfl⟩
    · have hb : (st == 1) = false := by simpa using hs
      have e : lifeS 6 st = 240 := by unfold lifeS; simp [hs]
      rw [e]
      clear e
      go_enter Tryz.func57, Tryz.ntmps57
      go_wp2
      go_ret
      exact ⟨rfl, rfl⟩
  · rw [lifeS_none h]
    clear h
    go_enter Tryz.func57, Tryz.ntmps57
    go_wp2
    go_ret
    exact ⟨rfl, rfl⟩
theorem Renews_any (p : Int) (out : Bool) (w : World) :
    Calls Tryz.prog 77 #[.int .i64 p, .bool out] w fun e w' => e = .returned (.bool (renewsS p out)) ∧ w = w' := by
  rcases protos p with rfl | rfl | rfl | ⟨h1, h2, h3, h⟩
  case inr.inr.inr => rw [renewsS_none h]; clear h; go_enter Tryz.func77, Tryz.ntmps77; go_wp2; go_ret; exact ⟨rfl, rfl⟩
  all_goals
    go_enter Tryz.func77, Tryz.ntmps77
    go_wp2
    go_ret
    exact ⟨rfl, rfl⟩
theorem Begins_any (p k fl : Int) (w : World) :
    Calls Tryz.prog 44 #[.int .i64 p, .int .i64 k, .int .i64 fl] w fun e w' => e = .returned (.bool (beginsS p k fl)) ∧ w = w' := by
  have h23 := flags23 fl
  rcases protos p with rfl | rfl | rfl | ⟨h1, h2, h3, h⟩
  case inr.inr.inr => rw [beginsS_none h]; clear h; go_enter Tryz.func44, Tryz.ntmps44; go_wp2; go_ret; exact ⟨rfl, rfl⟩
  case inr.inr.inl =>
    have e : beginsS 6 k fl = (fb fl 2 && !fb fl 1 && !fb fl 4 && !fb fl 16) := rfl
    rw [e, ← h23]
    clear e h23
    go_enter Tryz.func44, Tryz.ntmps44
    go_wp2
    go_ret
    exact ⟨rfl, rfl⟩
  all_goals
    go_enter Tryz.func44, Tryz.ntmps44
    go_wp2
    go_ret
    exact ⟨rfl, rfl⟩
end Go.Proofs.YtbckoohljkmahaaGreat
namespace Go.Proofs.YtbckoohljkmahaaGreat
set_option linter.unusedVariables false
set_option linter.unusedSimpArgs false
/-- the sum of 16-bit words; the flag says whether the next byte is a high one -/
def sb : Bool → List Int → Int
  | _, [] => 0
  | true, x :: l => x * 256 + sb false l
  | false, x :: l => x + sb true l
theorem sb_snoc (l : List Int) (x : Int) : ∀ h, sb h (l ++ [x]) = sb h l + (if (l.length % 2 = 0) = (h = true) then x * 256 else x) := by
  induction l with
  | nil => intro h; cases h <;> simp [sb]
  | cons y l ih =>
    intro h
    cases h
    · simp only [List.cons_append, sb, ih, List.length_cons]; rcases Nat.mod_two_eq_zero_or_one l.length with e | e <;> simp [Nat.add_mod, e] <;> omega
    · simp only [List.cons_append, sb, ih, List.length_cons]; rcases Nat.mod_two_eq_zero_or_one l.length with e | e <;> simp [Nat.add_mod, e] <;> omega
theorem sb_bd (l : List Int) (hl : ∀ x, x ∈ l → 0 ≤ x ∧ x ≤ 255) : ∀ h, 0 ≤ sb h l ∧ sb h l ≤ l.length * 65280 := by
  induction l with
  | nil => intro h; simp [sb]
  | cons y l ih =>
    intro h
    have hy := hl y (by simp)
    have i1 := ih (fun x hx => hl x (by simp [hx]))
    have i2 := i1 true
    have i3 := i1 false
    cases h <;> simp only [sb, List.length_cons] <;> omega
theorem sb_take (l : List Int) (i : Nat) (hi : i < l.length) : sb true (l.take (i + 1)) = sb true (l.take i) + l.getD i 0 * (if i % 2 = 0 then 256 else 1) := by
  rw [List.take_succ_eq_append_getElem hi, sb_snoc, List.length_take_of_le (by omega), List.getD_eq_getElem?_getD, List.getElem?_eq_getElem hi]
  rcases Nat.mod_two_eq_zero_or_one i with e | e <;> simp [e]
theorem sb_take2 (l : List Int) (i : Nat) (hi : i + 1 < l.length) (he : i % 2 = 0) : sb true (l.take (i + 2)) = sb true (l.take i) + (l.getD i 0 * 256 + l.getD (i + 1) 0) := by
  rw [sb_take l (i + 1) hi, sb_take l i (by omega), if_pos he, if_neg (by omega)]; omega
theorem sb_app (a b : List Int) (h : a.length % 2 = 0) : sb true (a ++ b) = sb true a + sb true b := by
  suffices ∀ n (a : List Int), a.length = 2 * n → sb true (a ++ b) = sb true a + sb true b from this (a.length / 2) a (by omega)
  intro n
  induction n with
  | zero => intro a ha; have : a = [] := List.length_eq_zero_iff.mp (by omega); subst this; simp [sb]
  | succ n ih =>
    intro a ha
    match a, ha with
    | x :: y :: r, ha => simp only [List.cons_append, sb]; rw [ih r (by simp at ha; omega)]; omega
/-- the checksum of bytes -/
def sumOf (l : List Int) : Int := 65535 - fo (sb true l)
def fixOf (s o n : Int) : Int := 65535 - fo (65535 - s + (65535 - o) + n)
theorem fixOf_bd {s o n : Int} (hs : 0 ≤ s ∧ s ≤ 65535) (ho : 0 ≤ o ∧ o ≤ 65535) (hn : 0 ≤ n ∧ n ≤ 65535) : 0 ≤ fixOf s o n ∧ fixOf s o n ≤ 65535 := by
  have := fo_bd (n := 65535 - s + (65535 - o) + n) (by omega); unfold fixOf; omega
end Go.Proofs.YtbckoohljkmahaaGreat
namespace Go.Proofs.YtbckoohljkmahaaGreat
set_option linter.unusedVariables false
set_option linter.unusedSimpArgs false
open Go.RowKit
set_option maxHeartbeats 400000 in
theorem fold_any (n : Int) (w : World) (h0 : 0 ≤ n) (h1 : n ≤ 4611686018427387904) :
    Calls Tryz.prog 139 #[.int .u64 n] w fun e w' => e = .returned (.int .u32 (fo n)) ∧ w = w' := by
  go_enter Tryz.func139, Tryz.ntmps139
  go_wp2
  go_loop [0] (fun i => ∃ k : Int, 0 ≤ k ∧ k ≤ 4611686018427387904 ∧ fo k = fo n ∧ i = .int .u64 k) (fun i => (intOf i).toNat)
  case atStart => exact ⟨n, h0, h1, rfl, rfl⟩
  case round =>
    obtain ⟨k, hk0, hk1, hk2, rfl⟩ := hrel
    have H := Lib.hid hk2; clear hk2
    go_wp2
    · have hk : 65535 < k := by assumption
      exact ⟨⟨_, by omega, by omega, by rw [fo_step hk]; exact H.out, rfl⟩, by simp [intOf]; omega⟩
    · have hk : k ≤ 65535 := by assumption
      go_ret
      exact ⟨by rw [← H.out, fo_small hk0 hk]; rfl, rfl⟩
set_option maxHeartbeats 400000 in
theorem More_any (n : Int) (l : List Int) (A : Option Addr) (len c B : Nat) (w : World) (h0 : 0 ≤ n) (h1 : n ≤ 4294967295) (hl : len ≤ 100000) (hr : Rd .u8 w B A len l) :
    Calls Tryz.prog 116 #[.int .u32 n, .slice A len c] w fun e w' => e = .returned (.int .u32 (fo (n + sb true l))) ∧ w = w' := by
  have hb := sb_bd l (fun x hx => inr_u8 (hr.rng x hx)) true
  have hlen := Lib.hid hr.len
  rw [hr.len] at hb
  go_enter Tryz.func116, Tryz.ntmps116
  go_wp2
  go_loop [5, 6, 7, 8, 13] (fun s i c' sh ix => ∃ k : Nat, k ≤ len ∧ ix = .int .i64 k ∧ s = .int .u64 (n + sb true (l.take k))) (fun _ _ _ _ ix => len - (intOf ix).toNat)
  case atStart => exact ⟨0, by omega, rfl, by simp [sb]⟩
  case round =>
    obtain ⟨k, hk, rfl, rfl⟩ := hrel
    by_cases hlt : k < len
    · obtain ⟨b, o, rfl, hbl, hc, hx⟩ := hr.at_ hlt
      have hx := inr_u8 hx
      have HS := Lib.hid (sb_take l k (by rw [hlen.out]; exact hlt))
      have hb1 := (sb_bd (l.take k) (fun x hx => inr_u8 (hr.rng x (List.mem_of_mem_take hx))) true)
      rw [List.length_take_of_le (by rw [hlen.out]; omega)] at hb1
      rw [List.getD_eq_getElem?_getD] at hx
      clear hlen
      rcases Nat.mod_two_eq_zero_or_one k with e | e
      all_goals
        have e' : (k : Int) % 2 = (k % 2 : Nat) := by omega
        rw [e] at e'
        go_wp2
        exact ⟨⟨k + 1, by omega, by go_num, by rw [HS.out, e, List.getD_eq_getElem?_getD]; go_num⟩, by simp [intOf]; omega⟩
    · have hke : Hid (k = len) := Nat.le_antisymm hk (by omega)
      have hk2 : 0 ≤ sb true (l.take k) ∧ sb true (l.take k) ≤ len * 65280 := by rw [List.take_of_length_le (by rw [hlen.out, hke.out]; omega)]; exact hb
      go_wp2_with (go_at_call 139; refine (fold_any _ _ (by omega) (by omega)).mono ?_; rintro e w' ⟨rfl, rfl⟩)
      go_ret
      exact ⟨by rw [List.take_of_length_le (by rw [hlen.out, hke.out]; omega)]; rfl, rfl⟩
theorem Done_any (n : Int) (w : World) (h0 : 0 ≤ n) (h1 : n ≤ 4294967295) :
    Calls Tryz.prog 115 #[.int .u32 n] w fun e w' => e = .returned (.int .u16 (65535 - fo n)) ∧ w = w' := by
  have hb := fo_bd h0
  have hx := cpl_u16 (fo n) hb
  go_enter Tryz.func115, Tryz.ntmps115
  go_wp2_with (go_at_call 139; refine (fold_any _ _ (by omega) (by omega)).mono ?_; rintro e w' ⟨rfl, rfl⟩)
  go_ret
  exact ⟨rfl, rfl⟩
theorem Of_any (l : List Int) (A : Option Addr) (len c B : Nat) (w : World) (hl : len ≤ 100000) (hr : Rd .u8 w B A len l) :
    Calls Tryz.prog 96 #[.slice A len c] w fun e w' => e = .returned (.int .u16 (sumOf l)) ∧ w = w' := by
  have hs := (sb_bd l (fun x hx => inr_u8 (hr.rng x hx)) true).1
  have hb := fo_bd hs
  have H := Lib.hid (show fo (0 + sb true l) = fo (sb true l) by rw [Int.zero_add])
  have H2 := fo_fo _ hs
  go_enter Tryz.func96, Tryz.ntmps96
  go_wp2_with (first | (go_at_call 116; refine (More_any 0 l A len c B _ (by omega) (by omega) hl hr).mono ?_; rw [H.out]; rintro e w' ⟨rfl, rfl⟩) | (go_at_call 115; refine (Done_any _ _ (by omega) (by omega)).mono ?_; rintro e w' ⟨rfl, rfl⟩))
  go_ret
  exact ⟨rfl, rfl⟩
theorem Fix_any (s o n : Int) (w : World) (hs : 0 ≤ s ∧ s ≤ 65535) (ho : 0 ≤ o ∧ o ≤ 65535) (hn : 0 ≤ n ∧ n ≤ 65535) :
    Calls Tryz.prog 126 #[.int .u16 s, .int .u16 o, .int .u16 n] w fun e w' => e = .returned (.int .u16 (fixOf s o n)) ∧ w = w' := by
  have hx := cpl_u16 s hs
  have hy := cpl_u16 o ho
  go_enter Tryz.func126, Tryz.ntmps126
  go_wp2_with (go_at_call 115; refine (Done_any _ _ (by omega) (by omega)).mono ?_; rintro e w' ⟨rfl, rfl⟩)
  go_ret
  exact ⟨rfl, rfl⟩
theorem FixWide_any (s o n : Int) (w : World) (hs : 0 ≤ s ∧ s ≤ 65535) (ho : 0 ≤ o ∧ o ≤ 4294967295) (hn : 0 ≤ n ∧ n ≤ 4294967295) :
    Calls Tryz.prog 142 #[.int .u16 s, .int .u32 o, .int .u32 n] w fun e w' => e = .returned (.int .u16 (fixOf (fixOf s (o / 65536) (n / 65536)) (o % 65536) (n % 65536))) ∧ w = w' := by
  have hb := fixOf_bd hs (o := o / 65536) (n := n / 65536) (by omega) (by omega)
  have hw1 := IntKind.wrap_u16 o
  have hw2 := IntKind.wrap_u16 n
  go_enter Tryz.func142, Tryz.ntmps142
  go_wp2_with (go_at_call 126; refine (Fix_any _ _ _ _ (by omega) (by omega) (by omega)).mono ?_; rintro e w' ⟨rfl, rfl⟩)
  go_ret
  exact ⟨rfl, rfl⟩
theorem rFold_any (n : Int) (w : World) (h0 : 0 ≤ n) (h1 : n ≤ 4611686018427387904) :
    Calls Tryz.prog 110 #[.int .i64 n] w fun e w' => e = .returned (.int .i64 (fo n)) ∧ w = w' := by
  go_enter Tryz.func110, Tryz.ntmps110
  go_wp2
  go_loop [0] (fun i => ∃ k : Int, 0 ≤ k ∧ k ≤ 4611686018427387904 ∧ fo k = fo n ∧ i = .int .i64 k) (fun i => (intOf i).toNat)
  case atStart => exact ⟨n, h0, h1, rfl, rfl⟩
  case round =>
    obtain ⟨k, hk0, hk1, hk2, rfl⟩ := hrel
    have H := Lib.hid hk2; clear hk2
    go_wp2
    · have hk : 65535 < k := by assumption
      exact ⟨⟨_, by omega, by omega, by rw [fo_step hk]; exact H.out, rfl⟩, by simp [intOf]; omega⟩
    · have hk : k ≤ 65535 := by assumption
      go_ret
      exact ⟨by rw [← H.out, fo_small hk0 hk]; rfl, rfl⟩
theorem rSum_any (n : Int) (l : List Int) (A : Option Addr) (len c B : Nat) (w : World) (h0 : 0 ≤ n) (h1 : n ≤ 4294967295) (hl : len ≤ 100000) (hr : Rd .u8 w B A len l) :
    Calls Tryz.prog 85 #[.int .i64 n, .slice A len c] w fun e w' => e = .returned (.int .i64 (fo (n + sb true l))) ∧ w = w' := by
  have hlen := Lib.hid hr.len
  have hf := fo_bd h0
  have hff := Lib.hid (fo_fo n h0)
  go_enter Tryz.func85, Tryz.ntmps85
  go_wp2_with (go_at_call 110; refine (rFold_any _ _ (by omega) (by omega)).mono ?_; rintro e w' ⟨rfl, rfl⟩)
  go_loop [0, 5, 6] (fun s i x => ∃ k : Nat, k ≤ len + 1 ∧ k % 2 = 0 ∧ i = .int .i64 k ∧ s = .int .i64 (fo (n + sb true (l.take k)))) (fun _ i _ => len + 1 - (intOf i).toNat)
  case atStart => exact ⟨0, by omega, rfl, rfl, by simp [sb]⟩
  case round =>
    obtain ⟨k, hk, he, rfl, rfl⟩ := hrel
    have hb0 := sb_bd (l.take k) (fun x hx => inr_u8 (hr.rng x (List.mem_of_mem_take hx))) true
    have hfb := fo_bd (n := n + sb true (l.take k)) (by omega)
    by_cases hlt : k < len
    · obtain ⟨b, o, rfl, hbl, hc, hx⟩ := hr.at_ hlt
      have hx := inr_u8 hx
      rw [List.getD_eq_getElem?_getD] at hx
      by_cases hlt2 : k + 1 < len
      · obtain ⟨b', o', ea, hbl', hc', hx'⟩ := hr.at_ hlt2
        simp only [Option.some.injEq, Addr.mk.injEq, and_true] at ea
        obtain ⟨rfl, rfl⟩ := ea
        have hx' := inr_u8 hx'
        rw [List.getD_eq_getElem?_getD] at hx'
        have HS := Lib.hid (sb_take2 l k (by rw [hlen.out]; exact hlt2) he)
        have HA := Lib.hid (fo_add (n + sb true (l.take k)) (l[k]?.getD 0 * 256 + l[k+1]?.getD 0) (by omega) (by omega))
        clear hlen hff
        have he' := Lib.hid he; clear he
        go_wp2_with (go_at_call 110; refine (rFold_any _ _ (by omega) (by omega)).mono ?_; rintro e w' ⟨rfl, rfl⟩)
        exact ⟨⟨k + 2, by omega, by have := he'.out; omega, by go_num, by rw [HA.out, HS.out, List.getD_eq_getElem?_getD, List.getD_eq_getElem?_getD, Int.add_assoc]⟩, by simp [intOf]; omega⟩
      · have HS := Lib.hid (sb_take l k (by rw [hlen.out]; exact hlt))
        have HT : Hid (l.take (k + 2) = l.take (k + 1)) := by
          have := hlen.out
          show l.take (k + 2) = l.take (k + 1)
          rw [List.take_of_length_le (by omega), List.take_of_length_le (by omega)]
        have HA := Lib.hid (fo_add (n + sb true (l.take k)) (l[k]?.getD 0 * 256) (by omega) (by omega))
        clear hlen hff
        have he' := Lib.hid he; clear he
        go_wp2_with (go_at_call 110; refine (rFold_any _ _ (by omega) (by omega)).mono ?_; rintro e w' ⟨rfl, rfl⟩)
        exact ⟨⟨k + 2, by omega, by have := he'.out; omega, by go_num, by rw [HA.out, HT.out, HS.out, List.getD_eq_getElem?_getD, if_pos he'.out, Int.add_assoc]⟩, by simp [intOf]; omega⟩
    · have HT : Hid (l.take k = l) := by
        have := hlen.out
        show l.take k = l
        rw [List.take_of_length_le (by omega)]
      have he' := Lib.hid he; clear he
      go_wp2
      go_ret
      exact ⟨ret_int (by rw [HT.out]), rfl⟩
theorem rOf_any (l : List Int) (A : Option Addr) (len c B : Nat) (w : World) (hl : len ≤ 100000) (hr : Rd .u8 w B A len l) :
    Calls Tryz.prog 56 #[.slice A len c] w fun e w' => e = .returned (.int .u16 (sumOf l)) ∧ w = w' := by
  have hs := (sb_bd l (fun x hx => inr_u8 (hr.rng x hx)) true).1
  have hb := fo_bd hs
  have H := Lib.hid (show fo (0 + sb true l) = fo (sb true l) by rw [Int.zero_add])
  go_enter Tryz.func56, Tryz.ntmps56
  go_wp2_with (go_at_call 85; refine (rSum_any 0 l A len c B _ (by omega) (by omega) hl hr).mono ?_; rw [H.out]; rintro e w' ⟨rfl, rfl⟩)
  go_ret
  exact ⟨rfl, rfl⟩
end Go.Proofs.YtbckoohljkmahaaGreat
namespace Go.Proofs.YtbckoohljkmahaaGreat
set_option linter.unusedVariables false
set_option linter.unusedSimpArgs false
open Go.RowKit
/-- the number of bytes -/
def numOf (l : List Int) : Int := l.foldl (fun n x => n * 256 + x) 0
theorem numOf_snoc (l : List Int) (x : Int) : numOf (l ++ [x]) = numOf l * 256 + x := by simp [numOf]
theorem numOf_bd (l : List Int) (h : ∀ x, x ∈ l → 0 ≤ x ∧ x ≤ 255) : ∀ n, n ≤ l.length → 0 ≤ numOf (l.take n) ∧ numOf (l.take n) < 256 ^ n := by
  intro n
  induction n with
  | zero => intro _; simp [numOf]
  | succ n ih =>
    intro hn
    have i := ih (by omega)
    have hx := h l[n] (List.getElem_mem (by omega))
    rw [List.take_succ_eq_append_getElem (by omega), numOf_snoc, Int.pow_succ]
    omega
/-- n from i on -/
def seg (l : List Int) (i n : Nat) : List Int := (l.drop i).take n
theorem seg_length (l : List Int) (i n : Nat) (h : i + n ≤ l.length) : (seg l i n).length = n := by simp [seg]; omega
theorem seg_mem {l : List Int} {i n : Nat} {x : Int} (h : x ∈ seg l i n) : x ∈ l := List.mem_of_mem_drop (List.mem_of_mem_take h)
def n2 (l : List Int) (i : Nat) : Int := numOf (seg l i 2)
def n4 (l : List Int) (i : Nat) : Int := numOf (seg l i 4)
section
variable {l : List Int} {i : Nat}
theorem n2_bd (hl : ∀ x, x ∈ l → 0 ≤ x ∧ x ≤ 255) (h : i + 2 ≤ l.length) : 0 ≤ n2 l i ∧ n2 l i ≤ 65535 := by
  have := numOf_bd (seg l i 2) (fun x hx => hl x (seg_mem hx)) 2 (by rw [seg_length l i 2 h]; omega)
  rw [List.take_of_length_le (by rw [seg_length l i 2 h]; omega)] at this
  unfold n2; omega
theorem n4_bd (hl : ∀ x, x ∈ l → 0 ≤ x ∧ x ≤ 255) (h : i + 4 ≤ l.length) : 0 ≤ n4 l i ∧ n4 l i ≤ 4294967295 := by
  have := numOf_bd (seg l i 4) (fun x hx => hl x (seg_mem hx)) 4 (by rw [seg_length l i 4 h]; omega)
  rw [List.take_of_length_le (by rw [seg_length l i 4 h]; omega)] at this
  unfold n4; omega
end
theorem drop_two (l : List Int) (i : Nat) (h : i + 2 ≤ l.length) : l.drop i = l.getD i 0 :: l.getD (i + 1) 0 :: l.drop (i + 2) := by
  rw [List.drop_eq_getElem_cons (by omega), List.drop_eq_getElem_cons (by omega)]
  simp [List.getD_eq_getElem?_getD, List.getElem?_eq_getElem (show i < l.length by omega), List.getElem?_eq_getElem (show i + 1 < l.length by omega)]
theorem n2_eq (l : List Int) (i : Nat) (h : i + 2 ≤ l.length) : n2 l i = l.getD i 0 * 256 + l.getD (i + 1) 0 := by
  unfold n2 seg; rw [drop_two l i h]; simp [numOf]
theorem n4_eq (l : List Int) (i : Nat) (h : i + 4 ≤ l.length) : n4 l i = ((l.getD i 0 * 256 + l.getD (i + 1) 0) * 256 + l.getD (i + 2) 0) * 256 + l.getD (i + 3) 0 := by
  unfold n4 seg; rw [drop_two l i (by omega), drop_two l (i + 2) (by omega)]; simp [numOf]
/-- one head -/
structure Hd where
  size : Int
  len : Int
  ttl : Int
  proto : Int
  src : Int
  dst : Int
deriving instance DecidableEq for Hd
def Hd.z : Hd := ⟨0, 0, 0, 0, 0, 0⟩
def hdOf (l : List Int) : Hd := ⟨l.getD 0 0 % 16 * 4, n2 l 2, l.getD 8 0, l.getD 9 0, n4 l 12, n4 l 16⟩
/-- what stands in the head's first byte, and the lengths -/
def shapeE (l : List Int) (most : Int) : Int :=
  if l.length < 20 then 2 else if l.getD 0 0 / 16 ≠ 4 ∨ l.getD 0 0 % 16 * 4 < 20 then 3 else if (l.length : Int) < l.getD 0 0 % 16 * 4 then 2
  else if n2 l 2 < l.getD 0 0 % 16 * 4 ∨ most < n2 l 2 then 3 else 0
def wholeE (l : List Int) : Int := if n2 l 6 % 16384 ≠ 0 then 5 else 0
def getE (l : List Int) : Int :=
  if shapeE l 1500 ≠ 0 then shapeE l 1500 else if (l.length : Int) < n2 l 2 then 2 else if sumOf (l.take (l.getD 0 0 % 16 * 4).toNat) ≠ 0 then 4 else wholeE l
def partE (l : List Int) : Int := if shapeE l 65535 ≠ 0 then shapeE l 65535 else wholeE l
/-- the head, where there is no error -/
def hdIf (l : List Int) (e : Int) : Hd := if e = 0 then hdOf l else Hd.z
theorem shape_cases (l : List Int) (most : Int) :
    (shapeE l most = 2 ∧ l.length < 20) ∨
    (shapeE l most = 3 ∧ 20 ≤ l.length ∧ (l.getD 0 0 / 16 == 4) = false ∧ (l.getD 0 0 / 16 != 4) = true) ∨
    (shapeE l most = 3 ∧ 20 ≤ l.length ∧ l.getD 0 0 / 16 = 4 ∧ l.getD 0 0 % 16 * 4 < 20) ∨
    (shapeE l most = 2 ∧ 20 ≤ l.length ∧ l.getD 0 0 / 16 = 4 ∧ 20 ≤ l.getD 0 0 % 16 * 4 ∧ (l.length : Int) < l.getD 0 0 % 16 * 4) ∨
    (shapeE l most = 3 ∧ 20 ≤ l.length ∧ l.getD 0 0 / 16 = 4 ∧ 20 ≤ l.getD 0 0 % 16 * 4 ∧ l.getD 0 0 % 16 * 4 ≤ l.length ∧ n2 l 2 < l.getD 0 0 % 16 * 4) ∨
    (shapeE l most = 3 ∧ 20 ≤ l.length ∧ l.getD 0 0 / 16 = 4 ∧ 20 ≤ l.getD 0 0 % 16 * 4 ∧ l.getD 0 0 % 16 * 4 ≤ l.length ∧ l.getD 0 0 % 16 * 4 ≤ n2 l 2 ∧ most < n2 l 2) ∨
    (shapeE l most = 0 ∧ 20 ≤ l.length ∧ l.getD 0 0 / 16 = 4 ∧ 20 ≤ l.getD 0 0 % 16 * 4 ∧ l.getD 0 0 % 16 * 4 ≤ l.length ∧ l.getD 0 0 % 16 * 4 ≤ n2 l 2 ∧ n2 l 2 ≤ most) := by
  unfold shapeE
  by_cases h1 : l.length < 20
  · left; rw [if_pos h1]; exact ⟨rfl, h1⟩
  rw [if_neg h1]
  by_cases h2 : l.getD 0 0 / 16 = 4
  · by_cases h3 : l.getD 0 0 % 16 * 4 < 20
    · rw [if_pos (.inr h3)]; exact .inr (.inr (.inl ⟨rfl, by omega, h2, h3⟩))
    rw [if_neg (by rintro (h | h); exact h h2; exact h3 h)]
    by_cases h4 : (l.length : Int) < l.getD 0 0 % 16 * 4
    · rw [if_pos h4]; exact .inr (.inr (.inr (.inl ⟨rfl, by omega, h2, by omega, h4⟩)))
    rw [if_neg h4]
    by_cases h5 : n2 l 2 < l.getD 0 0 % 16 * 4
    · rw [if_pos (.inl h5)]; exact .inr (.inr (.inr (.inr (.inl ⟨rfl, by omega, h2, by omega, by omega, h5⟩))))
    by_cases h6 : most < n2 l 2
    · rw [if_pos (.inr h6)]; exact .inr (.inr (.inr (.inr (.inr (.inl ⟨rfl, by omega, h2, by omega, by omega, by omega, h6⟩)))))
    · rw [if_neg (by omega)]; exact .inr (.inr (.inr (.inr (.inr (.inr ⟨rfl, by omega, h2, by omega, by omega, by omega, by omega⟩)))))
  · rw [if_pos (.inl h2)]; exact .inr (.inl ⟨rfl, by omega, by simpa using h2, by simpa using h2⟩)
/-- a head of twenty bytes, its sum s -/
def hd20 (ttl proto src dst n s : Int) : List Int :=
  [69, 0, n / 256, n % 256, 0, 0, 64, 0, ttl, proto, s / 256, s % 256, src / 16777216, src / 65536 % 256, src / 256 % 256, src % 256, dst / 16777216, dst / 65536 % 256, dst / 256 % 256, dst % 256]
def putL (ttl proto src dst : Int) (l : List Int) : List Int :=
  hd20 ttl proto src dst (20 + l.length) (sumOf (hd20 ttl proto src dst (20 + l.length) 0)) ++ l
end Go.Proofs.YtbckoohljkmahaaGreat
