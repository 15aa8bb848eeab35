/- What the laws' proofs lean on: plain facts and contracts of the program's functions, laid together (1). -/
import Derived.WalkKit
import Derived.Lib.Hide
import Derived.Test.YtbckoohljkmahaaGreatPa01
import Derived.Laws.OwnMore
import Derived.Deep.AppendLies
import Derived.Deep.Draws
import Derived.Maps.AppendAt
import Derived.Laws.MakeOwn
import Derived.Laws.Rows
import Derived.Deep.QuietTactic
import Derived.BigQuiet
import Derived.Deep.RegionWith
import Derived.Deep.DeepMust
import Derived.Deep.WholeRow
import Derived.Test.YtbckoohljkmahaaGreatProg
import Derived.RegionTactic
import Derived.Deep.DeepCutAuto
import Derived.Deep.CutBlock
import Derived.Test.YtbckoohljkmahaaGreatRows
import Derived.StillTailTactics
import Derived.Test.YtbckoohljkmahaaGreatPa02
import Derived.Deep.RegionHeld3
import Derived.Test.YtbckoohljkmahaaGreatPa03
import Derived.Test.YtbckoohljkmahaaGreatPa04
import Derived.Test.YtbckoohljkmahaaGreatPa05
import Derived.Test.YtbckoohljkmahaaGreatPa06
import Derived.ProofKit
import Derived.OpenShut
import Derived.ShutString
import Derived.ChangeOld
import Derived.Deep.Slices
import Derived.Test.YtbckoohljkmahaaGreatPa07
import Derived.Maps.OwnOps
import Derived.Maps.OwnSet
import Derived.Maps.Views
import Derived.DeepKeys5
import Derived.Test.YtbckoohljkmahaaGreatPa08
import Derived.Test.YtbckoohljkmahaaGreatPa09
import Derived.Test.YtbckoohljkmahaaGreatPa10
import Derived.Test.YtbckoohljkmahaaGreatPa11
import Derived.Test.YtbckoohljkmahaaGreatPa12
import Derived.Test.YtbckoohljkmahaaGreatPa13
import Derived.Test.YtbckoohljkmahaaGreatPa14
import Derived.Lib.LazyBuf
import Derived.Test.YtbckoohljkmahaaGreatPa15
import Derived.Test.YtbckoohljkmahaaGreatPa16
import Derived.Test.YtbckoohljkmahaaGreatPB01
import Derived.Shelf.SlMaps.Clone
namespace Go.Proofs.YtbckoohljkmahaaGreat
set_option linter.unusedVariables false
set_option linter.unusedSimpArgs false
open Go.ChangeShapes Go.WideShapes Go.ChangeAt Go.RowKit Go.Deep

section
variable {H : Type} {enc : TypeId × Value → H} {P : Program} {w : World}
end

section
variable {P : Program} {W : World} {t e : TypeId} {v : Value}
theorem rdg_array {n : Nat} {fuel : Nat} {cs : List Value} (ht : P.underlying t = some (.array n e)) (h : Rdg P W fuel t cs) :
    ∃ m, cs.length = P.cellsOf t ∧ ∀ i, i < n → Rdg P W m e ((cs.drop (i * P.cellsOf e)).take (P.cellsOf e)) := by
  cases fuel with
  | zero => exact h.elim
  | succ m => unfold Rdg at h; rw [ht] at h; exact ⟨m, h⟩
theorem arg_array {n : Nat} (ht : P.underlying t = some (.array n e)) (h : Arg P W t v) :
    ∃ cs m, v = .agg cs ∧ cs.size = P.cellsOf t ∧ ∀ i, i < n → Rdg P W m e ((cs.toList.drop (i * P.cellsOf e)).take (P.cellsOf e)) := by
  obtain ⟨⟨base, h1⟩, fuel, h2⟩ := h
  have h1' : ∃ cs, v = .agg cs ∧ cs.size = P.cellsOf t := by
    simp only [Value.okWide, ht] at h1
    obtain ⟨cs, h1, h2, _⟩ := h1
    exact ⟨cs, h1, h2⟩
  obtain ⟨cs, rfl, hs⟩ := h1'
  obtain ⟨m, _, h3⟩ := rdg_array ht h2
  exact ⟨cs, m, rfl, hs, h3⟩
end

end Go.Proofs.YtbckoohljkmahaaGreat
namespace Go.Proofs.YtbckoohljkmahaaGreat
set_option linter.unusedVariables false
set_option linter.unusedSimpArgs false
open Go.RowKit
/-! ### as the walk tells it -/
end Go.Proofs.YtbckoohljkmahaaGreat
namespace Go.Proofs.YtbckoohljkmahaaGreat
set_option linter.unusedVariables false
set_option linter.unusedSimpArgs false
open Go.RowKit
section
variable {s d a b : Int} {l : List Int} (hs : 0 ≤ s ∧ s ≤ 4294967295) (hd : 0 ≤ d ∧ d ≤ 4294967295) (ha : 0 ≤ a ∧ a ≤ 65535) (hb : 0 ≤ b ∧ b ≤ 65535) (hl : Bytes8 l)
include hs hd ha hb hl
end
section
variable {k a c : Int} {l : List Int} (hl : Bytes8 l)
include hl
end
end Go.Proofs.YtbckoohljkmahaaGreat
namespace Go.Proofs.YtbckoohljkmahaaGreat
set_option linter.unusedVariables false
set_option linter.unusedSimpArgs false
open Go.RowKit
/-! ### heads -/
end Go.Proofs.YtbckoohljkmahaaGreat
namespace Go.Proofs.YtbckoohljkmahaaGreat
set_option linter.unusedVariables false
set_option linter.unusedSimpArgs false
open Go.RowKit
section
variable (out : Bool) (l : List Int) (A : Option Addr) (len c B : Nat) (addr port : Int) (w : World) (hr : Rd .u8 w B A len l) (hB : B ≤ w.heap.size) (hlc : len ≤ c) (hcm : c ≤ 9223372036854775807) (hl : len ≤ 60000)
include hr hB hlc hcm hl
end
section
variable (out : Bool) (l : List Int) (A : Option Addr) (len c B : Nat) (addr port : Int) (w : World) (hr : Rd .u8 w B A len l) (hB : B ≤ w.heap.size) (hlc : len ≤ c) (hcm : c ≤ 9223372036854775807) (hl : len ≤ 60000)
  (sz m : Nat) (h2 h3 h4 h5 : Int) (ha : 0 ≤ addr ∧ addr ≤ 4294967295) (hport : 0 ≤ port ∧ port ≤ 65535) (Y : List Int)
include hr hB hlc hcm hl
end
end Go.Proofs.YtbckoohljkmahaaGreat
namespace Go.Proofs.YtbckoohljkmahaaGreat
set_option linter.unusedVariables false
set_option linter.unusedSimpArgs false
open Go.RowKit
section
variable (out : Bool) (l : List Int) (A : Option Addr) (len c B : Nat) (addr port : Int) (w : World) (hr : Rd .u8 w B A len l) (hB : B ≤ w.heap.size) (hlc : len ≤ c) (hcm : c ≤ 9223372036854775807) (hl : len ≤ 60000) (ha : 0 ≤ addr ∧ addr ≤ 4294967295) (hport : 0 ≤ port ∧ port ≤ 65535)
include hr hB hlc hcm hl ha hport
end
section
variable (l : List Int) (A : Option Addr) (len c B : Nat) (addr port : Int) (w : World) (hr : Rd .u8 w B A len l) (hB : B ≤ w.heap.size) (hlc : len ≤ c) (hcm : c ≤ 9223372036854775807) (hl : len ≤ 60000) (ha : 0 ≤ addr ∧ addr ≤ 4294967295) (hport : 0 ≤ port ∧ port ≤ 65535)
include hr hB hlc hcm hl ha hport
end
end Go.Proofs.YtbckoohljkmahaaGreat
namespace Go.Proofs.YtbckoohljkmahaaGreat
set_option linter.unusedVariables false
set_option linter.unusedSimpArgs false
open Go.RowKit
variable {α : Type}
section
variable {cs : α → List Value} {sz : Nat} {w w' : World} {B B' n : Nat} {A : Option Addr} {l : List α}
theorem RdT.keep (h : RdT cs sz w B A n l) (hk : ∀ p : Addr, p.block < B → w'.cell? p = w.cell? p) : RdT cs sz w' B A n l :=
  ⟨h.len, fun hn => by
    obtain ⟨b, o, e, hb, hc⟩ := h.cel hn
    exact ⟨b, o, e, hb, fun j x hj f u hu => (hk _ hb).trans (hc j x hj f u hu)⟩⟩
theorem RdT.below (h : RdT cs sz w B A n l) (hb : Below B w w') : RdT cs sz w' B A n l := h.keep fun _ hp => hb.cell hp
theorem RdT.more (h : RdT cs sz w B A n l) (hB : B ≤ B') : RdT cs sz w B' A n l :=
  ⟨h.len, fun hn => by
    obtain ⟨b, o, e, hb, hc⟩ := h.cel hn
    exact ⟨b, o, e, by omega, hc⟩⟩
end
section
variable {cs : α → List Value} {sz : Nat} {w w' : World} {e : TypeId} {base : Nat} {v : Value} {l : List α}
end
section
variable {P : Program} {cs : α → List Value} {sz : Nat}
end
end Go.Proofs.YtbckoohljkmahaaGreat
namespace Go.Proofs.YtbckoohljkmahaaGreat
set_option linter.unusedVariables false
set_option linter.unusedSimpArgs false
open Go.RowKit
section
variable {s d a b f : Int} {l : List Int} {h : Hd} (hs : 0 ≤ s ∧ s ≤ 4294967295) (hd : 0 ≤ d ∧ d ≤ 4294967295) (ha : 0 ≤ a ∧ a ≤ 65535) (hb : 0 ≤ b ∧ b ≤ 65535) (hl : Bytes8 l) (h1 : h.src = s) (h2 : h.dst = d)
include hs hd ha hb hl h1 h2
end
end Go.Proofs.YtbckoohljkmahaaGreat
namespace Go.Proofs.YtbckoohljkmahaaGreat
set_option linter.unusedVariables false
set_option linter.unusedSimpArgs false
open Go.RowKit
section
variable {k : Nat} {s d a b f : Int} {l : List Int} (hs : 0 ≤ s ∧ s ≤ 4294967295) (hd : 0 ≤ d ∧ d ≤ 4294967295) (ha : 0 ≤ a ∧ a ≤ 65535) (hb : 0 ≤ b ∧ b ≤ 65535) (hl : Bytes8 l) (hn : l.length ≤ 40)
include hn in
include hs hd hn in
include hs hd ha hb hl hn
end
section
variable {s d a b f : Int} {l : List Int} (hs : 0 ≤ s ∧ s ≤ 4294967295) (hd : 0 ≤ d ∧ d ≤ 4294967295) (ha : 0 ≤ a ∧ a ≤ 65535) (hb : 0 ≤ b ∧ b ≤ 65535) (hl : Bytes8 l) (hn : l.length ≤ 40)
include hs hd ha hb hl hn
end
end Go.Proofs.YtbckoohljkmahaaGreat
namespace Go.Proofs.YtbckoohljkmahaaGreat
set_option linter.unusedVariables false
set_option linter.unusedSimpArgs false
open Go.RowKit Go.Maps
theorem fl10_size : (Tryz.prog.info? 38).map (·.size) = some 3 := by kernel_rfl
set_option maxRecDepth 100000 in
theorem FromKey_any (f : Fl) (w : World) : Calls Tryz.prog 16 #[.agg f.cs] w fun e w' => e = .returned (.agg f.cs) ∧ Below w.heap.size w w' := by
  obtain ⟨f0, f1, f2⟩ := f
  simp only [Fl.cs]
  go_enter Tryz.func16, Tryz.ntmps16
  go_upto_region 1 with fail
  have bx := (Blk.new w 32 #[.int .i64 f0, .int .u32 f1, .int .u16 f2]).alloc (.cells #[.int .i64 0, .int .u32 0, .int .u16 0] 38)
  have ba := Blk.new (w.alloc (.cells #[.int .i64 f0, .int .u32 f1, .int .u16 f2] 32)) 38 #[.int .i64 0, .int .u32 0, .int .u16 0]
  rw [show (w.alloc (.cells #[.int .i64 f0, .int .u32 f1, .int .u16 f2] 32)).heap.size = w.heap.size + 1 by simp] at ba
  have bel : Below w.heap.size w ((w.alloc (.cells #[.int .i64 f0, .int .u32 f1, .int .u16 f2] 32)).alloc (.cells #[.int .i64 0, .int .u32 0, .int .u16 0] 38)) := (bel_alloc _ _).alloc (by simp) _
  generalize (w.alloc (.cells #[.int .i64 f0, .int .u32 f1, .int .u16 f2] 32)).alloc (.cells #[.int .i64 0, .int .u32 0, .int .u16 0] 38) = W at *
  have x0 := bx.cell 0
  have x1 := bx.cell 1
  have x2 := bx.cell 2
  go_wp2_with (refine wpList_stRow rfl rfl rfl rfl rfl ba fl10_size rfl (by simp [Value.oneCell']) ?_)
  exact bodyPost_ret (results_row rfl _ rfl (ba.setRow _) Tryz.underlying38 fl10_size) rfl ⟨rfl, below_setRow bel (Nat.le_succ _) _⟩
end Go.Proofs.YtbckoohljkmahaaGreat
namespace Go.Proofs.YtbckoohljkmahaaGreat
set_option linter.unusedVariables false
set_option linter.unusedSimpArgs false
open Go.RowKit
section
variable {k : Nat} {s d a b f : Int} {l : List Int}
section
variable (hs : 0 ≤ s ∧ s ≤ 4294967295) (hd : 0 ≤ d ∧ d ≤ 4294967295) (ha : 0 ≤ a ∧ a ≤ 65535) (hb : 0 ≤ b ∧ b ≤ 65535) (hl : Bytes8 l) (hn : l.length ≤ 40) (hk : k < 4)
include hs hd ha hb hl hn hk
end
section
variable (hs : 0 ≤ s ∧ s ≤ 4294967295) (hd : 0 ≤ d ∧ d ≤ 4294967295) (ha : 0 ≤ a ∧ a ≤ 65535) (hb : 0 ≤ b ∧ b ≤ 65535) (hl : Bytes8 l) (hn : l.length ≤ 40) (hk : k < 3)
include hs hd ha hb hl hn hk
end
end
end Go.Proofs.YtbckoohljkmahaaGreat
namespace Go.Proofs.YtbckoohljkmahaaGreat
set_option linter.unusedVariables false
set_option linter.unusedSimpArgs false
open Go.RowKit
variable {α : Type} {P : Program} {cs : α → List Value} {sz : Nat}
theorem wp_appT (hs : ∀ x, (cs x).length = sz) (h1c : ∀ x, ∀ u ∈ cs x, u.oneCell' = true) (hsz : 0 < sz) {o : Oper} {a : Act} {K : Act → World → Prop} {Q : Exit → Act → World → Prop} (w : World) (s x : Operand) (t : TypeId)
    (ho : o.op = .call { callee := .builtin .append, args := #[s, x], argTypes := #[t, t] })
    (base : Nat) (e : TypeId) (i : TypeInfo) (z : Value) (bytes : Nat) (ht : P.underlying t = some (.slice e)) (hi : P.info? e = some i) (hz : i.zero = some z)
    (hsize : i.size = sz) (hby : i.bytes = bytes) (hzs : z.cells.size = sz) (v : Value) (hsv : a.eval s = v) (l : List α) (hown : OwnT cs sz e w base v l)
    (B : Nat) (A : Option Addr) (m c : Nat) (hx : a.eval x = .slice A m c) (l2 : List α) (hr : RdT cs sz w B A m l2) (hlen : (l.length + m) * bytes ≤ 140737488355328) (hbp : 0 < bytes) (hbase : base ≤ w.heap.size)
    (h : ∀ v' w', OwnT cs sz e w' base v' (l ++ l2) → w.grownBy w' v.ownBlock → (v'.ownBlock = v.ownBlock ∨ v'.ownBlock = some w.heap.size) → K (a.put o.dst v') w') : o.wp P a w K Q := by
  obtain ⟨v', w', hrun, h2, h3, h4⟩ := run_appT (P := P) hs h1c hsz w base t o.type e i z bytes ht hi hz hsize hby hzs v l hown B A m c l2 hr hlen hbp hbase
  unfold Oper.wp execOp
  simp only [ho, resolve, invoke, builtin, Sem.run_bind, Sem.run_pure, Result.andThen_ok, List.map_toArray, List.map_cons, List.map_nil, hsv, hx, hrun]
  exact h v' w' h2 h3 h4
end Go.Proofs.YtbckoohljkmahaaGreat
namespace Go.Proofs.YtbckoohljkmahaaGreat
set_option linter.unusedVariables false
set_option linter.unusedSimpArgs false
open Go.RowKit
theorem KeepO.belA {o : Obj} {w w' : World} (h : Below w.heap.size w w') : KeepO o w w' := fun k hk => by
  have hlt : k < w.heap.size := (Array.getElem?_eq_some_iff.1 hk).1
  rw [h.block k hlt]; exact hk
end Go.Proofs.YtbckoohljkmahaaGreat
namespace Go.Proofs.YtbckoohljkmahaaGreat
set_option linter.unusedVariables false
set_option linter.unusedSimpArgs false
open Go.RowKit
section
variable {c : Cf} {b b' : Bd}
theorem atB_one : atB c (keyB c b) [b] = some b := by simp [atB]
end
section
variable {k : Nat} {s d a b f : Int} {l : List Int}
section
variable (hs : 0 ≤ s ∧ s ≤ 4294967295) (hd : 0 ≤ d ∧ d ≤ 4294967295) (ha : 0 ≤ a ∧ a ≤ 65535) (hb : 0 ≤ b ∧ b ≤ 65535) (hl : Bytes8 l) (hn : l.length ≤ 40) (hk : k < 4)
include hs hd ha hb hl hn hk
end
end
end Go.Proofs.YtbckoohljkmahaaGreat
