/- A region that draws its order, walked once in the order of the text, over a class of worlds. -/
import Derived.Test.YtjaacmecniijgaaMem
import Derived.Deep.QuietTactic
import Derived.BigQuiet
import Derived.Deep.RegionWith
import Derived.Deep.DeepMust
namespace Go.Proofs.Ytjaacmecniijgaa
set_option linter.unusedVariables false
set_option linter.unusedSimpArgs false
open Go.RowKit
section
variable {P : Program}
theorem region_class {id : Nat} {Q : Exit → Act → World → Prop} {a : Act} {w : World} {l : List Oper} (C : World → Prop) (hm : P.follows .mixedOrders = true) (hB : Region.lexB .any l.toArray = true) (hC : C { w with drawn := w.drawn + 1 })
    (h : wpQuiet P l.toArray C (fun a' => ∀ w', C w' → Q .normal a' w') l a) : (Code.region id l.toArray true).wp P Q a w :=
  wp_region_quiet (C := C) hm hB hC (by simpa using h)
theorem region_below {id : Nat} {Q : Exit → Act → World → Prop} {a : Act} {w : World} {l : List Oper} (hm : P.follows .mixedOrders = true) (hB : Region.lexB .any l.toArray = true)
    (h : wpQuiet P l.toArray (fun w' => Below w.heap.size w w') (fun a' => ∀ w', Below w.heap.size w w' → Q .normal a' w') l a) : (Code.region id l.toArray true).wp P Q a w :=
  region_class _ hm hB ⟨rfl, rfl, rfl, Nat.le_refl _, fun _ _ => rfl⟩ h
theorem quiet_run {o : Oper} {a : Act} {C : World → Prop} {K : Act → Prop} (v : Value) (h : ∀ w, C w → (execOp a.eval o).run P w = .ok (.value v) w) (hk : K (a.put o.dst v)) : o.quiet P a C K :=
  ⟨v, fun w hw => by unfold Oper.quietAt; rw [h w hw]; exact ⟨rfl, rfl⟩, hk⟩
theorem quiet_conv {o : Oper} {a : Act} {C : World → Prop} {K : Act → Prop} (x : Operand) (src dst : TypeId) (ho : o.op = .convert src dst x) (e : TypeId) (hs : P.underlying src = some (.slice e)) (he : P.underlying e = some (.int .u8)) (hd : P.underlying dst = some .string)
    (A : Option Addr) (n cap B : Nat) (l : List Int) (hx : a.eval x = .slice A n cap) (h : ∀ w, C w → Rd .u8 w B A n l) (hk : K (a.put o.dst (.string (strOfNums l)))) : o.quiet P a C K :=
  quiet_run _ (fun w hw => by
    unfold execOp
    simp only [ho, hx, Sem.run_bind]
    rw [conv_rd (P := P) (h w hw) src e dst hs he hd]
    rfl) hk
/-- a callee that leaves the world alone -/
theorem q_same {f : FuncId} {args : Array Value} {w w0 : World} {B : Nat} {v : Value} (h : Calls P f args w fun e w' => e = .returned v ∧ w = w') (hb : Below B w0 w) :
    Calls P f args w fun e w' => e = .returned v ∧ Below B w0 w' := h.mono fun _ _ ⟨h1, h2⟩ => ⟨h1, h2 ▸ hb⟩
/-- a callee that makes memory -/
theorem q_more {f : FuncId} {args : Array Value} {w w0 : World} {v : Value} {B : Nat} (h : Calls P f args w fun e w' => e = .returned v ∧ Below w.heap.size w w') (hb : Below B w0 w) (hB : B ≤ w0.heap.size) :
    Calls P f args w fun e w' => e = .returned v ∧ Below B w0 w' := h.mono fun _ _ ⟨h1, h2⟩ => ⟨h1, hb.trans (h2.mono (Nat.le_trans hB hb.size))⟩
theorem Calls.same {f : FuncId} {args : Array Value} {w : World} {v : Value} (h : Calls P f args w fun e w' => e = .returned v ∧ w = w') : Calls P f args w fun e w' => e = .returned v ∧ w' = w := h.mono fun _ _ ⟨he, hm⟩ => ⟨he, hm.symm⟩
/-- a callee that leaves the world alone, in a quiet region -/
theorem quiet_l {f : FuncId} {args : Array Value} {w : World} {n : Nat} {v : Value} (h : Calls P f args (w.drewN n) fun e w' => e = .returned v ∧ w.drewN n = w') :
    Calls P f args (w.drewN n) fun e w'' => e = .returned v ∧ ∃ m, w'' = w.drewN m := h.mono fun _ _ ⟨he, hm⟩ => ⟨he, n, hm.symm⟩
end
end Go.Proofs.Ytjaacmecniijgaa
