/- What the laws' proofs lean on: plain facts and contracts of the program's functions, laid together (14). -/
import Derived.Test.YtilhkhnjloplfaaGreatDoorPp03
import Derived.Test.YtilhkhnjloplfaaGreatDoorPp11
import Derived.LaidMore
import Derived.LaidOnce
import Derived.Handed
namespace Go.Proofs.YtilhkhnjloplfaaGreatDoor
set_option linter.unusedVariables false
set_option linter.unusedSimpArgs false
open Go.ChangeShapes Go.WideShapes Go.ChangeAt Go.RowKit Go.Deep
theorem gDeb : Tryz.prog.globalNamed "math/bits.deBruijn64tab" = some 0 := by kernel_rfl
theorem tDeb : (Tryz.prog.globals[0]?).map (·.type) = some 146 := by kernel_rfl
theorem laid_at : ∀ j, j < 64 → (Lib.deBruijn64tab.map fun (n : Nat) => (DataW.lit (.int .u8 (n : Int)) : DataW Unit))[j]? = some (DataW.lit (.int .u8 ((Lib.deBruijn64tab.getD j 0 : Nat) : Int))) := fun j hj => by
  have hl : Lib.deBruijn64tab.length = 64 := by decide
  rw [List.getElem?_map, List.getD_eq_getElem?_getD, List.getElem?_eq_getElem (by omega)]; rfl
/-- what the row lays is what the walks ask -/
theorem tab_of_laid {W : World} (h : laidMetH Tryz.prog [("math/bits.deBruijn64tab", Rows.laid_math_bits_deBruijn64tab)] W) : Tab W := by
  rw [MakeChecks.laidMetH_plain _ _ _ (by kernel_rfl)] at h
  obtain ⟨ps, ⟨g, t, cs, fuel, p, q, hg, ht, hv, hd, _, _⟩, _, _⟩ := h
  obtain rfl := Option.some.inj (gDeb.symm.trans hg)
  obtain rfl := Option.some.inj (tDeb.symm.trans ht)
  have c1 : Tryz.prog.cellsOf 5 = 1 := by kernel_rfl
  have c2 : Tryz.prog.cellsOf 146 = 64 := by kernel_rfl
  obtain ⟨xs, m, _, ex, hlen, hl, hel⟩ := DataW.trod_array Tryz.underlying146 hd
  rw [c2] at hlen
  have e3 : (Lib.deBruijn64tab.map fun (n : Nat) => (DataW.lit (.int .u8 (n : Int)) : DataW Unit)) = xs.map Prod.fst := (DataW.agg.inj (Prod.mk.inj ex).1)
  intro j hj
  have k0 := hel j hj
  rw [c1] at k0
  rw [List.getElem?_eq_getElem (show j < xs.length by omega)] at k0
  obtain ⟨z0, a0, b0, _⟩ := DataW.trod_int Tryz.underlying5 k0
  have h4 := laid_at j hj
  rw [e3, List.getElem?_map, List.getElem?_eq_getElem (show j < xs.length by omega), Option.map_some, b0] at h4
  simp only [Option.some.injEq, DataW.lit.injEq, Lit.int.injEq, true_and] at h4
  rw [World.var?_cell hg hv j, ← h4]
  have h5 : cs.toList[j]? = some (.int .u8 z0) := by
    have := congrArg (fun l => l[0]?) a0
    simpa using this
  simpa using h5
theorem tab_pos {W : World} (h : Tab W) : 0 < W.heap.size := by
  have h0 := h 0 (by omega)
  rcases Nat.eq_zero_or_pos W.heap.size with e | e
  · exfalso
    have hn : W.heap[0]? = none := by rw [Array.getElem?_eq_none_iff]; omega
    simp [World.cell?, hn] at h0
  · exact e
set_option maxRecDepth 100000 in
/-- the law's step, where the row lays the table -/
theorem law_lifted_laid {fid : FuncId} {f : Func} {spec : ChangeSpec} {dom : List PathCond} (os : Os) (started : os.Started) (H : Type) (enc : TypeId × Value → H)
    (hinit : Tryz.prog.inits.idxOf? fid = none) (hfn : Tryz.prog.funcs[fid]? = some f) (hres : f.resultTypes = #[4]) (hvars : spec.vars = [])
    (hspec : ∀ (H : Type) (ds : List (DataW H)), ds.length = f.params.size → (spec.fn H (ds ++ [])).results = [.lit (.bool true)] ∧ (spec.fn H (ds ++ [])).args = ds ∧ (spec.fn H (ds ++ [])).vars = [])
    (hread : (f.params.toList.all fun t => Tryz.prog.readableRec t && decide (t < Tryz.prog.types.size)) = true)
    (witness : ∃ (w : World) (tape : Tape) (i : Input), w.os = os ∧ (w.forCall tape i).Shaped Tryz.prog ∧ i.vars = [] ∧ Input.okWide Tryz.prog (w.forCall tape i) .any w.heap.size fid i ∧
      ((spec.pre enc Tryz.prog f dom false (w.forCall tape i).memory i.args ∧ laidMetH Tryz.prog [("math/bits.deBruijn64tab", Rows.laid_math_bits_deBruijn64tab)] (w.forCall tape i).memory) ∧ sizedMet enc Tryz.prog f (OpenSpec.ofChange spec) false (w.forCall tape i).memory i.args) ∧ Assume.holds {} Tryz.prog (lone (Frame.enter Tryz.prog fid i.args .normal) [] (w.forCall tape i)))
    (walk : ∀ (W : World) (args : Array Value), args.size = f.params.size → (∀ (j : Nat) t v, f.params[j]? = some t → args[j]? = some v → Arg Tryz.prog W t v) → Tab W →
      Calls Tryz.prog fid args W fun e W' => e = .returned (.bool true) ∧ Below W.heap.size W W') :
    ReturnsInHanded {} Tryz.checked os fid .any (fun w args => (spec.pre enc Tryz.prog f dom false w args ∧ laidMetH Tryz.prog [("math/bits.deBruijn64tab", Rows.laid_math_bits_deBruijn64tab)] w) ∧ sizedMet enc Tryz.prog f (OpenSpec.ofChange spec) false w args) (spec.post enc Tryz.prog f false true false false) := by
  refine returnsInHanded_of_change_and (C := Tryz.checked) (X := fun w _ => laidMetH Tryz.prog [("math/bits.deBruijn64tab", Rows.laid_math_bits_deBruijn64tab)] w) (fun _ _ _ hh h => h.of_heap hh) own_ started hinit hfn witness ?_
  intro W base args ds gs before hval0 hW hcnd _ hL _
  have hW' := hW
  obtain ⟨p, q, hA0, hV, rfl, hfz, hnd⟩ := hW
  rw [hvars] at hV
  obtain ⟨rfl, rfl⟩ := trodVars_none hV
  have hA : DataW.TrodAll enc Tryz.prog W 0 (fun _ => true) true f.params.toList args.toList ds p := hA0
  have hlen : ds.length = f.params.size := by
    have : ∀ {ts : List TypeId} {vs : List Value} {ds : List (DataW H)} {ps : List MemPlace}, DataW.TrodAll enc Tryz.prog W 0 (fun _ => true) true ts vs ds ps → ds.length = ts.length := by
      intro ts
      induction ts with
      | nil => intro vs ds ps h; cases vs <;> cases ds <;> simp [DataW.TrodAll] at h ⊢
      | cons t ts ih =>
        intro vs ds ps h
        cases vs with
        | nil => exact h.elim
        | cons v vs =>
          cases ds with
          | nil => exact h.elim
          | cons d ds => obtain ⟨p, q, _, h2, _⟩ := h; simp [ih h2]
    simpa using this hA
  obtain ⟨s1, s2, s3⟩ := hspec H ds hlen
  have hR := rdgAll_of hA
  refine (walk W args (by simpa using hR.1.symm) (fun j t v h1 h2 => ⟨⟨base, hval0 j t v h1 h2⟩, hR.2 j t v (by simpa using h1) (by simpa using h2)⟩) (tab_of_laid hL)).mono fun e W' ⟨he, bel⟩ => ?_
  subst he
  refine ⟨_, rfl, ds, [], p ++ [], [], p, [], hW', ?_, ?_, ?_, bel.frame _, fun h => by cases h⟩
  · rw [s1, hres]
    exact trodAll_mk1 (shut_bool Tryz.underlying4 _)
  · rw [s2]
    exact trodAll_below laidOut bel hread hA (trodAll_lt hA)
  · rw [hvars, s3]
    rfl
end Go.Proofs.YtilhkhnjloplfaaGreatDoor
