/- The row's step where the arguments' own reach is wanted: 'RdgS' tells of each slice that its bytes are within reach. -/
import Derived.Test.YtjaacmecniijgaaFrame
import Derived.SizedLaws
namespace Go.Proofs.Ytjaacmecniijgaa
set_option linter.unusedVariables false
set_option linter.unusedSimpArgs false
open Go.ChangeShapes Go.WideShapes Go.ChangeAt Go.RowKit Go.Deep
/-- these cells read as a value of type t in world w, each slice within reach -/
def RdgS (P : Program) (w : World) : Nat → TypeId → List Value → Prop
  | 0, _, _ => False
  | fuel + 1, t, cs =>
    match P.underlying t with
    | some .bool => ∃ b, cs = [.bool b]
    | some (.int k) => ∃ n, cs = [.int k n] ∧ inr k n
    | some .string => ∃ s : ByteArray, cs = [.string s] ∧ s.size ≤ maxLen
    | some (.slice e) => ∃ A len cap, cs = [.slice A len cap] ∧ len ≤ cap ∧ cap ≤ maxLen ∧ len * P.bytesOf e ≤ reachBytes ∧ (0 < len → ∃ a, A = some a ∧ ∀ i, i < len → ∃ ys, w.cells? 0 (a.add (i * P.cellsOf e)) (P.cellsOf e) = some ys ∧ RdgS P w fuel e ys)
    | some (.struct fs) => cs.length = P.cellsOf t ∧ ∀ (i : Nat) (f : Field), fs[i]? = some f → RdgS P w fuel f.type ((cs.drop f.offset).take (P.cellsOf f.type))
    | some (.array n e) => cs.length = P.cellsOf t ∧ ∀ i, i < n → RdgS P w fuel e ((cs.drop (i * P.cellsOf e)).take (P.cellsOf e))
    | _ => True
theorem all_app {l1 l2 : List Nat} {p : Nat → Bool} (h : (l1 ++ l2).all p = true) : l1.all p = true ∧ l2.all p = true := by
  rw [List.all_append, Bool.and_eq_true] at h; exact h
theorem weightsAll_at {H : Type} {P : Program} {e : TypeId} {p : Nat → Bool} : ∀ {l : List (DataW H)} (i : Nat) {d : DataW H}, (DataW.weightsAll P e l).all p = true → l[i]? = some d → (d.weights P e).all p = true
  | [], i, d, _, h => by simp at h
  | x :: l, 0, d, ha, h => by
    simp only [List.getElem?_cons_zero, Option.some.injEq] at h
    subst h
    rw [DataW.weightsAll] at ha
    exact (all_app ha).1
  | x :: l, i + 1, d, ha, h => by
    simp only [List.getElem?_cons_succ] at h
    rw [DataW.weightsAll] at ha
    exact weightsAll_at i (all_app ha).2 h
theorem weightsEach_at {H : Type} {P : Program} {p : Nat → Bool} : ∀ {ts : List TypeId} {l : List (DataW H)} (i : Nat) {t : TypeId} {d : DataW H}, (DataW.weightsEach P ts l).all p = true → ts[i]? = some t → l[i]? = some d → (d.weights P t).all p = true
  | [], _, i, t, d, _, h, _ => by simp at h
  | _ :: _, [], i, t, d, _, _, h => by simp at h
  | t0 :: ts, x :: l, 0, t, d, ha, h1, h2 => by
    simp only [List.getElem?_cons_zero, Option.some.injEq] at h1 h2
    subst h1 h2
    rw [DataW.weightsEach] at ha
    exact (all_app ha).1
  | t0 :: ts, x :: l, i + 1, t, d, ha, h1, h2 => by
    simp only [List.getElem?_cons_succ] at h1 h2
    rw [DataW.weightsEach] at ha
    exact weightsEach_at i (all_app ha).2 h1 h2
section
variable {H : Type} {enc : TypeId × Value → H} {P : Program} {w : World}
theorem rdgS_of_trod : ∀ (fuel : Nat) (t : TypeId) (cs : List Value) (x : DataW H × List MemPlace), DataW.trod enc P w 0 (fun _ => true) true fuel t cs = some x → (x.1.weights P t).all (· ≤ reachBytes) = true → RdgS P w fuel t cs
  | 0, _, _, _, h, _ => by simp [DataW.trod] at h
  | fuel + 1, t, cs, x, h, hw => by
    unfold RdgS
    split
    · rename_i ht; obtain ⟨b, hb, _⟩ := DataW.trod_bool ht h; exact ⟨b, hb⟩
    · rename_i k ht; obtain ⟨n, hn, _, hw⟩ := DataW.trod_int ht h; exact ⟨n, hn, hw⟩
    · rename_i ht; obtain ⟨s, hs, _, hw⟩ := DataW.trod_string ht h; exact ⟨s, hs, hw⟩
    · rename_i e ht
      rcases DataW.trod_slice ht h with ⟨h0, _⟩ | ⟨a, len, cap, elems, rest, n, hf, hcs, hx, hb, hl, hm, hlen, hel, _, _⟩
      · exact ⟨none, 0, 0, h0, Nat.le_refl _, Nat.zero_le _, by simp, fun h => absurd h (by omega)⟩
      · obtain rfl : fuel = n := by omega
        subst hx
        simp only [DataW.weights, ht, List.all_cons, Bool.and_eq_true, decide_eq_true_eq, List.length_map] at hw
        refine ⟨some a, len, cap, hcs, hl, hm, ?_, fun _ => ⟨a, rfl, fun i hi => ?_⟩⟩
        · rw [← hlen]
          exact Nat.le_trans (Nat.mul_le_mul_right _ (Nat.le_add_right _ _)) hw.1
        · have h1 := hel i hi
          have h3 : elems[i]? = some elems[i] := List.getElem?_eq_getElem (by omega)
          rw [h3] at h1
          obtain ⟨ys, hy1, hy2⟩ := Option.bind_eq_some_iff.1 h1
          exact ⟨ys, hy1, rdgS_of_trod fuel e ys _ hy2 (weightsAll_at i (all_app hw.2).1 (by rw [List.getElem?_map, h3]; rfl))⟩
    · rename_i fs ht
      obtain ⟨xs, n, hf, hx, hl, hxl, hxs⟩ := DataW.trod_struct ht h
      obtain rfl : fuel = n := by omega
      subst hx
      simp only [DataW.weights, ht] at hw
      refine ⟨hl, fun i f hi => ?_⟩
      have h1 := hxs i f hi
      have hlt : i < fs.size := (Array.getElem?_eq_some_iff.1 hi).1
      have h3 : xs[i]? = some xs[i] := List.getElem?_eq_getElem (by omega)
      rw [h3] at h1
      exact rdgS_of_trod fuel _ _ _ h1 (weightsEach_at i hw (by rw [List.getElem?_map, Array.getElem?_toList, hi]; rfl) (by rw [List.getElem?_map, h3]; rfl))
    · rename_i n e ht
      obtain ⟨xs, m, hf, hx, hl, hxl, hxs⟩ := DataW.trod_array ht h
      obtain rfl : fuel = m := by omega
      subst hx
      simp only [DataW.weights, ht] at hw
      refine ⟨hl, fun i hi => ?_⟩
      have h1 := hxs i hi
      have h3 : xs[i]? = some xs[i] := List.getElem?_eq_getElem (by omega)
      rw [h3] at h1
      exact rdgS_of_trod fuel _ _ _ h1 (weightsAll_at i hw (by rw [List.getElem?_map, h3]; rfl))
    · trivial
theorem RdgS.rdg : ∀ (fuel : Nat) (t : TypeId) (cs : List Value), RdgS P w fuel t cs → Rdg P w fuel t cs
  | 0, _, _, h => h
  | fuel + 1, t, cs, h => by
    unfold RdgS at h
    split at h
    · rename_i ht; unfold Rdg; rw [ht]; exact h
    · rename_i ht; unfold Rdg; rw [ht]; exact h
    · rename_i ht; unfold Rdg; rw [ht]; exact h
    · rename_i ht
      unfold Rdg; rw [ht]
      obtain ⟨A, len, cap, h1, h2, h3, _, h5⟩ := h
      refine ⟨A, len, cap, h1, h2, h3, fun h0 => ?_⟩
      obtain ⟨a, e, h6⟩ := h5 h0
      refine ⟨a, e, fun i hi => ?_⟩
      obtain ⟨ys, hy, hr⟩ := h6 i hi
      exact ⟨ys, hy, RdgS.rdg fuel _ _ hr⟩
    · rename_i ht; unfold Rdg; rw [ht]; exact ⟨h.1, fun i f hi => RdgS.rdg fuel _ _ (h.2 i f hi)⟩
    · rename_i ht; unfold Rdg; rw [ht]; exact ⟨h.1, fun i hi => RdgS.rdg fuel _ _ (h.2 i hi)⟩
    · unfold Rdg; split <;> simp_all
def RdgAllS (P : Program) (w : World) (ts : List TypeId) (vs : List Value) : Prop :=
  ts.length = vs.length ∧ ∀ (j : Nat) (t : TypeId) (v : Value), ts[j]? = some t → vs[j]? = some v → ∃ fuel, RdgS P w fuel t v.cells.toList
theorem rdgAllS_of : ∀ {ts : List TypeId} {vs : List Value} {ds : List (DataW H)} {ps : List MemPlace}, DataW.TrodAll enc P w 0 (fun _ => true) true ts vs ds ps → (DataW.weightsEach P ts ds).all (· ≤ reachBytes) = true → RdgAllS P w ts vs
  | [], [], [], _, _, _ => ⟨rfl, by simp⟩
  | t :: ts, v :: vs, d :: ds, ps, h, hw => by
    obtain ⟨p, q, ⟨fuel, h1⟩, h2, _⟩ := h
    rw [DataW.weightsEach] at hw
    have ih := rdgAllS_of h2 (all_app hw).2
    refine ⟨by simp [ih.1], fun j t' v' ht hv => ?_⟩
    cases j with
    | zero => simp at ht hv; subst ht; subst hv; exact ⟨fuel, rdgS_of_trod fuel _ _ _ h1 (all_app hw).1⟩
    | succ j => exact ih.2 j t' v' (by simpa using ht) (by simpa using hv)
  | [], [], _ :: _, _, h, _ => h.elim
  | [], _ :: _, _, _, h, _ => h.elim
  | _ :: _, [], _, _, h, _ => h.elim
  | _ :: _, _ :: _, [], _, h, _ => h.elim
end
/-- an argument of type t: its form, and what it reads as, within reach -/
def ArgS (P : Program) (W : World) (t : TypeId) (v : Value) : Prop := (∃ base, Value.okWide P W .any base t v) ∧ ∃ fuel, RdgS P W fuel t v.cells.toList
section
variable {P : Program} {W : World} {t e : TypeId} {v : Value}
theorem ArgS.arg (h : ArgS P W t v) : Arg P W t v := ⟨h.1, h.2.choose, RdgS.rdg _ _ _ h.2.choose_spec⟩
theorem rdgS_slice {fuel : Nat} {cs : List Value} (ht : P.underlying t = some (.slice e)) (h : RdgS P W fuel t cs) :
    ∃ A len cap m, cs = [.slice A len cap] ∧ len ≤ cap ∧ cap ≤ maxLen ∧ len * P.bytesOf e ≤ reachBytes ∧ (0 < len → ∃ a, A = some a ∧ ∀ i, i < len → ∃ ys, W.cells? 0 (a.add (i * P.cellsOf e)) (P.cellsOf e) = some ys ∧ RdgS P W m e ys) := by
  cases fuel with
  | zero => exact h.elim
  | succ m => unfold RdgS at h; rw [ht] at h; obtain ⟨A, len, cap, h1, h2, h3, h4, h5⟩ := h; exact ⟨A, len, cap, m, h1, h2, h3, h4, h5⟩
theorem rdgS_struct {fs : Array Field} {fuel : Nat} {cs : List Value} (ht : P.underlying t = some (.struct fs)) (h : RdgS P W fuel t cs) :
    ∃ m, cs.length = P.cellsOf t ∧ ∀ (i : Nat) (f : Field), fs[i]? = some f → RdgS P W m f.type ((cs.drop f.offset).take (P.cellsOf f.type)) := by
  cases fuel with
  | zero => exact h.elim
  | succ m => unfold RdgS at h; rw [ht] at h; exact ⟨m, h⟩
theorem argS_slice (ht : P.underlying t = some (.slice e)) (h : ArgS P W t v) :
    ∃ A len cap m, v = .slice A len cap ∧ len ≤ cap ∧ cap ≤ maxLen ∧ (0 < len → ∃ a, A = some a ∧ ∀ i, i < len → ∃ ys, W.cells? 0 (a.add (i * P.cellsOf e)) (P.cellsOf e) = some ys ∧ RdgS P W m e ys) := by
  obtain ⟨⟨base, h1⟩, fuel, h2⟩ := h
  obtain ⟨a, len, cap, rfl⟩ := okWide_slice ht h1
  obtain ⟨A, len', cap', m, hcs, h3, h4, _, h5⟩ := rdgS_slice ht h2
  simp [Value.cells] at hcs
  obtain ⟨rfl, rfl, rfl⟩ := hcs
  exact ⟨_, _, _, m, rfl, h3, h4, h5⟩
theorem sliceS_rows {A : Option Addr} {len sz m : Nat} (hsz : 0 < sz) (h : 0 < len → ∃ a, A = some a ∧ ∀ i, i < len → ∃ ys, W.cells? 0 (a.add (i * sz)) sz = some ys ∧ RdgS P W m e ys) :
    0 < len → ∃ b o, A = some ⟨b, o, none⟩ ∧ b < W.heap.size ∧ ∀ i, i < len → ∃ ys, (∀ j, j < sz → W.cell? ⟨b, o + i * sz + j, none⟩ = ys[j]?) ∧ ys.length = sz ∧ RdgS P W m e ys := by
  intro hp
  obtain ⟨a, rfl, hi⟩ := h hp
  obtain ⟨y0, h0, _⟩ := hi 0 hp
  obtain ⟨_, hl0, hc0⟩ := World.cells?_some h0
  have c0 := hc0 0 hsz
  have e0 : (a.add (0 * sz)).add 0 = a := by simp [Addr.add]
  rw [e0, List.getElem?_eq_getElem (by omega)] at c0
  obtain ⟨hs1, hs2⟩ := cell_block c0
  obtain ⟨b, o, s⟩ := a
  simp only at hs1 hs2
  subst hs1
  refine ⟨b, o, rfl, hs2, fun i hil => ?_⟩
  obtain ⟨ys, hy, hr⟩ := hi i hil
  obtain ⟨_, hl, hc⟩ := World.cells?_some hy
  refine ⟨ys, fun j hj => ?_, hl, hr⟩
  rw [← hc j hj]
  congr 1
  rw [add_add]
  unfold Addr.add; split
  · rename_i h; rw [Nat.add_assoc, h]; rfl
  · rw [Nat.add_assoc]
end
set_option maxRecDepth 100000 in
theorem law_lifted_sized {fid : FuncId} {f : Func} {spec : ChangeSpec} {dom : List PathCond} (os : Os) (started : os.Started) (H : Type) (enc : TypeId × Value → H)
    (hinit : Try.prog.inits.idxOf? fid = none) (hfn : Try.prog.funcs[fid]? = some f) (hres : f.resultTypes = #[4]) (hvars : spec.vars = [])
    (hspec : ∀ (H : Type) (ds : List (DataW H)), ds.length = f.params.size → (spec.fn H (ds ++ [])).results = [.lit (.bool true)] ∧ (spec.fn H (ds ++ [])).args = ds ∧ (spec.fn H (ds ++ [])).vars = [])
    (hread : (f.params.toList.all fun t => Try.prog.readableRec t && decide (t < Try.prog.types.size)) = true)
    (witness : ∃ (w : World) (tape : Tape) (i : Input), w.os = os ∧ (w.forCall tape i).Shaped Try.prog ∧ i.vars = [] ∧ Input.okWide Try.prog (w.forCall tape i) .any w.heap.size fid i ∧
      spec.pre6 enc Try.prog f dom false (w.forCall tape i).memory i.args ∧ Assume.holds {} Try.prog (lone (Frame.enter Try.prog fid i.args .normal) [] (w.forCall tape i)))
    (walk : ∀ (W : World) (args : Array Value), args.size = f.params.size → (∀ (j : Nat) t v, f.params[j]? = some t → args[j]? = some v → ArgS Try.prog W t v) →
      Calls Try.prog fid args W fun e W' => e = .returned (.bool true) ∧ Below W.heap.size W W') :
    ReturnsInHanded {} Try.checked os fid .any (spec.pre6 enc Try.prog f dom false) (spec.post enc Try.prog f false true false false) := by
  refine returnsInHanded_of_change_sized (C := Try.checked) own_ started hinit hfn witness ?_
  intro W base args ds gs before hval0 hW hcnd hwt _
  have hW' := hW
  obtain ⟨p, q, hA0, hV, rfl, hfz, hnd⟩ := hW
  rw [hvars] at hV
  obtain ⟨rfl, rfl⟩ := trodVars_none hV
  have hA : DataW.TrodAll enc Try.prog W 0 (fun _ => true) true f.params.toList args.toList ds p := hA0
  have hlen : ds.length = f.params.size := by
    have : ∀ {ts : List TypeId} {vs : List Value} {ds : List (DataW H)} {ps : List MemPlace}, DataW.TrodAll enc Try.prog W 0 (fun _ => true) true ts vs ds ps → ds.length = ts.length := by
      intro ts
      induction ts with
      | nil => intro vs ds ps h; cases vs <;> cases ds <;> simp [DataW.TrodAll] at h ⊢
      | cons t ts ih =>
        intro vs ds ps h
        cases vs with
        | nil => exact h.elim
        | cons v vs =>
          cases ds with
          | nil => exact h.elim
          | cons d ds => obtain ⟨p, q, _, h2, _⟩ := h; simp [ih h2]
    simpa using this hA
  obtain ⟨s1, s2, s3⟩ := hspec H ds hlen
  have hwt2 : (DataW.weightsEach Try.prog f.params.toList ds).all (· ≤ reachBytes) = true := by
    have hwt3 : (DataW.weightsEach Try.prog (f.params.toList ++ spec.plain.varTypes Try.prog) (ds ++ [])).all (· ≤ reachBytes) = true := hwt
    have e : spec.plain.varTypes Try.prog = [] := by simp [ChangeSpec.plain, DataSpec.varTypes, hvars]
    rw [e, List.append_nil, List.append_nil] at hwt3
    exact hwt3
  have hR := rdgAllS_of hA hwt2
  refine (walk W args (by simpa using hR.1.symm) (fun j t v h1 h2 => ⟨⟨base, hval0 j t v h1 h2⟩, hR.2 j t v (by simpa using h1) (by simpa using h2)⟩)).mono fun e W' ⟨he, bel⟩ => ?_
  subst he
  refine ⟨_, rfl, ds, [], p ++ [], [], p, [], hW', ?_, ?_, ?_, bel.frame _, fun h => by cases h⟩
  · rw [s1, hres]
    exact trodAll_mk1 (shut_bool Try.underlying4 _)
  · rw [s2]
    exact trodAll_below laidOut bel hread hA (trodAll_lt hA)
  · rw [hvars, s3]
    rfl
end Go.Proofs.Ytjaacmecniijgaa
