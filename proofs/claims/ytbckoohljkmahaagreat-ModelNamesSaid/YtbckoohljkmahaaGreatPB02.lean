/- What the laws' proofs lean on: plain facts and contracts of the program's functions, laid together (2). -/
import Derived.Shelf.SlIterI.Nil
import Derived.Shelf.SortM.Plain
import Derived.Shelf.SortM.SortNone
import Derived.Test.YtbckoohljkmahaaGreatProg
import Derived.Test.YtbckoohljkmahaaGreatPB01
namespace Go.Proofs.YtbckoohljkmahaaGreat
set_option linter.unusedVariables false
set_option linter.unusedSimpArgs false
open Go.Shelf
def keysA_ren : Go.Shelf.Ren := ⟨fun | 7 => 53 | 10 => 81 | n => n, fun | 23 => 114 | 26 => 3 | 3 => 63 | 28 => 127 | 0 => 0 | 27 => 126 | 33 => 152 | 4 => 4 | n => n, fun | n => n⟩
theorem keysA : Go.Proofs.SlLaysZI.n7 Tryz.prog keysA_ren := {
  mixed := by kernel_rfl
  f7 := ⟨Tryz.f53.name, by decide, Tryz.func53.trans (congrArg some (by kernel_rfl))⟩
  f10 := ⟨Tryz.f81.name, by decide, Tryz.func81.trans (congrArg some (by kernel_rfl))⟩
  t0 := Tryz.underlying0
  a0 := Tryz.isAgg0
  z0 := Tryz.sizeOf0
  v0 := Tryz.zeroValue0
  t4 := Tryz.underlying4
  a4 := Tryz.isAgg4
  z4 := Tryz.sizeOf4
  v4 := Tryz.zeroValue4
  t23 := Tryz.underlying114
  a23 := Tryz.isAgg114
  z23 := Tryz.sizeOf114
  v23 := Tryz.zeroValue114
  t26 := Tryz.underlying3
  a26 := Tryz.isAgg3
  z26 := Tryz.sizeOf3
  v26 := Tryz.zeroValue3
  t27 := Tryz.underlying126
  a27 := Tryz.isAgg126
  z27 := Tryz.sizeOf126
  v27 := Tryz.zeroValue126
  t28 := Tryz.underlying127
  a28 := Tryz.isAgg127
  z28 := Tryz.sizeOf127
  v28 := Tryz.zeroValue127
  t33 := Tryz.underlying152
  a33 := Tryz.isAgg152
  z33 := Tryz.sizeOf152
  v33 := Tryz.zeroValue152 }

def sortedA_ren : Go.Shelf.Ren := ⟨fun | 6 => 52 | 8 => 79 | 9 => 80 | 11 => 107 | 13 => 109 | 12 => 108 | 23 => 137 | 24 => 138 | 14 => 128 | 15 => 129 | 16 => 130 | 17 => 131 | 18 => 132 | 19 => 133 | 20 => 134 | 21 => 135 | 22 => 136 | 25 => 143 | 26 => 144 | 27 => 145 | 28 => 146 | 29 => 147 | 30 => 148 | 31 => 149 | n => n, fun | 26 => 3 | 28 => 127 | 24 => 77 | 0 => 0 | 3 => 3 | 37 => 133 | 48 => 25 | 50 => 78 | 4 => 4 | 40 => 191 | 39 => 190 | 45 => 147 | 5 => 5 | 9 => 9 | 51 => 200 | 55 => 204 | 57 => 206 | 58 => 207 | 33 => 152 | n => n, fun | n => n⟩
theorem sortedA : Go.Proofs.SlLaysZI.n6 Tryz.prog sortedA_ren := {
  mixed := by kernel_rfl
  f6 := ⟨Tryz.f52.name, by decide, Tryz.func52.trans (congrArg some (by kernel_rfl))⟩
  f8 := ⟨Tryz.f79.name, by decide, Tryz.func79.trans (congrArg some (by kernel_rfl))⟩
  f11 := ⟨Tryz.f107.name, by decide, Tryz.func107.trans (congrArg some (by kernel_rfl))⟩
  t0 := Tryz.underlying0
  a0 := Tryz.isAgg0
  z0 := Tryz.sizeOf0
  v0 := Tryz.zeroValue0
  t24 := Tryz.underlying77
  a24 := Tryz.isAgg77
  z24 := Tryz.sizeOf77
  v24 := Tryz.zeroValue77
  t26 := Tryz.underlying3
  a26 := Tryz.isAgg3
  z26 := Tryz.sizeOf3
  v26 := Tryz.zeroValue3
  t28 := Tryz.underlying127
  a28 := Tryz.isAgg127
  z28 := Tryz.sizeOf127
  v28 := Tryz.zeroValue127
  i26 := by kernel_rfl }

def sortA_ren : Go.Shelf.Ren := ⟨fun | 5 => 80 | 8 => 109 | 7 => 108 | 19 => 137 | 20 => 138 | 10 => 128 | 11 => 129 | 12 => 130 | 13 => 131 | 14 => 132 | 15 => 133 | 16 => 134 | 17 => 135 | 18 => 136 | 30 => 143 | 31 => 144 | 32 => 145 | 33 => 146 | 34 => 147 | 35 => 148 | 40 => 149 | n => n, fun | 23 => 77 | 25 => 3 | 3 => 3 | 32 => 133 | 22 => 77 | 0 => 0 | 44 => 25 | 46 => 78 | 4 => 4 | 36 => 191 | 35 => 190 | 41 => 147 | 5 => 5 | 9 => 9 | 53 => 200 | 57 => 204 | 63 => 206 | 64 => 207 | n => n, fun | n => n⟩
theorem sortA : Go.Proofs.SlLaysM.n5 Tryz.prog sortA_ren := {
  mixed := by kernel_rfl
  f5 := ⟨Tryz.f80.name, by decide, Tryz.func80.trans (congrArg some (by kernel_rfl))⟩
  f7 := ⟨Tryz.f108.name, by decide, Tryz.func108.trans (congrArg some (by kernel_rfl))⟩
  f8 := Tryz.func109.trans (congrArg some (by kernel_rfl))
  f10 := ⟨Tryz.f128.name, by decide, Tryz.func128.trans (congrArg some (by kernel_rfl))⟩
  f11 := ⟨Tryz.f129.name, by decide, Tryz.func129.trans (congrArg some (by kernel_rfl))⟩
  f12 := ⟨Tryz.f130.name, by decide, Tryz.func130.trans (congrArg some (by kernel_rfl))⟩
  f13 := ⟨Tryz.f131.name, by decide, Tryz.func131.trans (congrArg some (by kernel_rfl))⟩
  f14 := ⟨Tryz.f132.name, by decide, Tryz.func132.trans (congrArg some (by kernel_rfl))⟩
  f15 := ⟨Tryz.f133.name, by decide, Tryz.func133.trans (congrArg some (by kernel_rfl))⟩
  f16 := ⟨Tryz.f134.name, by decide, Tryz.func134.trans (congrArg some (by kernel_rfl))⟩
  f17 := ⟨Tryz.f135.name, by decide, Tryz.func135.trans (congrArg some (by kernel_rfl))⟩
  f18 := ⟨Tryz.f136.name, by decide, Tryz.func136.trans (congrArg some (by kernel_rfl))⟩
  f19 := Tryz.func137.trans (congrArg some (by kernel_rfl))
  f20 := Tryz.func138.trans (congrArg some (by kernel_rfl))
  f30 := ⟨Tryz.f143.name, by decide, Tryz.func143.trans (congrArg some (by kernel_rfl))⟩
  f31 := Tryz.func144.trans (congrArg some (by kernel_rfl))
  f32 := Tryz.func145.trans (congrArg some (by kernel_rfl))
  f33 := ⟨Tryz.f146.name, by decide, Tryz.func146.trans (congrArg some (by kernel_rfl))⟩
  f34 := ⟨Tryz.f147.name, by decide, Tryz.func147.trans (congrArg some (by kernel_rfl))⟩
  f35 := ⟨Tryz.f148.name, by decide, Tryz.func148.trans (congrArg some (by kernel_rfl))⟩
  f40 := ⟨Tryz.f149.name, by decide, Tryz.func149.trans (congrArg some (by kernel_rfl))⟩
  t0 := Tryz.underlying0
  a0 := Tryz.isAgg0
  z0 := Tryz.sizeOf0
  v0 := Tryz.zeroValue0
  t3 := Tryz.underlying3
  a3 := Tryz.isAgg3
  z3 := Tryz.sizeOf3
  v3 := Tryz.zeroValue3
  t4 := Tryz.underlying4
  a4 := Tryz.isAgg4
  z4 := Tryz.sizeOf4
  v4 := Tryz.zeroValue4
  t5 := Tryz.underlying5
  a5 := Tryz.isAgg5
  z5 := Tryz.sizeOf5
  v5 := Tryz.zeroValue5
  t9 := Tryz.underlying9
  a9 := Tryz.isAgg9
  z9 := Tryz.sizeOf9
  v9 := Tryz.zeroValue9
  t22 := Tryz.underlying77
  a22 := Tryz.isAgg77
  z22 := Tryz.sizeOf77
  v22 := Tryz.zeroValue77
  t23 := Tryz.underlying77
  a23 := Tryz.isAgg77
  z23 := Tryz.sizeOf77
  v23 := Tryz.zeroValue77
  t25 := Tryz.underlying3
  a25 := Tryz.isAgg3
  z25 := Tryz.sizeOf3
  v25 := Tryz.zeroValue3
  t32 := Tryz.underlying133
  a32 := Tryz.isAgg133
  z32 := Tryz.sizeOf133
  v32 := Tryz.zeroValue133
  t35 := Tryz.underlying190
  a35 := Tryz.isAgg190
  z35 := Tryz.sizeOf190
  v35 := Tryz.zeroValue190
  t36 := Tryz.underlying191
  a36 := Tryz.isAgg191
  z36 := Tryz.sizeOf191
  v36 := Tryz.zeroValue191
  t41 := Tryz.underlying147
  a41 := Tryz.isAgg147
  z41 := Tryz.sizeOf147
  v41 := Tryz.zeroValue147
  t44 := Tryz.underlying25
  a44 := Tryz.isAgg25
  z44 := Tryz.sizeOf25
  v44 := Tryz.zeroValue25
  t46 := Tryz.underlying78
  a46 := Tryz.isAgg78
  z46 := Tryz.sizeOf78
  v46 := Tryz.zeroValue78
  t53 := Tryz.underlying200
  a53 := Tryz.isAgg200
  z53 := Tryz.sizeOf200
  v53 := Tryz.zeroValue200
  t57 := Tryz.underlying204
  a57 := Tryz.isAgg204
  z57 := Tryz.sizeOf204
  v57 := Tryz.zeroValue204
  t63 := Tryz.underlying206
  a63 := Tryz.isAgg206
  z63 := Tryz.sizeOf206
  v63 := Tryz.zeroValue206
  t64 := Tryz.underlying207
  a64 := Tryz.isAgg207
  z64 := Tryz.sizeOf207
  v64 := Tryz.zeroValue207 }

end Go.Proofs.YtbckoohljkmahaaGreat
namespace Go.Proofs.YtbckoohljkmahaaGreat
set_option linter.unusedVariables false
set_option linter.unusedSimpArgs false
open Go.RowKit Go.Maps Go.Sort Go.Shelf
theorem sortsA (m : Nat) : AnyZI.SortsIn Tryz.prog sortedA_ren Fence.wide m :=
  ⟨fun blk off cap ss W hH hblk hsz => callsIn_wide.2 (AnyM.slices_Sort_int sortA blk off cap ss W hH hblk hsz),
   fun p cap W => callsIn_wide.2 (AnyM.slices_Sort_int_none sortA p cap W)⟩
theorem keys_eB (c : Cf) (L : List Bd) : intKeys (.map (eB c L) : DataW Value) = L.map (keyB c) := by
  simp [intKeys, eB, Go.intOf, Function.comp_def]
theorem sorted_keys {c : Cf} {L : List Bd} (h : LInv c L) {ss : List Int} (hp : ss.Perm (L.map (keyB c))) : ss.mergeSort (fun x y => decide (x ≤ y)) = L.map (keyB c) := by
  have tr : ∀ a b c : Int, leI a b = true → leI b c = true → leI a c = true := fun a b c h1 h2 => by simp only [leI, decide_eq_true_eq] at *; omega
  have tot : ∀ a b : Int, (leI a b || leI b a) = true := fun a b => by simp only [leI, Bool.or_eq_true, decide_eq_true_eq]; omega
  refine List.Perm.eq_of_pairwise (le := fun a b => leI a b = true) (fun a b _ _ h1 h2 => ?_) (List.pairwise_mergeSort tr tot ss) ?_ ((List.mergeSort_perm ss leI).trans hp)
  · simp only [leI, decide_eq_true_eq] at h1 h2; omega
  · refine List.pairwise_map.2 (h.srt.imp fun {a b} hab => ?_)
    simp only [leI, decide_eq_true_eq]; omega
set_option maxRecDepth 100000 in
theorem keys_any (c : Cf) (gn pb fm np nf : Nat) (L : List Bd) (hc : c.ok) (hnp : np ≤ 1000000) (W : World) (hm : NatM W c gn pb fm np nf L) :
    Calls Tryz.prog 53 #[.map (some pb)] W (KeysR c L W) := by
  have hk : CallsIn Fence.wide 5 Tryz.prog 53 #[.map (some pb)] W _ := AnyZI.keys_in keysA Fence.wide 5 trivial rfl (some pb) W
  refine (callsIn_wide.1 hk).mono ?_
  rintro e W1 ⟨rfl, rfl⟩
  refine ⟨_, rfl, bel_alloc _ _, ?_⟩
  have hpl := hm.pl.bel (bel_alloc W (.cells #[.map (some pb)] (keysA_ren.t 23)))
  have hseq : SeqGives Fence.wide 2 Tryz.prog (keysA_ren.f 10) #[.pointer (some ⟨W.heap.size, 0, none⟩)] encZ (fun ss => ss.Perm (intKeys (.map (eB c L) : DataW Value))) (Maps.size (.map (eB c L) : DataW Value)) (W.alloc (.cells #[.map (some pb)] (keysA_ren.t 23))) :=
    AnyZI.keys_gives (ρ := keysA_ren) { keysA with } Fence.wide _ trivial rfl (by omega) W.heap.size pb np _ _ (by simp) (by simp) hpl.own
  have hlen := hm.pl.len
  have hsz : Maps.size (.map (eB c L) : DataW Value) = L.length := by simp [Maps.size, eB]
  have hS := AnyZI.sorted_in sortedA Fence.wide 5 trivial trivial trivial trivial rfl (by omega) (sortsA _) (enters_of Tryz.func80 (by kernel_rfl) rfl) (keysA_ren.f 10) #[.pointer (some ⟨W.heap.size, 0, none⟩)] trivial (enters_of Tryz.func81 (by kernel_rfl) rfl) _ _ (by rw [hsz]; unfold maxLen; omega) (by rw [hsz]; omega) _ hseq
  change CallsIn _ _ Tryz.prog 52 _ _ _ at hS
  refine (callsIn_wide.1 hS).mono ?_
  rintro e W2 ⟨v, ss, rfl, hp, hrow, _, hb⟩
  rw [keys_eB] at hp
  have hl : ss.length = L.length := by rw [hp.length_eq, List.length_map]
  rw [sorted_keys hm.inv hp, hl] at hrow
  have hown : Own .i64 3 W2 (W.alloc (.cells #[.map (some pb)] (keysA_ren.t 23))).heap.size v (L.map (keyB c)) := ⟨by rw [List.length_map]; exact hrow, fun x hx => by
    obtain ⟨b, hb, rfl⟩ := List.mem_map.1 hx
    exact keyB_rng hc b⟩
  obtain ⟨A, cp, rfl, h1, h2, h3⟩ := hown.form (n := L.length) (List.length_map ..)
  exact ⟨A, cp, rfl, h1, h3, hb⟩
theorem Bindings_any (c : Cf) (gn pb fm np nf : Nat) (L : List Bd) (w : World) (hm : NatM w c gn pb fm np nf L) (hc : c.ok) (hnp : np ≤ 1000000) :
    Calls Tryz.prog 23 #[.pointer (some ⟨gn, 0, none⟩)] w (BndR w c gn pb fm np nf L) :=
  Bindings_of c gn pb fm np nf L w hm hc hnp (fun W hM => keys_any c gn pb fm np nf L hc hnp W hM)
end Go.Proofs.YtbckoohljkmahaaGreat
namespace Go.Proofs.YtbckoohljkmahaaGreat
set_option linter.unusedVariables false
set_option linter.unusedSimpArgs false
open Go.RowKit Go.Maps
structure LN (w W : World) (c : Cf) (gn pb fm np nf : Nat) (L : List Bd) : Prop where
  nm : NatM W c gn pb fm np nf L
  hg : w.heap.size ≤ gn
  hp : w.heap.size ≤ pb
  hf : w.heap.size ≤ fm
  bel : Below w.heap.size w W
section
variable {w W W' : World} {c : Cf} {gn pb fm np nf np' nf' : Nat} {L L' : List Bd}
theorem NatM.notU (h : NatM W c gn pb fm np nf L) {g : Nat} {cur : Array Value} {t : TypeId} {q : Nat × Nat} (hb : W.heap[g]? = some (.cells cur t q)) : ¬ (g = pb ∨ g = fm) := by
  rintro (e | e)
  · obtain ⟨es, clock, h1, _⟩ := h.pl.own
    rw [e, h1] at hb; cases hb
  · obtain ⟨D, ⟨es, clock, h1, _⟩, _⟩ := h.fl.ex
    rw [e, h1] at hb; cases hb
theorem NatM.ownU (h : NatM W c gn pb fm np nf L) {k : IntKind} {e : TypeId} {base : Nat} {v : Value} {l : List Int} (ho : Own k e W base v l) (hu : Upd (fun k => k = pb ∨ k = fm) W W') : Own k e W' base v l := by
  refine ho.upd hu (fun g hg => ?_)
  rcases ho.row.2 with ⟨rfl, _⟩ | ⟨g', cap, cur, rfl, _, hgg, _⟩
  · simp [Value.ownBlock] at hg
  · simp only [Value.ownBlock, Option.some.injEq] at hg
    subst hg
    exact h.notU hgg
theorem LN.bel_ (h : LN w W c gn pb fm np nf L) (hb : Below W.heap.size W W') : LN w W' c gn pb fm np nf L := ⟨h.nm.bel_ hb, h.hg, h.hp, h.hf, bel_after h.bel hb⟩
theorem LN.step (h : LN w W c gn pb fm np nf L) (hm : NatM W' c gn pb fm np' nf' L') (hu : Upd (fun k => k = pb ∨ k = fm) W W') : LN w W' c gn pb fm np' nf' L' :=
  ⟨hm, h.hg, h.hp, h.hf, h.bel.trans (hu.below h.bel.size (fun k hk hS => by
    have h1 := h.hp
    have h2 := h.hf
    rcases hS with e | e <;> omega))⟩
end
def StR (w W : World) (c : Cf) (gn pb fm np nf : Nat) (R : List Bd × Int × List Int) (e : Ending) (W' : World) : Prop :=
  ∃ v np' nf', e = .returned (.agg #[v, .int .i64 R.2.1]) ∧ Own .u8 5 W' W.heap.size v R.2.2 ∧ LN w W' c gn pb fm np' nf' R.1 ∧ np' ≤ np + 1 ∧ nf' ≤ nf + 1 ∧ Upd (fun k => k = pb ∨ k = fm) W W'
theorem LN.stp {w W : World} {c : Cf} {gn pb fm np nf : Nat} {L : List Bd} (h : LN w W c gn pb fm np nf L) (hc : c.ok) (hou : 0 ≤ c.ou ∧ c.ou ≤ 4294967295) (hn1 : np < 900000) (hn2 : nf < 900000) (ou : Bool) (xA : Option Addr) (xn xc : Nat) (ti po : Int) (l : List Int)
    (hr : Rd .u8 W W.heap.size xA xn l) (hlc : xn ≤ xc) (hcm : xc ≤ 9223372036854775807) (hl : xn ≤ 60000) :
    Calls Tryz.prog 22 #[.pointer (some ⟨gn, 0, none⟩), .agg #[.bool ou, .slice xA xn xc, .int .i64 ti, .int .i64 po]] W (StR w W c gn pb fm np nf (stepP c L ou l ti po)) := by
  refine (Step_any c gn pb fm np nf L ou xA xn xc ti po l W h.nm hc hou hn1 hn2 hr hlc hcm hl).mono ?_
  rintro e W' ⟨v, np', nf', rfl, hO, hM, h1, h2, hu⟩
  exact ⟨v, np', nf', rfl, hO, h.step hM hu, h1, h2, hu⟩
theorem LN.made {w W W' : World} {c : Cf} {e : Ending} (hb : Below w.heap.size w W) (h : NewR W c e W') : ∃ gn pb fm, e = .returned (.tuple #[.pointer (some ⟨gn, 0, none⟩), .int .i64 0]) ∧ LN w W' c gn pb fm 0 0 [] := by
  obtain ⟨gn, pb, fm, rfl, hm, hb2, h1, h2, h3⟩ := h
  have := hb.size
  exact ⟨gn, pb, fm, rfl, hm, by omega, by omega, by omega, bel_after hb hb2⟩
theorem LN.bnd {w W : World} {c : Cf} {gn pb fm np nf : Nat} {L : List Bd} (h : LN w W c gn pb fm np nf L) (hc : c.ok) (hnp : np ≤ 1000000) : Calls Tryz.prog 23 #[.pointer (some ⟨gn, 0, none⟩)] W fun e W' => ∃ v, e = .returned v ∧ OwnT BdL 6 63 W' W.heap.size v L ∧ LN w W' c gn pb fm np nf L ∧ Below W.heap.size W W' := by
  refine (Bindings_any c gn pb fm np nf L W h.nm hc hnp).mono ?_
  rintro e W' ⟨v, rfl, hO, hM, hb⟩
  exact ⟨v, rfl, hO, h.bel_ hb, hb⟩
theorem LN.exp {w W : World} {c : Cf} {gn pb fm np nf : Nat} {L : List Bd} (h : LN w W c gn pb fm np nf L) (hc : c.ok) (pr po ti : Int) : Calls Tryz.prog 27 #[.pointer (some ⟨gn, 0, none⟩), .int .i64 pr, .int .i64 po, .int .i64 ti] W fun e W' => e = .returned (.bool (expP c L pr po ti).2) ∧ LN w W' c gn pb fm np nf (expP c L pr po ti).1 ∧ Upd (fun k => k = pb ∨ k = fm) W W' := by
  refine (Expire_any c gn pb fm np nf L pr po ti W h.nm hc).mono ?_
  rintro e W' ⟨rfl, hM, hu⟩
  exact ⟨rfl, h.step hM hu, hu⟩
end Go.Proofs.YtbckoohljkmahaaGreat
namespace Go.Proofs.YtbckoohljkmahaaGreat
set_option linter.unusedVariables false
set_option linter.unusedSimpArgs false
open Go.RowKit Go.Maps
def bindB : Bd := ⟨⟨17, 167772161, 5⟩, 1000, 0, 3⟩
theorem bind_step : stepP (cfL 9) [] true (frameL 0 167772161 134744065 5 53 0 []) 3 1000 = ([bindB], 0, rwL (frameL 0 167772161 134744065 5 53 0 []) true 3221225985 1000) :=
  step_new (k := 0) (s := 167772161) (d := 134744065) (a := 5) (b := 53) (f := 0) (l := []) (by omega) (by omega) (by omega) (by omega) (fun x hx => by simp at hx) (by simp) (by omega) (cfL 9) [] 3 1000 (by omega) (by omega) (by omega) rfl (by decide) rfl
theorem bind_stay : expP (cfL 9) [bindB] 17 1000 122 = ([bindB], false) := by kernel_rfl
theorem bind_go : expP (cfL 9) [bindB] 17 1000 123 = ([], true) := by kernel_rfl
theorem Frame15_bind (W : World) : Calls Tryz.prog 12 #[.agg #[.bool true, .int .i64 0, .int .i64 0, .int .i64 0, .int .i64 0, .slice none 0 0, .int .i64 0, .int .u8 0, .int .i64 0]] W (Gives W (frameL 0 167772161 134744065 5 53 0 [])) :=
  Frame15_k 0 0 0 0 0 0 none 0 0 [] 0 0 0 0 0 W (Rd.nil _ _ _ _) (Nat.le_refl _) (by omega) rfl (Nat.le_refl _) rfl (by omega) rfl (by omega) rfl (by omega) rfl (by omega)
set_option maxRecDepth 100000 in
set_option maxHeartbeats 4000000 in
theorem binds_any (w : World) : Calls Tryz.prog 19 #[] w fun e w' => e = .returned (.bool true) ∧ Below w.heap.size w w' := by
  have hc : (cfL 9).ok := cfL_ok (by omega)
  have kT : ∀ W, Calls Tryz.prog 14 #[.agg #[.int .i64 1, .int .u32 3221225985, .int .i64 1000, .int .i64 1009, .int .i64 2, .int .i64 4]] W fun e w' => e = .returned (.agg #[.int .i64 1, .int .u32 3221225985, .int .i64 1000, .int .i64 1009, .int .i64 2, .int .i64 4]) ∧ Below W.heap.size W w' := fun W => To_any (cfL 9) W
  have kN : ∀ W, Calls Tryz.prog 20 #[.agg #[.int .i64 1, .int .u32 3221225985, .int .i64 1000, .int .i64 1009, .int .i64 2, .int .i64 4]] W (NewR W (cfL 9)) := fun W => New_ok (cfL 9) W hc
  obtain ⟨F, hF⟩ : ∃ F, frameL 0 167772161 134744065 5 53 0 [] = F := ⟨_, rfl⟩
  have hFl : 28 ≤ F.length ∧ F.length ≤ 130 := by rw [← hF]; exact frame_bd (by simp)
  have kF := Frame15_bind
  have hS := bind_step
  have hag0 := fun h8 => frame_again (k := 0) (s := 167772161) (d := 134744065) (a := 5) (b := 53) (f := 0) (l := []) (by omega) (by omega) (by omega) (by omega) (fun x hx => by simp at hx) (by simp) (by omega) true (ou := 3221225985) (po := 1000) h8 (by omega) (by omega)
  have hag := fun h8 => part_src (hag0 h8) gotP_err
  have hlen := fun h8 => (hag0 h8).len
  clear hag0
  rw [hF] at kF hS hag hlen
  obtain ⟨X, hX⟩ : ∃ X, rwL F true 3221225985 1000 = X := ⟨_, rfl⟩
  rw [hX] at hS hag hlen
  clear hF hX
  have hst := fun W gn pb fm xA xc (h : LN w W (cfL 9) gn pb fm 0 0 []) (hr : Rd .u8 W W.heap.size xA F.length F) (h1 : F.length ≤ xc) (h2 : xc ≤ maxLen) => h.stp hc (by decide) (by omega) (by omega) true xA F.length xc 3 1000 F hr h1 (by unfold maxLen at h2; omega) (by omega)
  rw [hS] at hst
  obtain ⟨n, hn⟩ : ∃ n, F.length = n := ⟨_, rfl⟩
  rw [hn] at hst hFl
  simp only [hn] at hlen
  unfold Gives at kF
  unfold StR at hst
  simp only at hst
  replace hc := Lib.hid hc
  replace kT := Lib.hid kT
  replace kN := Lib.hid kN
  replace kF := Lib.hid kF
  replace hst := Lib.hid hst
  replace hag := Lib.hid hag
  replace hlen := Lib.hid hlen
  replace hn := Lib.hid hn
  clear hS
  go_enter Tryz.func19, Tryz.ntmps19
  go_wp2_with fail
  refine (Config9 _).mono ?_
  rintro e W1 ⟨rfl, bel⟩
  go_wp2_with fail
  refine (kT.out _).mono ?_
  rintro e W2 ⟨rfl, hb⟩
  replace bel := bel_after bel hb
  clear hb kT
  go_wp2_with fail
  refine (kN.out _).mono ?_
  intro e W3 hN
  obtain ⟨gn, pb, fm, rfl, ln⟩ := LN.made bel hN
  clear hN bel kN
  go_wp2_with fail
  refine (kF.out _).mono ?_
  rintro e W4 ⟨v, rfl, own, hb⟩
  replace ln := ln.bel_ hb
  clear hb kF
  have h8 : Bytes8 F := fun x hx => inr_u8 (own.rng x hx)
  replace hag := hag.out h8
  replace hlen := hlen.out h8
  obtain ⟨A, cp, rfl, hc1, hc2, rd⟩ := own.form hn.out
  clear own
  go_wp2_with fail
  refine (hst.out _ _ _ _ _ _ ln rd hc1 hc2).mono ?_
  rintro e W5 ⟨v5, np, nf, rfl, own5, ln5, h1, h2, hu⟩
  clear hst ln rd hu
  have hXl : X.length = n := by have : (X.length : Int) = (n : Int) := hlen; omega
  clear hlen
  obtain ⟨A5, c5, rfl, hc51, hc52, rd5⟩ := own5.form hXl
  unfold maxLen at hc52
  clear own5
  have ba := (Blk.new W5 55 #[.slice none 0 0, .int .i64 0]).setRow #[.slice A5 n c5, .int .i64 0]
  have hbA : Below W5.heap.size W5 ((W5.alloc (.cells #[.slice none 0 0, .int .i64 0] 55)).setRow W5.heap.size #[.slice A5 n c5, .int .i64 0]) := below_setRow (bel_alloc _ _) (Nat.le_refl _) _
  go_upto_region 4 with (refine wpList_stRow rfl rfl rfl rfl rfl (Blk.new W5 _ _) an_size rfl (by simp [Value.oneCell']) ?_; generalize (W5.alloc (.cells #[.slice none 0 0, .int .i64 0] 55)).setRow W5.heap.size #[.slice A5 n c5, .int .i64 0] = W6 at *)
  replace ln5 := ln5.bel_ hbA
  replace rd5 := (rd5.below hbA).more hbA.size
  clear hbA
  generalize W5.heap.size = ga at *
  obtain ⟨⟨pr, sr, ds, fl, ki, co, er, ⟨i0, i1, i2, i3, i4, i5⟩, pat, bb⟩, hq, hqs, hqe⟩ := hag
  subst hqs hqe
  have kP := rPart_any X A5 n c5 W6 rd5 hc51 hc52 (by omega)
  rw [hq] at kP
  unfold PartT at kP
  simp only [Pt.val] at kP
  clear hq
  replace kP := Lib.hid kP
  have a0 := ba.cell 0
  go_wp2_with fail
  refine kP.out.mono ?_
  rintro e W7 ⟨rfl, hb⟩
  replace ba := ba.bel hb
  replace ln5 := ln5.bel_ hb
  clear hb kP a0 rd5
  have hlt := ba.lt
  have bp := (Blk.new W7 69 #[.int .i64 0, .int .u16 0, .int .u16 0, .int .i64 0, .int .i64 0, .int .i64 0, .bool false, .int .i64 0, .int .i64 0, .int .i64 0, .int .i64 0, .int .u32 0, .int .u32 0, .int .i64 0, .bool false]).setRow #[.int .i64 pr, .int .u16 1000, .int .u16 ds, .int .i64 fl, .int .i64 ki, .int .i64 co, .bool false, .int .i64 i0, .int .i64 i1, .int .i64 i2, .int .i64 i3, .int .u32 i4, .int .u32 i5, .int .i64 pat, .bool bb]
  have hbP : Below W7.heap.size W7 ((W7.alloc (.cells #[.int .i64 0, .int .u16 0, .int .u16 0, .int .i64 0, .int .i64 0, .int .i64 0, .bool false, .int .i64 0, .int .i64 0, .int .i64 0, .int .i64 0, .int .u32 0, .int .u32 0, .int .i64 0, .bool false] 69)).setRow W7.heap.size #[.int .i64 pr, .int .u16 1000, .int .u16 ds, .int .i64 fl, .int .i64 ki, .int .i64 co, .bool false, .int .i64 i0, .int .i64 i1, .int .i64 i2, .int .i64 i3, .int .u32 i4, .int .u32 i5, .int .i64 pat, .bool bb]) := below_setRow (bel_alloc _ _) (Nat.le_refl _) _
  go_upto_region 5 with (refine wpList_stRow rfl rfl rfl rfl rfl (Blk.new W7 _ _) rpt_size rfl (by simp [Value.oneCell']) ?_; generalize (W7.alloc (.cells #[.int .i64 0, .int .u16 0, .int .u16 0, .int .i64 0, .int .i64 0, .int .i64 0, .bool false, .int .i64 0, .int .i64 0, .int .i64 0, .int .i64 0, .int .u32 0, .int .u32 0, .int .i64 0, .bool false] 69)).setRow W7.heap.size #[.int .i64 pr, .int .u16 1000, .int .u16 ds, .int .i64 fl, .int .i64 ki, .int .i64 co, .bool false, .int .i64 i0, .int .i64 i1, .int .i64 i2, .int .i64 i3, .int .u32 i4, .int .u32 i5, .int .i64 pat, .bool bb] = W8 at *)
  replace ln5 := ln5.bel_ hbP
  replace ba := ba.bel hbP
  clear hbP hlt
  generalize W7.heap.size = gp at *
  have kB := ln5.bnd hc.out (by omega)
  replace kB := Lib.hid kB
  go_wp2_with fail
  refine kB.out.mono ?_
  rintro e W9 ⟨v9, rfl, own9, ln9, hb⟩
  replace ba := ba.bel hb
  replace bp := bp.bel hb
  clear hb kB ln5
  obtain ⟨g, c9, rfl, hc91, hc92, hg1, hg2, cur, hcur⟩ := own9.formG (n := 1) rfl (by omega)
  have q5 : W9.cell? ⟨g, 5, none⟩ = some (.int .i64 3) := own9.at_ BdL_len (j := 0) (x := bindB) rfl (f := 5) rfl
  have a1 := ba.cell 1
  have p1 := bp.cell 1
  have kE := ln9.exp hc.out 17 1000 122
  rw [bind_stay] at kE
  simp only at kE
  replace kE := Lib.hid kE
  go_wp2_with fail
  refine kE.out.mono ?_
  rintro e W10 ⟨rfl, ln10, hu⟩
  clear kE hu a1 p1 q5 ln9 own9 ba bp hcur
  have kE := ln10.exp hc.out 17 1000 123
  rw [bind_go] at kE
  simp only at kE
  replace kE := Lib.hid kE
  go_wp2_with fail
  refine kE.out.mono ?_
  rintro e W11 ⟨rfl, ln11, hu⟩
  clear kE hu ln10
  have kB := ln11.bnd hc.out (by omega)
  replace kB := Lib.hid kB
  go_wp2_with fail
  refine kB.out.mono ?_
  rintro e W12 ⟨v12, rfl, own12, ln12, hb⟩
  obtain ⟨A12, c12, rfl, _, _⟩ := own12.form (n := 0) rfl
  go_wp2_with fail
  go_ret
  exact ⟨rfl, ln12.bel⟩
end Go.Proofs.YtbckoohljkmahaaGreat
namespace Go.Proofs.YtbckoohljkmahaaGreat
set_option linter.unusedVariables false
set_option linter.unusedSimpArgs false
open Go.RowKit
theorem LN.updB {w W W' : World} {c : Cf} {gn pb fm np nf : Nat} {L : List Bd} {S : Nat → Prop} (h : LN w W c gn pb fm np nf L) (hu : Upd S W W') (hS : ∀ k, S k → w.heap.size ≤ k) (h1 : ¬ S gn) (h2 : ¬ S pb) (h3 : ¬ S fm) : LN w W' c gn pb fm np nf L :=
  ⟨⟨h.nm.obj.upd hu h1, h.nm.pl.upd hu h2, h.nm.fl.upd hu h3, h.nm.ne, h.nm.inv⟩, h.hg, h.hp, h.hf, h.bel.trans (hu.below h.bel.size (fun k hk hs => by have := hS k hs; omega))⟩
abbrev BkL := List (Nat × TypeId × Array Value)
abbrev OwL := List (Value × List Int)
structure Ev (w W : World) (c : Cf) (gn pb fm np nf : Nat) (L : List Bd) (bs : BkL) (os : OwL) : Prop where
  ln : LN w W c gn pb fm np nf L
  bs : ∀ x, x ∈ bs → Blk W x.1 x.2.1 x.2.2
  os : ∀ x, x ∈ os → Own .u8 5 W w.heap.size x.1 x.2
section
variable {w W W' : World} {c : Cf} {gn pb fm np nf : Nat} {L : List Bd} {bs : BkL} {os : OwL}
theorem Ev.bel (h : Ev w W c gn pb fm np nf L bs os) (hb : Below W.heap.size W W') : Ev w W' c gn pb fm np nf L bs os := ⟨h.ln.bel_ hb, fun x hx => (h.bs x hx).bel hb, fun x hx => (h.os x hx).below hb⟩
theorem Ev.drew (h : Ev w W c gn pb fm np nf L bs os) : Ev w W.drew c gn pb fm np nf L bs os := h.bel (Below.refl _ _).drew
theorem Ev.blk (h : Ev w W c gn pb fm np nf L bs os) (i : Nat) {g : Nat} {t : TypeId} {cs : Array Value} (hi : bs[i]? = some (g, t, cs)) : Blk W g t cs := h.bs (g, t, cs) (List.mem_of_getElem? hi)
theorem Ev.own (h : Ev w W c gn pb fm np nf L bs os) (i : Nat) {v : Value} {l : List Int} (hi : os[i]? = some (v, l)) : Own .u8 5 W w.heap.size v l := h.os (v, l) (List.mem_of_getElem? hi)
theorem Ev.base (h : Ev w W c gn pb fm np nf L bs os) : w.heap.size ≤ W.heap.size := h.ln.bel.size
theorem Ev.row (h : Ev w W c gn pb fm np nf L bs os) (hb : Below W.heap.size W W') {v : Value} {l : List Int} (ho : Own .u8 5 W' W.heap.size v l) : Ev w W' c gn pb fm np nf L bs ((v, l) :: os) :=
  ⟨(h.bel hb).ln, (h.bel hb).bs, fun x hx => by
    rcases List.mem_cons.1 hx with rfl | hx
    · exact ho.mono_ h.base
    · exact (h.bel hb).os x hx⟩
theorem Ev.new0 (h : Ev w W c gn pb fm np nf L bs os) (t : TypeId) (cs : Array Value) : Ev w (W.alloc (.cells cs t)) c gn pb fm np nf L ((W.heap.size, t, cs) :: bs) os :=
  ⟨(h.bel (bel_alloc _ _)).ln, fun x hx => by
    rcases List.mem_cons.1 hx with rfl | hx
    · exact Blk.new W t cs
    · exact (h.bel (bel_alloc _ _)).bs x hx, (h.bel (bel_alloc _ _)).os⟩
theorem Ev.new (h : Ev w W c gn pb fm np nf L bs os) (t : TypeId) (z cs : Array Value) : Ev w ((W.alloc (.cells z t)).setRow W.heap.size cs) c gn pb fm np nf L ((W.heap.size, t, cs) :: bs) os := by
  have hb : Below W.heap.size W ((W.alloc (.cells z t)).setRow W.heap.size cs) := below_setRow (bel_alloc _ _) (Nat.le_refl _) _
  refine ⟨(h.bel hb).ln, fun x hx => ?_, (h.bel hb).os⟩
  rcases List.mem_cons.1 hx with rfl | hx
  · exact (Blk.new W t z).setRow cs
  · exact (h.bel hb).bs x hx
theorem Ev.upd {np' nf' : Nat} {L' : List Bd} (h : Ev w W c gn pb fm np nf L bs os) (hl : LN w W' c gn pb fm np' nf' L') (hu : Upd (fun k => k = pb ∨ k = fm) W W') : Ev w W' c gn pb fm np' nf' L' bs os :=
  ⟨hl, fun x hx => h.ln.nm.keepB (h.bs x hx) hu, fun x hx => h.ln.nm.ownU (h.os x hx) hu⟩
theorem Ev.stp (h : Ev w W c gn pb fm np nf L bs os) (hc : c.ok) (hou : 0 ≤ c.ou ∧ c.ou ≤ 4294967295) (hn1 : np < 900000) (hn2 : nf < 900000) (ou : Bool) (xA : Option Addr) (xn xc : Nat) (ti po : Int) (l : List Int)
    (hr : Rd .u8 W W.heap.size xA xn l) (hlc : xn ≤ xc) (hcm : xc ≤ 9223372036854775807) (hl : xn ≤ 60000) {R : List Bd × Int × List Int} (hR : stepP c L ou l ti po = R) :
    Calls Tryz.prog 22 #[.pointer (some ⟨gn, 0, none⟩), .agg #[.bool ou, .slice xA xn xc, .int .i64 ti, .int .i64 po]] W fun e W' => ∃ A n cp np' nf', e = .returned (.agg #[.slice A n cp, .int .i64 R.2.1]) ∧ R.2.2.length = n ∧ n ≤ cp ∧ cp ≤ 9223372036854775807 ∧ Ev w W' c gn pb fm np' nf' R.1 bs ((.slice A n cp, R.2.2) :: os) ∧ np' ≤ np + 1 ∧ nf' ≤ nf + 1 ∧ W.heap.size ≤ W'.heap.size ∧ Upd (fun k => k = pb ∨ k = fm) W W' := by
  refine (h.ln.stp hc hou hn1 hn2 ou xA xn xc ti po l hr hlc hcm hl).mono ?_
  rintro e W' ⟨v, np', nf', rfl, hO, hl', h1, h2, hu⟩
  rw [hR] at *
  obtain ⟨A, cp, rfl, h3, h4, _⟩ := hO.form rfl
  unfold maxLen at h4
  have h5 := h.upd hl' hu
  refine ⟨A, _, cp, np', nf', rfl, rfl, h3, by omega, ⟨h5.ln, h5.bs, fun x hx => ?_⟩, h1, h2, hu.size, hu⟩
  rcases List.mem_cons.1 hx with rfl | hx
  · exact hO.mono_ h.base
  · exact h5.os x hx
theorem Ev.rd (h : Ev w W c gn pb fm np nf L bs os) (i : Nat) {A : Option Addr} {n cp : Nat} {l : List Int} (hi : os[i]? = some (.slice A n cp, l)) (hn : l.length = n) : Rd .u8 W W.heap.size A n l := (h.own i hi).rdS hn
theorem Ev.b8 (h : Ev w W c gn pb fm np nf L bs os) (i : Nat) {v : Value} {l : List Int} (hi : os[i]? = some (v, l)) : Bytes8 l := fun x hx => inr_u8 ((h.own i hi).rng x hx)
end
end Go.Proofs.YtbckoohljkmahaaGreat
namespace Go.Proofs.YtbckoohljkmahaaGreat
set_option linter.unusedVariables false
set_option linter.unusedSimpArgs false
open Go.RowKit
theorem tm2 (x : Int) : ∃ k : Nat, k < 2 ∧ (IntKind.u64.wrap (x.tmod 2)).tmod 7 = (k : Int) := by
  have h : x.tmod 2 = 0 ∨ x.tmod 2 = 1 ∨ x.tmod 2 = -1 := by
    rcases Int.le_total 0 x with h | h
    · rw [Int.tmod_eq_emod_of_nonneg h]; omega
    · have h2 : x.tmod 2 = -((-x).tmod 2) := by rw [Int.neg_tmod]; omega
      rw [h2, Int.tmod_eq_emod_of_nonneg (by omega)]; omega
  rcases h with h | h | h <;> rw [h]
  · exact ⟨0, by omega, rfl⟩
  · exact ⟨1, by omega, rfl⟩
  · exact ⟨1, by omega, rfl⟩
theorem place39 {k : Nat} (hk : k < 3) {po : Int} (h : 1000 ≤ po ∧ po ≤ 1039) : 0 ≤ placeP (cfL 39) (carP k) po := by
  have hx := carP_kind hk po (cfL 39) (by show (1000 : Int) ≤ po ∧ po ≤ 1000 + 39; omega)
  have hn : (cfL 39).n = 40 := rfl
  have hl : (cfL 39).lo = 1000 := rfl
  rw [hx.1, hn, hl]
  omega
theorem keyB_mk (c : Cf) (f : Fl) (p t s : Int) : keyB c ⟨f, p, t, s⟩ = placeP c f.pr p := rfl
section
variable {k1 k2 : Nat} {s1 d1 a1 b1 s2 d2 a2 b2 : Int} {l1 l2 : List Int}
theorem bk_two (hs : 0 ≤ s2 ∧ s2 ≤ 4294967295) (hd : 0 ≤ d2 ∧ d2 ≤ 4294967295) (ha : 0 ≤ a2 ∧ a2 ≤ 65535) (hb : 0 ≤ b2 ∧ b2 ≤ 65535) (hl : Bytes8 l2) (hn : l2.length ≤ 40) (hk1 : k1 < 3) (hk2 : k2 < 3) :
    ∃ (L2 : List Bd) (po : Int) (x : Bd), stepP (cfL 39) [⟨⟨carP k1, s1, a1⟩, 1003, 0, 1⟩] true (frameL k2 s2 d2 a2 b2 2 l2) 2 1005 = (L2, 0, rwL (frameL k2 s2 d2 a2 b2 2 l2) true 3221225985 po) ∧
      (po = 1005 ∨ (po = 1003 ∧ (⟨carP k1, s1, a1⟩ : Fl) = ⟨carP k2, s2, a2⟩)) ∧ x.fl = ⟨carP k1, s1, a1⟩ ∧ x ∈ L2 ∧ keyB (cfL 39) x = placeP (cfL 39) (carP k1) 1003 := by
  by_cases he : (⟨carP k1, s1, a1⟩ : Fl) = ⟨carP k2, s2, a2⟩
  · have h := step_old (k := k2) (s := s2) (d := d2) (a := a2) (b := b2) (f := 2) (l := l2) hs hd ha hb hl hn hk2 (cfL 39) [⟨⟨carP k1, s1, a1⟩, 1003, 0, 1⟩] ⟨⟨carP k1, s1, a1⟩, 1003, 0, 1⟩ 2 1005 (by omega) (by rw [← he]; exact ofB_one (b := ⟨⟨carP k1, s1, a1⟩, 1003, 0, 1⟩))
    rw [putB_one (seenB_key _ _ _)] at h
    exact ⟨_, 1003, _, h, .inr ⟨rfl, he⟩, rfl, List.mem_singleton.2 rfl, rfl⟩
  · have hno : ofB (⟨carP k2, s2, a2⟩ : Fl) [⟨⟨carP k1, s1, a1⟩, 1003, 0, 1⟩] = none := by
      unfold ofB
      simp only [List.find?_cons, List.find?_nil]
      rw [decide_eq_false he]
    have hpl := place39 hk2 (po := 1005) (by omega)
    have hne : placeP (cfL 39) (carP k1) 1003 ≠ placeP (cfL 39) (carP k2) 1005 := fun e => by
      have := placeP_inj e (place39 hk1 (by omega))
      exact absurd this.2 (by omega)
    have hat : atB (cfL 39) (placeP (cfL 39) (carP k2) 1005) [⟨⟨carP k1, s1, a1⟩, 1003, 0, 1⟩] = none := by
      unfold atB
      simp only [List.find?_cons, List.find?_nil, keyB_mk]
      rw [beq_false_of_ne hne]
    have h := step_new (k := k2) (s := s2) (d := d2) (a := a2) (b := b2) (f := 2) (l := l2) hs hd ha hb hl hn hk2 (cfL 39) [⟨⟨carP k1, s1, a1⟩, 1003, 0, 1⟩] 2 1005 (fun _ => rfl) (by omega) (by omega) hno hpl hat
    exact ⟨_, 1005, ⟨⟨carP k1, s1, a1⟩, 1003, 0, 1⟩, h, .inl rfl, rfl, mem_putB.2 (.inr ⟨by simp, by rw [keyB_mk, keyB_mk]; exact hne⟩), rfl⟩
end
theorem part_back {k : Nat} {a b f : Int} (hk : k < 2) {X Y : List Int} {h : Hd} {x y : Int} (g : Again X Y h (gotP k a b f) false x y) : ∃ q : Pt, partI Y = (q, true) ∧ q.dst = y ∧ q.src = a ∧ q.err = false := by
  refine ⟨_, part_again g, (chP_dst gotP_err x y).1, ?_, (chP_dst gotP_err x y).2⟩
  rw [chP_plain gotP_err, gotP_proto]
  have h : k = 0 ∨ k = 1 := by omega
  rcases h with rfl | rfl <;> rfl
end Go.Proofs.YtbckoohljkmahaaGreat
