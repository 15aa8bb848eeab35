/- What the laws' proofs lean on: plain facts and contracts of the program's functions, laid together (4). -/
import Derived.Shelf.SlIterI.Nil
import Derived.Shelf.SortM.Plain
import Derived.Shelf.SortM.SortNone
import Derived.Test.YtbckoohljkmahaaGreatProg
import Derived.Test.YtbckoohljkmahaaGreatPE01
import Derived.Test.YtbckoohljkmahaaGreatPE03
namespace Go.Proofs.YtbckoohljkmahaaGreat
set_option linter.unusedVariables false
set_option linter.unusedSimpArgs false
open Go.Shelf
def keysA_ren : Go.Shelf.Ren := ⟨fun | 7 => 53 | 10 => 81 | n => n, fun | 23 => 114 | 26 => 3 | 3 => 63 | 28 => 127 | 0 => 0 | 27 => 126 | 33 => 152 | 4 => 4 | n => n, fun | n => n⟩
theorem keysA : Go.Proofs.SlLaysZI.n7 Tryz.prog keysA_ren := {
  mixed := by kernel_rfl
  f7 := ⟨Tryz.f53.name, by decide, Tryz.func53.trans (congrArg some (by kernel_rfl))⟩
  f10 := ⟨Tryz.f81.name, by decide, Tryz.func81.trans (congrArg some (by kernel_rfl))⟩
  t0 := Tryz.underlying0
  a0 := Tryz.isAgg0
  z0 := Tryz.sizeOf0
  v0 := Tryz.zeroValue0
  t4 := Tryz.underlying4
  a4 := Tryz.isAgg4
  z4 := Tryz.sizeOf4
  v4 := Tryz.zeroValue4
  t23 := Tryz.underlying114
  a23 := Tryz.isAgg114
  z23 := Tryz.sizeOf114
  v23 := Tryz.zeroValue114
  t26 := Tryz.underlying3
  a26 := Tryz.isAgg3
  z26 := Tryz.sizeOf3
  v26 := Tryz.zeroValue3
  t27 := Tryz.underlying126
  a27 := Tryz.isAgg126
  z27 := Tryz.sizeOf126
  v27 := Tryz.zeroValue126
  t28 := Tryz.underlying127
  a28 := Tryz.isAgg127
  z28 := Tryz.sizeOf127
  v28 := Tryz.zeroValue127
  t33 := Tryz.underlying152
  a33 := Tryz.isAgg152
  z33 := Tryz.sizeOf152
  v33 := Tryz.zeroValue152 }

def sortedA_ren : Go.Shelf.Ren := ⟨fun | 6 => 52 | 8 => 79 | 9 => 80 | 11 => 107 | 13 => 109 | 12 => 108 | 23 => 137 | 24 => 138 | 14 => 128 | 15 => 129 | 16 => 130 | 17 => 131 | 18 => 132 | 19 => 133 | 20 => 134 | 21 => 135 | 22 => 136 | 25 => 143 | 26 => 144 | 27 => 145 | 28 => 146 | 29 => 147 | 30 => 148 | 31 => 149 | n => n, fun | 26 => 3 | 28 => 127 | 24 => 77 | 0 => 0 | 3 => 3 | 37 => 133 | 48 => 25 | 50 => 78 | 4 => 4 | 40 => 191 | 39 => 190 | 45 => 147 | 5 => 5 | 9 => 9 | 51 => 200 | 55 => 204 | 57 => 206 | 58 => 207 | 33 => 152 | n => n, fun | n => n⟩
theorem sortedA : Go.Proofs.SlLaysZI.n6 Tryz.prog sortedA_ren := {
  mixed := by kernel_rfl
  f6 := ⟨Tryz.f52.name, by decide, Tryz.func52.trans (congrArg some (by kernel_rfl))⟩
  f8 := ⟨Tryz.f79.name, by decide, Tryz.func79.trans (congrArg some (by kernel_rfl))⟩
  f11 := ⟨Tryz.f107.name, by decide, Tryz.func107.trans (congrArg some (by kernel_rfl))⟩
  t0 := Tryz.underlying0
  a0 := Tryz.isAgg0
  z0 := Tryz.sizeOf0
  v0 := Tryz.zeroValue0
  t24 := Tryz.underlying77
  a24 := Tryz.isAgg77
  z24 := Tryz.sizeOf77
  v24 := Tryz.zeroValue77
  t26 := Tryz.underlying3
  a26 := Tryz.isAgg3
  z26 := Tryz.sizeOf3
  v26 := Tryz.zeroValue3
  t28 := Tryz.underlying127
  a28 := Tryz.isAgg127
  z28 := Tryz.sizeOf127
  v28 := Tryz.zeroValue127
  i26 := by kernel_rfl }

def sortA_ren : Go.Shelf.Ren := ⟨fun | 5 => 80 | 8 => 109 | 7 => 108 | 19 => 137 | 20 => 138 | 10 => 128 | 11 => 129 | 12 => 130 | 13 => 131 | 14 => 132 | 15 => 133 | 16 => 134 | 17 => 135 | 18 => 136 | 30 => 143 | 31 => 144 | 32 => 145 | 33 => 146 | 34 => 147 | 35 => 148 | 40 => 149 | n => n, fun | 23 => 77 | 25 => 3 | 3 => 3 | 32 => 133 | 22 => 77 | 0 => 0 | 44 => 25 | 46 => 78 | 4 => 4 | 36 => 191 | 35 => 190 | 41 => 147 | 5 => 5 | 9 => 9 | 53 => 200 | 57 => 204 | 63 => 206 | 64 => 207 | n => n, fun | n => n⟩
theorem sortA : Go.Proofs.SlLaysM.n5 Tryz.prog sortA_ren := {
  mixed := by kernel_rfl
  f5 := ⟨Tryz.f80.name, by decide, Tryz.func80.trans (congrArg some (by kernel_rfl))⟩
  f7 := ⟨Tryz.f108.name, by decide, Tryz.func108.trans (congrArg some (by kernel_rfl))⟩
  f8 := Tryz.func109.trans (congrArg some (by kernel_rfl))
  f10 := ⟨Tryz.f128.name, by decide, Tryz.func128.trans (congrArg some (by kernel_rfl))⟩
  f11 := ⟨Tryz.f129.name, by decide, Tryz.func129.trans (congrArg some (by kernel_rfl))⟩
  f12 := ⟨Tryz.f130.name, by decide, Tryz.func130.trans (congrArg some (by kernel_rfl))⟩
  f13 := ⟨Tryz.f131.name, by decide, Tryz.func131.trans (congrArg some (by kernel_rfl))⟩
  f14 := ⟨Tryz.f132.name, by decide, Tryz.func132.trans (congrArg some (by kernel_rfl))⟩
  f15 := ⟨Tryz.f133.name, by decide, Tryz.func133.trans (congrArg some (by kernel_rfl))⟩
  f16 := ⟨Tryz.f134.name, by decide, Tryz.func134.trans (congrArg some (by kernel_rfl))⟩
  f17 := ⟨Tryz.f135.name, by decide, Tryz.func135.trans (congrArg some (by kernel_rfl))⟩
  f18 := ⟨Tryz.f136.name, by decide, Tryz.func136.trans (congrArg some (by kernel_rfl))⟩
  f19 := Tryz.func137.trans (congrArg some (by kernel_rfl))
  f20 := Tryz.func138.trans (congrArg some (by kernel_rfl))
  f30 := ⟨Tryz.f143.name, by decide, Tryz.func143.trans (congrArg some (by kernel_rfl))⟩
  f31 := Tryz.func144.trans (congrArg some (by kernel_rfl))
  f32 := Tryz.func145.trans (congrArg some (by kernel_rfl))
  f33 := ⟨Tryz.f146.name, by decide, Tryz.func146.trans (congrArg some (by kernel_rfl))⟩
  f34 := ⟨Tryz.f147.name, by decide, Tryz.func147.trans (congrArg some (by kernel_rfl))⟩
  f35 := ⟨Tryz.f148.name, by decide, Tryz.func148.trans (congrArg some (by kernel_rfl))⟩
  f40 := ⟨Tryz.f149.name, by decide, Tryz.func149.trans (congrArg some (by kernel_rfl))⟩
  t0 := Tryz.underlying0
  a0 := Tryz.isAgg0
  z0 := Tryz.sizeOf0
  v0 := Tryz.zeroValue0
  t3 := Tryz.underlying3
  a3 := Tryz.isAgg3
  z3 := Tryz.sizeOf3
  v3 := Tryz.zeroValue3
  t4 := Tryz.underlying4
  a4 := Tryz.isAgg4
  z4 := Tryz.sizeOf4
  v4 := Tryz.zeroValue4
  t5 := Tryz.underlying5
  a5 := Tryz.isAgg5
  z5 := Tryz.sizeOf5
  v5 := Tryz.zeroValue5
  t9 := Tryz.underlying9
  a9 := Tryz.isAgg9
  z9 := Tryz.sizeOf9
  v9 := Tryz.zeroValue9
  t22 := Tryz.underlying77
  a22 := Tryz.isAgg77
  z22 := Tryz.sizeOf77
  v22 := Tryz.zeroValue77
  t23 := Tryz.underlying77
  a23 := Tryz.isAgg77
  z23 := Tryz.sizeOf77
  v23 := Tryz.zeroValue77
  t25 := Tryz.underlying3
  a25 := Tryz.isAgg3
  z25 := Tryz.sizeOf3
  v25 := Tryz.zeroValue3
  t32 := Tryz.underlying133
  a32 := Tryz.isAgg133
  z32 := Tryz.sizeOf133
  v32 := Tryz.zeroValue133
  t35 := Tryz.underlying190
  a35 := Tryz.isAgg190
  z35 := Tryz.sizeOf190
  v35 := Tryz.zeroValue190
  t36 := Tryz.underlying191
  a36 := Tryz.isAgg191
  z36 := Tryz.sizeOf191
  v36 := Tryz.zeroValue191
  t41 := Tryz.underlying147
  a41 := Tryz.isAgg147
  z41 := Tryz.sizeOf147
  v41 := Tryz.zeroValue147
  t44 := Tryz.underlying25
  a44 := Tryz.isAgg25
  z44 := Tryz.sizeOf25
  v44 := Tryz.zeroValue25
  t46 := Tryz.underlying78
  a46 := Tryz.isAgg78
  z46 := Tryz.sizeOf78
  v46 := Tryz.zeroValue78
  t53 := Tryz.underlying200
  a53 := Tryz.isAgg200
  z53 := Tryz.sizeOf200
  v53 := Tryz.zeroValue200
  t57 := Tryz.underlying204
  a57 := Tryz.isAgg204
  z57 := Tryz.sizeOf204
  v57 := Tryz.zeroValue204
  t63 := Tryz.underlying206
  a63 := Tryz.isAgg206
  z63 := Tryz.sizeOf206
  v63 := Tryz.zeroValue206
  t64 := Tryz.underlying207
  a64 := Tryz.isAgg207
  z64 := Tryz.sizeOf207
  v64 := Tryz.zeroValue207 }

end Go.Proofs.YtbckoohljkmahaaGreat
namespace Go.Proofs.YtbckoohljkmahaaGreat
set_option linter.unusedVariables false
set_option linter.unusedSimpArgs false
open Go.RowKit Go.Maps Go.Sort Go.Shelf
theorem sortsA (m : Nat) : AnyZI.SortsIn Tryz.prog sortedA_ren Fence.wide m :=
  ⟨fun blk off cap ss W hH hblk hsz => callsIn_wide.2 (AnyM.slices_Sort_int sortA blk off cap ss W hH hblk hsz),
   fun p cap W => callsIn_wide.2 (AnyM.slices_Sort_int_none sortA p cap W)⟩
theorem keys_eB (c : Cf) (L : List Bd) : intKeys (.map (eB c L) : DataW Value) = L.map (keyB c) := by
  simp [intKeys, eB, Go.intOf, Function.comp_def]
theorem sorted_keys {c : Cf} {L : List Bd} (h : LInv c L) {ss : List Int} (hp : ss.Perm (L.map (keyB c))) : ss.mergeSort (fun x y => decide (x ≤ y)) = L.map (keyB c) := by
  have tr : ∀ a b c : Int, leI a b = true → leI b c = true → leI a c = true := fun a b c h1 h2 => by simp only [leI, decide_eq_true_eq] at *; omega
  have tot : ∀ a b : Int, (leI a b || leI b a) = true := fun a b => by simp only [leI, Bool.or_eq_true, decide_eq_true_eq]; omega
  refine List.Perm.eq_of_pairwise (le := fun a b => leI a b = true) (fun a b _ _ h1 h2 => ?_) (List.pairwise_mergeSort tr tot ss) ?_ ((List.mergeSort_perm ss leI).trans hp)
  · simp only [leI, decide_eq_true_eq] at h1 h2; omega
  · refine List.pairwise_map.2 (h.srt.imp fun {a b} hab => ?_)
    simp only [leI, decide_eq_true_eq]; omega
set_option maxRecDepth 100000 in
theorem keys_any (c : Cf) (gn pb fm np nf : Nat) (L : List Bd) (hc : c.ok) (hnp : np ≤ 1000000) (W : World) (hm : NatM W c gn pb fm np nf L) :
    Calls Tryz.prog 53 #[.map (some pb)] W (KeysR c L W) := by
  have hk : CallsIn Fence.wide 5 Tryz.prog 53 #[.map (some pb)] W _ := AnyZI.keys_in keysA Fence.wide 5 trivial rfl (some pb) W
  refine (callsIn_wide.1 hk).mono ?_
  rintro e W1 ⟨rfl, rfl⟩
  refine ⟨_, rfl, bel_alloc _ _, ?_⟩
  have hpl := hm.pl.bel (bel_alloc W (.cells #[.map (some pb)] (keysA_ren.t 23)))
  have hseq : SeqGives Fence.wide 2 Tryz.prog (keysA_ren.f 10) #[.pointer (some ⟨W.heap.size, 0, none⟩)] encZ (fun ss => ss.Perm (intKeys (.map (eB c L) : DataW Value))) (Maps.size (.map (eB c L) : DataW Value)) (W.alloc (.cells #[.map (some pb)] (keysA_ren.t 23))) :=
    AnyZI.keys_gives (ρ := keysA_ren) { keysA with } Fence.wide _ trivial rfl (by omega) W.heap.size pb np _ _ (by simp) (by simp) hpl.own
  have hlen := hm.pl.len
  have hsz : Maps.size (.map (eB c L) : DataW Value) = L.length := by simp [Maps.size, eB]
  have hS := AnyZI.sorted_in sortedA Fence.wide 5 trivial trivial trivial trivial rfl (by omega) (sortsA _) (enters_of Tryz.func80 (by kernel_rfl) rfl) (keysA_ren.f 10) #[.pointer (some ⟨W.heap.size, 0, none⟩)] trivial (enters_of Tryz.func81 (by kernel_rfl) rfl) _ _ (by rw [hsz]; unfold maxLen; omega) (by rw [hsz]; omega) _ hseq
  change CallsIn _ _ Tryz.prog 52 _ _ _ at hS
  refine (callsIn_wide.1 hS).mono ?_
  rintro e W2 ⟨v, ss, rfl, hp, hrow, _, hb⟩
  rw [keys_eB] at hp
  have hl : ss.length = L.length := by rw [hp.length_eq, List.length_map]
  rw [sorted_keys hm.inv hp, hl] at hrow
  have hown : Own .i64 3 W2 (W.alloc (.cells #[.map (some pb)] (keysA_ren.t 23))).heap.size v (L.map (keyB c)) := ⟨by rw [List.length_map]; exact hrow, fun x hx => by
    obtain ⟨b, hb, rfl⟩ := List.mem_map.1 hx
    exact keyB_rng hc b⟩
  obtain ⟨A, cp, rfl, h1, h2, h3⟩ := hown.form (n := L.length) (List.length_map ..)
  exact ⟨A, cp, rfl, h1, h3, hb⟩
theorem Bindings_any (c : Cf) (gn pb fm np nf : Nat) (L : List Bd) (w : World) (hm : NatM w c gn pb fm np nf L) (hc : c.ok) (hnp : np ≤ 1000000) :
    Calls Tryz.prog 23 #[.pointer (some ⟨gn, 0, none⟩)] w (BndR w c gn pb fm np nf L) :=
  Bindings_of c gn pb fm np nf L w hm hc hnp (fun W hM => keys_any c gn pb fm np nf L hc hnp W hM)
end Go.Proofs.YtbckoohljkmahaaGreat
namespace Go.Proofs.YtbckoohljkmahaaGreat
set_option linter.unusedVariables false
set_option linter.unusedSimpArgs false
open Go.RowKit Go.Maps
structure LN (w W : World) (c : Cf) (gn pb fm np nf : Nat) (L : List Bd) : Prop where
  nm : NatM W c gn pb fm np nf L
  hg : w.heap.size ≤ gn
  hp : w.heap.size ≤ pb
  hf : w.heap.size ≤ fm
  bel : Below w.heap.size w W
section
variable {w W W' : World} {c : Cf} {gn pb fm np nf np' nf' : Nat} {L L' : List Bd}
theorem NatM.notU (h : NatM W c gn pb fm np nf L) {g : Nat} {cur : Array Value} {t : TypeId} {q : Nat × Nat} (hb : W.heap[g]? = some (.cells cur t q)) : ¬ (g = pb ∨ g = fm) := by
  rintro (e | e)
  · obtain ⟨es, clock, h1, _⟩ := h.pl.own
    rw [e, h1] at hb; cases hb
  · obtain ⟨D, ⟨es, clock, h1, _⟩, _⟩ := h.fl.ex
    rw [e, h1] at hb; cases hb
theorem NatM.ownU (h : NatM W c gn pb fm np nf L) {k : IntKind} {e : TypeId} {base : Nat} {v : Value} {l : List Int} (ho : Own k e W base v l) (hu : Upd (fun k => k = pb ∨ k = fm) W W') : Own k e W' base v l := by
  refine ho.upd hu (fun g hg => ?_)
  rcases ho.row.2 with ⟨rfl, _⟩ | ⟨g', cap, cur, rfl, _, hgg, _⟩
  · simp [Value.ownBlock] at hg
  · simp only [Value.ownBlock, Option.some.injEq] at hg
    subst hg
    exact h.notU hgg
theorem NatM.ownTU (h : NatM W c gn pb fm np nf L) {α : Type} {cs : α → List Value} {sz : Nat} {e : TypeId} {base : Nat} {v : Value} {l : List α} (ho : OwnT cs sz e W base v l) (hu : Upd (fun k => k = pb ∨ k = fm) W W') : OwnT cs sz e W' base v l := by
  refine ho.upd hu (fun g hg => ?_)
  rcases ho.row.2 with ⟨rfl, _⟩ | ⟨g', cap, cur, rfl, _, hgg, _⟩
  · simp [Value.ownBlock] at hg
  · simp only [Value.ownBlock, Option.some.injEq] at hg
    subst hg
    exact h.notU hgg
theorem LN.bel_ (h : LN w W c gn pb fm np nf L) (hb : Below W.heap.size W W') : LN w W' c gn pb fm np nf L := ⟨h.nm.bel_ hb, h.hg, h.hp, h.hf, bel_after h.bel hb⟩
theorem LN.step (h : LN w W c gn pb fm np nf L) (hm : NatM W' c gn pb fm np' nf' L') (hu : Upd (fun k => k = pb ∨ k = fm) W W') : LN w W' c gn pb fm np' nf' L' :=
  ⟨hm, h.hg, h.hp, h.hf, h.bel.trans (hu.below h.bel.size (fun k hk hS => by
    have h1 := h.hp
    have h2 := h.hf
    rcases hS with e | e <;> omega))⟩
end
def StR (w W : World) (c : Cf) (gn pb fm np nf : Nat) (R : List Bd × Int × List Int) (e : Ending) (W' : World) : Prop :=
  ∃ v np' nf', e = .returned (.agg #[v, .int .i64 R.2.1]) ∧ Own .u8 5 W' W.heap.size v R.2.2 ∧ LN w W' c gn pb fm np' nf' R.1 ∧ np' ≤ np + 1 ∧ nf' ≤ nf + 1 ∧ Upd (fun k => k = pb ∨ k = fm) W W'
theorem LN.stp {w W : World} {c : Cf} {gn pb fm np nf : Nat} {L : List Bd} (h : LN w W c gn pb fm np nf L) (hc : c.ok) (hou : 0 ≤ c.ou ∧ c.ou ≤ 4294967295) (hn1 : np < 900000) (hn2 : nf < 900000) (ou : Bool) (xA : Option Addr) (xn xc : Nat) (ti po : Int) (l : List Int)
    (hr : Rd .u8 W W.heap.size xA xn l) (hlc : xn ≤ xc) (hcm : xc ≤ 9223372036854775807) (hl : xn ≤ 60000) :
    Calls Tryz.prog 22 #[.pointer (some ⟨gn, 0, none⟩), .agg #[.bool ou, .slice xA xn xc, .int .i64 ti, .int .i64 po]] W (StR w W c gn pb fm np nf (stepP c L ou l ti po)) := by
  refine (Step_any c gn pb fm np nf L ou xA xn xc ti po l W h.nm hc hou hn1 hn2 hr hlc hcm hl).mono ?_
  rintro e W' ⟨v, np', nf', rfl, hO, hM, h1, h2, hu⟩
  exact ⟨v, np', nf', rfl, hO, h.step hM hu, h1, h2, hu⟩
theorem LN.made {w W W' : World} {c : Cf} {e : Ending} (hb : Below w.heap.size w W) (h : NewR W c e W') : ∃ gn pb fm, e = .returned (.tuple #[.pointer (some ⟨gn, 0, none⟩), .int .i64 0]) ∧ LN w W' c gn pb fm 0 0 [] := by
  obtain ⟨gn, pb, fm, rfl, hm, hb2, h1, h2, h3⟩ := h
  have := hb.size
  exact ⟨gn, pb, fm, rfl, hm, by omega, by omega, by omega, bel_after hb hb2⟩
theorem LN.bnd {w W : World} {c : Cf} {gn pb fm np nf : Nat} {L : List Bd} (h : LN w W c gn pb fm np nf L) (hc : c.ok) (hnp : np ≤ 1000000) : Calls Tryz.prog 23 #[.pointer (some ⟨gn, 0, none⟩)] W fun e W' => ∃ v, e = .returned v ∧ OwnT BdL 6 63 W' W.heap.size v L ∧ LN w W' c gn pb fm np nf L ∧ Below W.heap.size W W' := by
  refine (Bindings_any c gn pb fm np nf L W h.nm hc hnp).mono ?_
  rintro e W' ⟨v, rfl, hO, hM, hb⟩
  exact ⟨v, rfl, hO, h.bel_ hb, hb⟩
theorem LN.exp {w W : World} {c : Cf} {gn pb fm np nf : Nat} {L : List Bd} (h : LN w W c gn pb fm np nf L) (hc : c.ok) (pr po ti : Int) : Calls Tryz.prog 27 #[.pointer (some ⟨gn, 0, none⟩), .int .i64 pr, .int .i64 po, .int .i64 ti] W fun e W' => e = .returned (.bool (expP c L pr po ti).2) ∧ LN w W' c gn pb fm np nf (expP c L pr po ti).1 ∧ Upd (fun k => k = pb ∨ k = fm) W W' := by
  refine (Expire_any c gn pb fm np nf L pr po ti W h.nm hc).mono ?_
  rintro e W' ⟨rfl, hM, hu⟩
  exact ⟨rfl, h.step hM hu, hu⟩
end Go.Proofs.YtbckoohljkmahaaGreat
namespace Go.Proofs.YtbckoohljkmahaaGreat
set_option linter.unusedVariables false
set_option linter.unusedSimpArgs false
open Go.RowKit Go.Maps
def bindB : Bd := ⟨⟨17, 167772161, 5⟩, 1000, 0, 3⟩
theorem bind_step : stepP (cfL 9) [] true (frameL 0 167772161 134744065 5 53 0 []) 3 1000 = ([bindB], 0, rwL (frameL 0 167772161 134744065 5 53 0 []) true 3221225985 1000) :=
  step_new (k := 0) (s := 167772161) (d := 134744065) (a := 5) (b := 53) (f := 0) (l := []) (by omega) (by omega) (by omega) (by omega) (fun x hx => by simp at hx) (by simp) (by omega) (cfL 9) [] 3 1000 (by omega) (by omega) (by omega) rfl (by decide) rfl
theorem bind_stay : expP (cfL 9) [bindB] 17 1000 122 = ([bindB], false) := by kernel_rfl
theorem bind_go : expP (cfL 9) [bindB] 17 1000 123 = ([], true) := by kernel_rfl
theorem Frame15_bind (W : World) : Calls Tryz.prog 12 #[.agg #[.bool true, .int .i64 0, .int .i64 0, .int .i64 0, .int .i64 0, .slice none 0 0, .int .i64 0, .int .u8 0, .int .i64 0]] W (Gives W (frameL 0 167772161 134744065 5 53 0 [])) :=
  Frame15_k 0 0 0 0 0 0 none 0 0 [] 0 0 0 0 0 W (Rd.nil _ _ _ _) (Nat.le_refl _) (by omega) rfl (Nat.le_refl _) rfl (by omega) rfl (by omega) rfl (by omega) rfl (by omega)
set_option maxRecDepth 100000 in
set_option maxHeartbeats 4000000 in
theorem binds_any (w : World) : Calls Tryz.prog 19 #[] w fun e w' => e = .returned (.bool true) ∧ Below w.heap.size w w' := by
  have hc : (cfL 9).ok := cfL_ok (by omega)
  have kT : ∀ W, Calls Tryz.prog 14 #[.agg #[.int .i64 1, .int .u32 3221225985, .int .i64 1000, .int .i64 1009, .int .i64 2, .int .i64 4]] W fun e w' => e = .returned (.agg #[.int .i64 1, .int .u32 3221225985, .int .i64 1000, .int .i64 1009, .int .i64 2, .int .i64 4]) ∧ Below W.heap.size W w' := fun W => To_any (cfL 9) W
  have kN : ∀ W, Calls Tryz.prog 20 #[.agg #[.int .i64 1, .int .u32 3221225985, .int .i64 1000, .int .i64 1009, .int .i64 2, .int .i64 4]] W (NewR W (cfL 9)) := fun W => New_ok (cfL 9) W hc
  obtain ⟨F, hF⟩ : ∃ F, frameL 0 167772161 134744065 5 53 0 [] = F := ⟨_, rfl⟩
  have hFl : 28 ≤ F.length ∧ F.length ≤ 130 := by rw [← hF]; exact frame_bd (by simp)
  have kF := Frame15_bind
  have hS := bind_step
  have hag0 := fun h8 => frame_again (k := 0) (s := 167772161) (d := 134744065) (a := 5) (b := 53) (f := 0) (l := []) (by omega) (by omega) (by omega) (by omega) (fun x hx => by simp at hx) (by simp) (by omega) true (ou := 3221225985) (po := 1000) h8 (by omega) (by omega)
  have hag := fun h8 => part_src (hag0 h8) gotP_err
  have hlen := fun h8 => (hag0 h8).len
  clear hag0
  rw [hF] at kF hS hag hlen
  obtain ⟨X, hX⟩ : ∃ X, rwL F true 3221225985 1000 = X := ⟨_, rfl⟩
  rw [hX] at hS hag hlen
  clear hF hX
  have hst := fun W gn pb fm xA xc (h : LN w W (cfL 9) gn pb fm 0 0 []) (hr : Rd .u8 W W.heap.size xA F.length F) (h1 : F.length ≤ xc) (h2 : xc ≤ maxLen) => h.stp hc (by decide) (by omega) (by omega) true xA F.length xc 3 1000 F hr h1 (by unfold maxLen at h2; omega) (by omega)
  rw [hS] at hst
  obtain ⟨n, hn⟩ : ∃ n, F.length = n := ⟨_, rfl⟩
  rw [hn] at hst hFl
  simp only [hn] at hlen
  unfold Gives at kF
  unfold StR at hst
  simp only at hst
  replace hc := Lib.hid hc
  replace kT := Lib.hid kT
  replace kN := Lib.hid kN
  replace kF := Lib.hid kF
  replace hst := Lib.hid hst
  replace hag := Lib.hid hag
  replace hlen := Lib.hid hlen
  replace hn := Lib.hid hn
  clear hS
  go_enter Tryz.func19, Tryz.ntmps19
  go_wp2_with fail
  refine (Config9 _).mono ?_
  rintro e W1 ⟨rfl, bel⟩
  go_wp2_with fail
  refine (kT.out _).mono ?_
  rintro e W2 ⟨rfl, hb⟩
  replace bel := bel_after bel hb
  clear hb kT
  go_wp2_with fail
  refine (kN.out _).mono ?_
  intro e W3 hN
  obtain ⟨gn, pb, fm, rfl, ln⟩ := LN.made bel hN
  clear hN bel kN
  go_wp2_with fail
  refine (kF.out _).mono ?_
  rintro e W4 ⟨v, rfl, own, hb⟩
  replace ln := ln.bel_ hb
  clear hb kF
  have h8 : Bytes8 F := fun x hx => inr_u8 (own.rng x hx)
  replace hag := hag.out h8
  replace hlen := hlen.out h8
  obtain ⟨A, cp, rfl, hc1, hc2, rd⟩ := own.form hn.out
  clear own
  go_wp2_with fail
  refine (hst.out _ _ _ _ _ _ ln rd hc1 hc2).mono ?_
  rintro e W5 ⟨v5, np, nf, rfl, own5, ln5, h1, h2, hu⟩
  clear hst ln rd hu
  have hXl : X.length = n := by have : (X.length : Int) = (n : Int) := hlen; omega
  clear hlen
  obtain ⟨A5, c5, rfl, hc51, hc52, rd5⟩ := own5.form hXl
  unfold maxLen at hc52
  clear own5
  have ba := (Blk.new W5 55 #[.slice none 0 0, .int .i64 0]).setRow #[.slice A5 n c5, .int .i64 0]
  have hbA : Below W5.heap.size W5 ((W5.alloc (.cells #[.slice none 0 0, .int .i64 0] 55)).setRow W5.heap.size #[.slice A5 n c5, .int .i64 0]) := below_setRow (bel_alloc _ _) (Nat.le_refl _) _
  go_upto_region 4 with (refine wpList_stRow rfl rfl rfl rfl rfl (Blk.new W5 _ _) an_size rfl (by simp [Value.oneCell']) ?_; generalize (W5.alloc (.cells #[.slice none 0 0, .int .i64 0] 55)).setRow W5.heap.size #[.slice A5 n c5, .int .i64 0] = W6 at *)
  replace ln5 := ln5.bel_ hbA
  replace rd5 := (rd5.below hbA).more hbA.size
  clear hbA
  generalize W5.heap.size = ga at *
  obtain ⟨⟨pr, sr, ds, fl, ki, co, er, ⟨i0, i1, i2, i3, i4, i5⟩, pat, bb⟩, hq, hqs, hqe⟩ := hag
  subst hqs hqe
  have kP := rPart_any X A5 n c5 W6 rd5 hc51 hc52 (by omega)
  rw [hq] at kP
  unfold PartT at kP
  simp only [Pt.val] at kP
  clear hq
  replace kP := Lib.hid kP
  have a0 := ba.cell 0
  go_wp2_with fail
  refine kP.out.mono ?_
  rintro e W7 ⟨rfl, hb⟩
  replace ba := ba.bel hb
  replace ln5 := ln5.bel_ hb
  clear hb kP a0 rd5
  have hlt := ba.lt
  have bp := (Blk.new W7 69 #[.int .i64 0, .int .u16 0, .int .u16 0, .int .i64 0, .int .i64 0, .int .i64 0, .bool false, .int .i64 0, .int .i64 0, .int .i64 0, .int .i64 0, .int .u32 0, .int .u32 0, .int .i64 0, .bool false]).setRow #[.int .i64 pr, .int .u16 1000, .int .u16 ds, .int .i64 fl, .int .i64 ki, .int .i64 co, .bool false, .int .i64 i0, .int .i64 i1, .int .i64 i2, .int .i64 i3, .int .u32 i4, .int .u32 i5, .int .i64 pat, .bool bb]
  have hbP : Below W7.heap.size W7 ((W7.alloc (.cells #[.int .i64 0, .int .u16 0, .int .u16 0, .int .i64 0, .int .i64 0, .int .i64 0, .bool false, .int .i64 0, .int .i64 0, .int .i64 0, .int .i64 0, .int .u32 0, .int .u32 0, .int .i64 0, .bool false] 69)).setRow W7.heap.size #[.int .i64 pr, .int .u16 1000, .int .u16 ds, .int .i64 fl, .int .i64 ki, .int .i64 co, .bool false, .int .i64 i0, .int .i64 i1, .int .i64 i2, .int .i64 i3, .int .u32 i4, .int .u32 i5, .int .i64 pat, .bool bb]) := below_setRow (bel_alloc _ _) (Nat.le_refl _) _
  go_upto_region 5 with (refine wpList_stRow rfl rfl rfl rfl rfl (Blk.new W7 _ _) rpt_size rfl (by simp [Value.oneCell']) ?_; generalize (W7.alloc (.cells #[.int .i64 0, .int .u16 0, .int .u16 0, .int .i64 0, .int .i64 0, .int .i64 0, .bool false, .int .i64 0, .int .i64 0, .int .i64 0, .int .i64 0, .int .u32 0, .int .u32 0, .int .i64 0, .bool false] 69)).setRow W7.heap.size #[.int .i64 pr, .int .u16 1000, .int .u16 ds, .int .i64 fl, .int .i64 ki, .int .i64 co, .bool false, .int .i64 i0, .int .i64 i1, .int .i64 i2, .int .i64 i3, .int .u32 i4, .int .u32 i5, .int .i64 pat, .bool bb] = W8 at *)
  replace ln5 := ln5.bel_ hbP
  replace ba := ba.bel hbP
  clear hbP hlt
  generalize W7.heap.size = gp at *
  have kB := ln5.bnd hc.out (by omega)
  replace kB := Lib.hid kB
  go_wp2_with fail
  refine kB.out.mono ?_
  rintro e W9 ⟨v9, rfl, own9, ln9, hb⟩
  replace ba := ba.bel hb
  replace bp := bp.bel hb
  clear hb kB ln5
  obtain ⟨g, c9, rfl, hc91, hc92, hg1, hg2, cur, hcur⟩ := own9.formG (n := 1) rfl (by omega)
  have q5 : W9.cell? ⟨g, 5, none⟩ = some (.int .i64 3) := own9.at_ BdL_len (j := 0) (x := bindB) rfl (f := 5) rfl
  have a1 := ba.cell 1
  have p1 := bp.cell 1
  have kE := ln9.exp hc.out 17 1000 122
  rw [bind_stay] at kE
  simp only at kE
  replace kE := Lib.hid kE
  go_wp2_with fail
  refine kE.out.mono ?_
  rintro e W10 ⟨rfl, ln10, hu⟩
  clear kE hu a1 p1 q5 ln9 own9 ba bp hcur
  have kE := ln10.exp hc.out 17 1000 123
  rw [bind_go] at kE
  simp only at kE
  replace kE := Lib.hid kE
  go_wp2_with fail
  refine kE.out.mono ?_
  rintro e W11 ⟨rfl, ln11, hu⟩
  clear kE hu ln10
  have kB := ln11.bnd hc.out (by omega)
  replace kB := Lib.hid kB
  go_wp2_with fail
  refine kB.out.mono ?_
  rintro e W12 ⟨v12, rfl, own12, ln12, hb⟩
  obtain ⟨A12, c12, rfl, _, _⟩ := own12.form (n := 0) rfl
  go_wp2_with fail
  go_ret
  exact ⟨rfl, ln12.bel⟩
end Go.Proofs.YtbckoohljkmahaaGreat
namespace Go.Proofs.YtbckoohljkmahaaGreat
set_option linter.unusedVariables false
set_option linter.unusedSimpArgs false
open Go.RowKit Go.Maps
theorem rbd_info : (Tryz.prog.info? 92).map (fun i => (i.zero, i.size, i.bytes)) = some (some (.agg #[.int .i64 0, .int .u32 0, .int .u16 0, .int .i64 0, .int .i64 0, .int .i64 0]), 6, 40) := by kernel_rfl
theorem rbd_size : (Tryz.prog.info? 92).map (·.size) = some 6 := by kernel_rfl
set_option maxRecDepth 100000 in
set_option maxHeartbeats 4000000 in
theorem from_any (L : List Bd) (A : Option Addr) (n cap : Nat) (w : World) (hr : RdT BdL 6 w w.heap.size A n L) (hnc : n ≤ cap) (hn1 : n ≤ 1000000) :
    Calls Tryz.prog 28 #[.slice A n cap] w fun e w' => ∃ v, e = .returned v ∧ OwnT BdL 6 92 w' w.heap.size v L ∧ Below w.heap.size w w' := by
  obtain ⟨i0, hi, hz0, hz1, hz2⟩ := info_parts rbd_info
  go_enter Tryz.func28, Tryz.ntmps28
  go_wp2_with fail
  go_loopw [3, 4] (fun o i wr => ∃ k : Nat, k ≤ n ∧ i = .int .i64 k ∧ OwnT BdL 6 92 wr w.heap.size o (L.take k) ∧ Below w.heap.size w wr) (fun _ i _ => n - (intOf i).toNat)
  case atStart => exact ⟨0, by omega, rfl, ⟨World.ownsRow_nil _ _ _ _⟩, Below.refl _ _⟩
  case round =>
    obtain ⟨k, hk, rfl, own, bel⟩ := hrel
    rcases Nat.lt_or_ge k n with hkn | hkn
    · have d1 : decide ((k : Int) < (n : Int)) = true := by simpa using hkn
      have d2 : decide (k < n) = true := by simpa using hkn
      obtain ⟨b, hb⟩ : ∃ b, L[k]? = some b := ⟨_, List.getElem?_eq_getElem (by rw [hr.len]; omega)⟩
      have htk : L.take (k + 1) = L.take k ++ [b] := by rw [List.take_add_one, hb]; rfl
      have hlt : (L.take k).length = k := by rw [List.length_take, hr.len]; omega
      obtain ⟨g, o, hA, hg, hc⟩ := hr.cel (by omega)
      have hcx := fun (t : Tw (Up w)) f u hu => (t.h.cell (p := ⟨g, o + k * 6 + f, none⟩) hg).trans (hc k b hb f u hu)
      subst hA
      replace htk := Lib.hid htk
      replace hlt := Lib.hid hlt
      obtain ⟨⟨b0, b1, b2⟩, b3, b4, b5⟩ := b
      clear hb hc
      have z0 : ∀ w', (∃ t : Tw (Up w), w' = t.w) → ∀ j u, ([.int .i64 b0, .int .u32 b1, .int .u16 b2] : List Value)[j]? = some u → w'.cell? ⟨g, o + k * 6 + j, none⟩ = some u := fun w' ⟨t, ht⟩ j u hu => by
        rw [ht]
        refine hcx t j u ?_
        match j with
        | 0 | 1 | 2 => exact hu
        | j + 3 => simp at hu
      have z3 : ∀ t : Tw (Up w), t.w.cell? ⟨g, o + k * 6 + 3, none⟩ = some (.int .i64 b3) := fun t => hcx t 3 _ rfl
      have z4 : ∀ t : Tw (Up w), t.w.cell? ⟨g, o + k * 6 + 4, none⟩ = some (.int .i64 b4) := fun t => hcx t 4 _ rfl
      have z5 : ∀ t : Tw (Up w), t.w.cell? ⟨g, o + k * 6 + 5, none⟩ = some (.int .i64 b5) := fun t => hcx t 5 _ rfl
      have zz := Up.one w
      have k0 : (0 : Int) ≤ (k : Int) := by omega
      have k1 : (k : Int) < (n : Int) := by omega
      clear hcx
      go_upto_region 5 with fail
      refine wp_region_plan (Up w) [(0, true), (1, true), (2, true), (3, true), (4, true), (5, true), (7, true), (8, true), (9, true), (10, true), (11, true), (12, true), (13, true), (14, true), (15, true), (16, true), (17, true), (18, true), (19, true), (20, true), (21, true), (6, false), (22, true), (23, false), (24, false), (25, true)] (by kernel_rfl) (by kernel_rfl) (by kernel_rfl) (by kernel_rfl) bel.drew ?_
      replace own := own.drew
      replace bel := bel.drew
      generalize wr.drew = W1 at *
      refine wpPl_qs 21 _ _ _ (by kernel_rfl) (by kernel_rfl) (by simp) ?_
      unfold clsS
      simp only [List.take_succ_cons, List.take_zero, List.drop_succ_cons, List.drop_zero, List.filterMap_cons, List.filterMap_nil, List.getElem?_toArray, List.getElem?_cons_zero, List.getElem?_cons_succ]
      repeat (first
        | go_big_quiet_skip
        | (go_big_quiet_want; first | (refine quiet_ldAt rfl rfl z0 Tryz.underlying32 fl_size ?_; go_simp; go_big_quiet_on) | (go_big_quiet_op; go_big_quiet_on))
        | (refine id (?_ : wpQuiet _ _ _ _ (_ :: _) _); first | go_big_quiet_skip | (go_big_quiet_want; first | (refine quiet_ldAt rfl rfl z0 Tryz.underlying32 fl_size ?_; go_simp; go_big_quiet_on) | (go_big_quiet_op; go_big_quiet_on))))
      refine wpQuiet_nil ?_
      clear z0 z3 z4 z5
      refine wpPl_e _ (by rfl) (by kernel_rfl) (fun K hK => ?_)
      go_simp
      refine (FromKey_any ⟨b0, b1, b2⟩ W1).mono ?_
      rintro e W2 ⟨rfl, hb2⟩
      replace own := own.below hb2
      replace bel := bel_after bel hb2
      refine hK _ _ bel ?_
      clear hK K hb2
      simp only [Fl.cs]
      refine wpPl_qs 1 _ _ _ (by kernel_rfl) (by kernel_rfl) (by simp) ?_
      unfold clsS
      simp only [List.take_succ_cons, List.take_zero, List.drop_succ_cons, List.drop_zero, List.filterMap_cons, List.filterMap_nil, List.getElem?_toArray, List.getElem?_cons_zero, List.getElem?_cons_succ]
      repeat (first
        | go_big_quiet_skip
        | (go_big_quiet_want; go_big_quiet_op; go_big_quiet_on)
        | (refine id (?_ : wpQuiet _ _ _ _ (_ :: _) _); first | go_big_quiet_skip | (go_big_quiet_want; go_big_quiet_op; go_big_quiet_on)))
      refine wpQuiet_nil ?_
      have hy := RdT.new (cs := BdL) (sz := 6) BdL_len W2 92 [(⟨⟨b0, b1, b2⟩, b3, b4, b5⟩ : Bd)] #[.int .i64 b0, .int .u32 b1, .int .u16 b2, .int .i64 b3, .int .i64 b4, .int .i64 b5] rfl 1 rfl
      have hsz := bel.size
      have hal := bel_alloc W2 (.cells #[.int .i64 b0, .int .u32 b1, .int .u16 b2, .int .i64 b3, .int .i64 b4, .int .i64 b5] 92)
      refine wpPl_e _ (by rfl) (by kernel_rfl) (fun K hK => ?_)
      go_simp
      replace own := own.below hal
      replace bel := bel_after bel hal
      refine hK _ _ bel ?_
      clear hK K
      have hsz3 := hal.size
      clear hal
      generalize W2.alloc (.cells #[.int .i64 b0, .int .u32 b1, .int .u16 b2, .int .i64 b3, .int .i64 b4, .int .i64 b5] 92) = W3 at *
      refine wpPl_e _ (by rfl) (by kernel_rfl) (fun K hK => ?_)
      refine wp_appT BdL_len BdL_one (by decide) W3 (.tmp 11) (.tmp 34) 81 rfl w.heap.size 92 i0 (.agg #[.int .i64 0, .int .u32 0, .int .u16 0, .int .i64 0, .int .i64 0, .int .i64 0]) 40 Tryz.underlying81 hi hz0 hz1 hz2 rfl _ rfl (L.take k) own _ _ 1 1 rfl [(⟨⟨b0, b1, b2⟩, b3, b4, b5⟩ : Bd)] hy (by rw [hlt.out]; omega) (by decide) bel.size ?_
      intro v4 W4 own4 hg4 hv4
      have hb4 : Below w.heap.size W3 W4 := (Upd.of_grown (S := fun k => w.heap.size ≤ k) hg4 (fun g e => (own.lt g e).1)).below bel.size (fun k hk h => by omega)
      rw [← htk.out] at own4
      replace bel := bel.trans hb4
      go_simp
      refine hK _ _ bel ?_
      clear hK K
      refine wpPl_qs 1 _ _ _ (by kernel_rfl) (by kernel_rfl) (by simp) ?_
      unfold clsS
      simp only [List.take_succ_cons, List.take_zero, List.drop_succ_cons, List.drop_zero, List.filterMap_cons, List.filterMap_nil, List.getElem?_toArray, List.getElem?_cons_zero, List.getElem?_cons_succ]
      repeat (first
        | go_big_quiet_skip
        | (go_big_quiet_want; go_big_quiet_op; go_big_quiet_on)
        | (refine id (?_ : wpQuiet _ _ _ _ (_ :: _) _); first | go_big_quiet_skip | (go_big_quiet_want; go_big_quiet_op; go_big_quiet_on)))
      refine wpQuiet_nil ?_
      unfold wpPl
      refine NoPanic.normal ?_
      go_wp2_with fail
      go_roundw
      case rel => exact ⟨k + 1, by omega, by go_num, own4, bel⟩
      case measure => simp [intOf]; omega
    · obtain rfl : k = n := by omega
      have d1 : decide ((k : Int) < (k : Int)) = false := by simp
      have ht : L.take k = L := by rw [← hr.len, List.take_length]
      rw [ht] at own
      have d2 : decide (k < k) = false := by simp
      go_wp2
      go_ret
      exact ⟨_, rfl, own, bel⟩
set_option maxRecDepth 100000 in
set_option maxHeartbeats 4000000 in
theorem Same_yes (L : List Bd) (A A2 : Option Addr) (n cap cap2 : Nat) (w : World) (hr : RdT BdL 6 w w.heap.size A n L) (hr2 : RdT BdL 6 w w.heap.size A2 n L) (hn1 : n ≤ 1000000) :
    Calls Tryz.prog 29 #[.slice A n cap, .slice A2 n cap2] w fun e w' => e = .returned (.bool true) ∧ Below w.heap.size w w' := by
  go_enter Tryz.func29, Tryz.ntmps29
  go_wp2_with fail
  go_loopw [5] (fun i wr => ∃ k : Nat, k ≤ n ∧ i = .int .i64 k ∧ Below w.heap.size w wr) (fun i _ => n - (intOf i).toNat)
  case atStart => exact ⟨0, by omega, rfl, Below.refl _ _⟩
  case round =>
    obtain ⟨k, hk, rfl, bel⟩ := hrel
    rcases Nat.lt_or_ge k n with hkn | hkn
    · have d1 : decide ((k : Int) < (n : Int)) = true := by simpa using hkn
      have d2 : decide (k < n) = true := by simpa using hkn
      obtain ⟨b, hb⟩ : ∃ b, L[k]? = some b := ⟨_, List.getElem?_eq_getElem (by rw [hr.len]; omega)⟩
      obtain ⟨g, o, hA, hg, hc⟩ := hr.cel (by omega)
      obtain ⟨g2, o2, hA2, hg2, hc2⟩ := hr2.cel (by omega)
      have z0 : ∀ w', (∃ t : Tw (Up w), w' = t.w) → ∀ j u, (BdL b)[j]? = some u → w'.cell? ⟨g, o + k * 6 + j, none⟩ = some u := fun w' ⟨t, ht⟩ j u hu => by rw [ht]; exact (t.h.cell (p := ⟨g, o + k * 6 + j, none⟩) hg).trans (hc k b hb j u hu)
      have z1 : ∀ w', (∃ t : Tw (Up w), w' = t.w) → ∀ j u, (BdL b)[j]? = some u → w'.cell? ⟨g2, o2 + k * 6 + j, none⟩ = some u := fun w' ⟨t, ht⟩ j u hu => by rw [ht]; exact (t.h.cell (p := ⟨g2, o2 + k * 6 + j, none⟩) hg2).trans (hc2 k b hb j u hu)
      subst hA hA2
      obtain ⟨⟨b0, b1, b2⟩, b3, b4, b5⟩ := b
      simp only [BdL] at z0 z1
      clear hb hc hc2
      have zz := Up.one w
      have k0 : (0 : Int) ≤ (k : Int) := by omega
      have k1 : (k : Int) < (n : Int) := by omega
      go_upto_region 6 with fail
      refine region_tw (Up w) (by kernel_rfl) (by kernel_rfl) bel.drew ?_
      unfold clsS
      repeat (first
        | go_big_quiet_skip
        | (go_big_quiet_want; go_big_quiet_op; first | go_big_quiet_on | go_big_quiet_call (fail)))
      go_big_quiet_want
      refine quiet_ldAt rfl rfl z0 Tryz.underlying92 rbd_size ?_
      go_simp
      go_big_quiet_on
      repeat (first
        | go_big_quiet_skip
        | (go_big_quiet_want; go_big_quiet_op; first | go_big_quiet_on | go_big_quiet_call (fail)))
      go_big_quiet_want
      refine quiet_ldAt rfl rfl z1 Tryz.underlying92 rbd_size ?_
      go_simp
      go_big_quiet_on
      repeat (first
        | go_big_quiet_skip
        | (go_big_quiet_want; go_big_quiet_op; first | go_big_quiet_on | go_big_quiet_call (fail)))
      refine wpQuiet_nil ?_
      intro tq
      have belq := tq.h
      clear z0 z1 zz
      go_wp2_with fail
      go_roundw
      case rel => exact ⟨k + 1, by omega, by go_num, belq⟩
      case measure => simp [intOf]; omega
    · obtain rfl : k = n := by omega
      have d1 : decide ((k : Int) < (k : Int)) = false := by simp
      have d2 : decide (k < k) = false := by simp
      go_wp2
      go_ret
      exact ⟨rfl, bel⟩
end Go.Proofs.YtbckoohljkmahaaGreat
namespace Go.Proofs.YtbckoohljkmahaaGreat
set_option linter.unusedVariables false
set_option linter.unusedSimpArgs false
open Go.RowKit
abbrev BkL := List (Nat × TypeId × Array Value)
abbrev OwL := List (Value × List Int)
structure Ev (w W : World) (c : Cf) (gn pb fm np nf : Nat) (L : List Bd) (bs : BkL) (os : OwL) : Prop where
  ln : LN w W c gn pb fm np nf L
  bs : ∀ x, x ∈ bs → Blk W x.1 x.2.1 x.2.2
  os : ∀ x, x ∈ os → Own .u8 5 W w.heap.size x.1 x.2
section
variable {w W W' : World} {c : Cf} {gn pb fm np nf : Nat} {L : List Bd} {bs : BkL} {os : OwL}
theorem Ev.bel (h : Ev w W c gn pb fm np nf L bs os) (hb : Below W.heap.size W W') : Ev w W' c gn pb fm np nf L bs os := ⟨h.ln.bel_ hb, fun x hx => (h.bs x hx).bel hb, fun x hx => (h.os x hx).below hb⟩
theorem Ev.blk (h : Ev w W c gn pb fm np nf L bs os) (i : Nat) {g : Nat} {t : TypeId} {cs : Array Value} (hi : bs[i]? = some (g, t, cs)) : Blk W g t cs := h.bs (g, t, cs) (List.mem_of_getElem? hi)
theorem Ev.own (h : Ev w W c gn pb fm np nf L bs os) (i : Nat) {v : Value} {l : List Int} (hi : os[i]? = some (v, l)) : Own .u8 5 W w.heap.size v l := h.os (v, l) (List.mem_of_getElem? hi)
theorem Ev.base (h : Ev w W c gn pb fm np nf L bs os) : w.heap.size ≤ W.heap.size := h.ln.bel.size
theorem Ev.row (h : Ev w W c gn pb fm np nf L bs os) (hb : Below W.heap.size W W') {v : Value} {l : List Int} (ho : Own .u8 5 W' W.heap.size v l) : Ev w W' c gn pb fm np nf L bs ((v, l) :: os) :=
  ⟨(h.bel hb).ln, (h.bel hb).bs, fun x hx => by
    rcases List.mem_cons.1 hx with rfl | hx
    · exact ho.mono_ h.base
    · exact (h.bel hb).os x hx⟩
theorem Ev.new0 (h : Ev w W c gn pb fm np nf L bs os) (t : TypeId) (cs : Array Value) : Ev w (W.alloc (.cells cs t)) c gn pb fm np nf L ((W.heap.size, t, cs) :: bs) os :=
  ⟨(h.bel (bel_alloc _ _)).ln, fun x hx => by
    rcases List.mem_cons.1 hx with rfl | hx
    · exact Blk.new W t cs
    · exact (h.bel (bel_alloc _ _)).bs x hx, (h.bel (bel_alloc _ _)).os⟩
theorem Ev.new (h : Ev w W c gn pb fm np nf L bs os) (t : TypeId) (z cs : Array Value) : Ev w ((W.alloc (.cells z t)).setRow W.heap.size cs) c gn pb fm np nf L ((W.heap.size, t, cs) :: bs) os := by
  have hb : Below W.heap.size W ((W.alloc (.cells z t)).setRow W.heap.size cs) := below_setRow (bel_alloc _ _) (Nat.le_refl _) _
  refine ⟨(h.bel hb).ln, fun x hx => ?_, (h.bel hb).os⟩
  rcases List.mem_cons.1 hx with rfl | hx
  · exact (Blk.new W t z).setRow cs
  · exact (h.bel hb).bs x hx
theorem Ev.upd {np' nf' : Nat} {L' : List Bd} (h : Ev w W c gn pb fm np nf L bs os) (hl : LN w W' c gn pb fm np' nf' L') (hu : Upd (fun k => k = pb ∨ k = fm) W W') : Ev w W' c gn pb fm np' nf' L' bs os :=
  ⟨hl, fun x hx => h.ln.nm.keepB (h.bs x hx) hu, fun x hx => h.ln.nm.ownU (h.os x hx) hu⟩
theorem Ev.stp (h : Ev w W c gn pb fm np nf L bs os) (hc : c.ok) (hou : 0 ≤ c.ou ∧ c.ou ≤ 4294967295) (hn1 : np < 900000) (hn2 : nf < 900000) (ou : Bool) (xA : Option Addr) (xn xc : Nat) (ti po : Int) (l : List Int)
    (hr : Rd .u8 W W.heap.size xA xn l) (hlc : xn ≤ xc) (hcm : xc ≤ 9223372036854775807) (hl : xn ≤ 60000) {R : List Bd × Int × List Int} (hR : stepP c L ou l ti po = R) :
    Calls Tryz.prog 22 #[.pointer (some ⟨gn, 0, none⟩), .agg #[.bool ou, .slice xA xn xc, .int .i64 ti, .int .i64 po]] W fun e W' => ∃ A n cp np' nf', e = .returned (.agg #[.slice A n cp, .int .i64 R.2.1]) ∧ R.2.2.length = n ∧ n ≤ cp ∧ cp ≤ 9223372036854775807 ∧ Ev w W' c gn pb fm np' nf' R.1 bs ((.slice A n cp, R.2.2) :: os) ∧ np' ≤ np + 1 ∧ nf' ≤ nf + 1 ∧ W.heap.size ≤ W'.heap.size ∧ Upd (fun k => k = pb ∨ k = fm) W W' := by
  refine (h.ln.stp hc hou hn1 hn2 ou xA xn xc ti po l hr hlc hcm hl).mono ?_
  rintro e W' ⟨v, np', nf', rfl, hO, hl', h1, h2, hu⟩
  rw [hR] at *
  obtain ⟨A, cp, rfl, h3, h4, _⟩ := hO.form rfl
  unfold maxLen at h4
  have h5 := h.upd hl' hu
  refine ⟨A, _, cp, np', nf', rfl, rfl, h3, by omega, ⟨h5.ln, h5.bs, fun x hx => ?_⟩, h1, h2, hu.size, hu⟩
  rcases List.mem_cons.1 hx with rfl | hx
  · exact hO.mono_ h.base
  · exact h5.os x hx
theorem Ev.bnd (h : Ev w W c gn pb fm np nf L bs os) (hc : c.ok) (hnp : np ≤ 1000000) : Calls Tryz.prog 23 #[.pointer (some ⟨gn, 0, none⟩)] W fun e W' => ∃ A cp, e = .returned (.slice A L.length cp) ∧ L.length ≤ cp ∧ OwnT BdL 6 63 W' W.heap.size (.slice A L.length cp) L ∧ Ev w W' c gn pb fm np nf L bs os ∧ Below W.heap.size W W' := by
  refine (h.ln.bnd hc hnp).mono ?_
  rintro e W' ⟨v, rfl, hO, hl, hb⟩
  obtain ⟨A, cp, rfl, h1, h2⟩ := hO.form rfl
  exact ⟨A, cp, rfl, h1, hO, h.bel hb, hb⟩
theorem Ev.rd (h : Ev w W c gn pb fm np nf L bs os) (i : Nat) {A : Option Addr} {n cp : Nat} {l : List Int} (hi : os[i]? = some (.slice A n cp, l)) (hn : l.length = n) : Rd .u8 W W.heap.size A n l := (h.own i hi).rdS hn
theorem Ev.b8 (h : Ev w W c gn pb fm np nf L bs os) (i : Nat) {v : Value} {l : List Int} (hi : os[i]? = some (v, l)) : Bytes8 l := fun x hx => inr_u8 ((h.own i hi).rng x hx)
end
end Go.Proofs.YtbckoohljkmahaaGreat
namespace Go.Proofs.YtbckoohljkmahaaGreat
set_option linter.unusedVariables false
set_option linter.unusedSimpArgs false
open Go.RowKit
theorem place39 {k : Nat} (hk : k < 3) {po : Int} (h : 1000 ≤ po ∧ po ≤ 1039) : 0 ≤ placeP (cfL 39) (carP k) po := by
  have hx := carP_kind hk po (cfL 39) (by show (1000 : Int) ≤ po ∧ po ≤ 1000 + 39; omega)
  have hn : (cfL 39).n = 40 := rfl
  have hl : (cfL 39).lo = 1000 := rfl
  rw [hx.1, hn, hl]
  omega
section
variable {k1 k2 : Nat} {s1 d1 a1 b1 s2 d2 a2 b2 : Int} {l1 l2 : List Int}
end
end Go.Proofs.YtbckoohljkmahaaGreat
namespace Go.Proofs.YtbckoohljkmahaaGreat
set_option linter.unusedVariables false
set_option linter.unusedSimpArgs false
open Go.RowKit
theorem udp_src {h : Hd} {x : List Int} {p : Pt} (e : udpR h x = (0, p)) : p.src = n2 x 0 := by
  unfold udpR at e
  split at e
  · cases e
  split at e
  · cases e
  split at e
  · cases e
  · simp only [Prod.mk.injEq, true_and] at e
    rw [← e]; rfl
theorem tcp_src {h : Hd} {x : List Int} {p : Pt} (e : tcpR h x = (0, p)) : p.src = n2 x 0 := by
  unfold tcpR at e
  split at e
  · cases e
  split at e
  · cases e
  split at e
  · cases e
  · simp only [Prod.mk.injEq, true_and] at e
    rw [← e]; rfl
theorem echo_src {h : Hd} {x : List Int} {p : Pt} (e : icmpR h x = (0, p)) (he : p.err = false) : p.src = n2 x 4 ∧ (x.getD 0 0 = 0 ∨ x.getD 0 0 = 8) := by
  unfold icmpR at e
  split at e
  · cases e
  split at e
  · cases e
  split at e
  · rename_i hk
    split at e
    · cases e
    · simp only [Prod.mk.injEq, true_and] at e
      rw [← e]; exact ⟨rfl, hk⟩
  split at e
  · have := fault_err e
    rw [he] at this; cases this
  · cases e
theorem partE_get {X : List Int} (h : getE X = 0) : partE X = 0 := by
  have hs : shapeE X 1500 = 0 := by
    unfold getE at h
    split at h
    · assumption
    · rename_i hh; simpa using hh
  have hw : wholeE X = 0 := by
    unfold getE at h
    rw [if_neg (by simp [hs])] at h
    split at h
    · cases h
    split at h
    · cases h
    · exact h
  have h2 : shapeE X 65535 = 0 := by
    unfold shapeE at hs ⊢
    repeat' split at hs
    all_goals first | omega | (rename_i h1 h2 h3 h4; rw [if_neg h1, if_neg h2, if_neg h3, if_neg (by omega)])
  unfold partE
  rw [if_neg (by simp [h2])]
  exact hw
section
variable {k : Nat} {s d a b f ou po n fr au qu : Int} {F X : List Int}
theorem gone_ports (hk : k < 3) (g : Again F X ⟨20, n, 64, carP k, s, d⟩ (gotP k a b f) true ou po) (hn : 28 ≤ n) :
    hdOf X = ⟨20, n, 64, carP k, ou, d⟩ ∧ (X.length : Int) = n ∧ (k < 2 → n2 (X.drop 20) 0 = po) ∧ (k = 2 → n2 (X.drop 20) 4 = po ∧ ((X.drop 20).getD 0 0 = 0 ∨ (X.drop 20).getD 0 0 = 8)) := by
  have h1 : hdOf X = ⟨20, n, 64, carP k, ou, d⟩ := g.hd
  have h2 : (X.length : Int) = n := g.len
  have hp := g.part
  rw [h1, chP_plain gotP_err, gotP_proto] at hp
  have hsg : seg X 20 (n - 20).toNat = X.drop 20 := by
    unfold seg
    exact List.take_of_length_le (by rw [List.length_drop]; omega)
  unfold getR at hp
  rw [if_neg (by simp only; omega)] at hp
  simp only at hp
  rw [show (20 : Int).toNat = 20 from rfl, hsg] at hp
  have h3 : k = 0 ∨ k = 1 ∨ k = 2 := by omega
  refine ⟨h1, h2, fun hk2 => ?_, fun hk2 => ?_⟩
  · rcases h3 with rfl | rfl | rfl
    · rw [if_pos (show carP 0 = 17 from rfl)] at hp
      exact (udp_src hp).symm
    · rw [if_neg (show ¬ carP 1 = 17 by decide), if_pos (show carP 1 = 6 from rfl)] at hp
      exact (tcp_src hp).symm
    · omega
  · subst hk2
    rw [if_neg (show ¬ carP 2 = 17 by decide), if_neg (show ¬ carP 2 = 6 by decide), if_pos (show carP 2 = 1 from rfl)] at hp
    obtain ⟨e1, e2⟩ := echo_src hp rfl
    exact ⟨e1.symm, e2⟩
def AbA (fr ou : Int) (X : List Int) : List Int := putL 9 1 fr ou (faultL 3 1 X)
theorem about_rd (hk : k < 3) (g : Again F X ⟨20, n, 64, carP k, s, d⟩ (gotP k a b f) true ou po) (hn : 28 ≤ n ∧ n ≤ 130) (hfr : 0 ≤ fr ∧ fr ≤ 4294967295) (hou : 0 ≤ ou ∧ ou ≤ 4294967295) :
    rdE (AbA fr ou X) = 0 ∧ rdH (AbA fr ou X) = ⟨20, (AbA fr ou X).length, 9, 1, fr, ou⟩ ∧ (rdP (AbA fr ou X)).err = true ∧ (rdP (AbA fr ou X)).inner.proto = carP k ∧ (rdP (AbA fr ou X)).inner.src = ou ∧ (rdP (AbA fr ou X)).src = po := by
  obtain ⟨h1, h2, h3, h4⟩ := gone_ports hk g hn.1
  have hfl := faultL_len 3 1 X
  have hfe : fewL X = X := few_short (by omega)
  obtain ⟨e1, e2⟩ := life_get (t := 9) (P := 1) (s := fr) (d := ou) (l := faultL 3 1 X) (by omega) (by omega) hfr hou (by rw [hfl, hfe]; omega)
  have e3 : hdOf (AbA fr ou X) = ⟨20, (AbA fr ou X).length, 9, 1, fr, ou⟩ := e2
  have e4 := lifeR 9 1 fr ou (faultL 3 1 X)
  have e5 : getX 1 ⟨20, (AbA fr ou X).length, 9, 1, fr, ou⟩ (faultL 3 1 X) = icmpR ⟨20, (AbA fr ou X).length, 9, 1, fr, ou⟩ (faultL 3 1 X) := rfl
  have e6 := fault_to (h := ⟨20, (AbA fr ou X).length, 9, 1, fr, ou⟩) (k := 3) (c := 1) (l := X) (.inl rfl) g.b8 (by omega)
  have e7 : getR (hdOf (AbA fr ou X)) (AbA fr ou X) = faultR { Pt.z with proto := 1, kind := 3, code := 1 % 256 } (20 + 8) X := by
    rw [e3]
    exact e4.trans (e5.trans e6)
  have e8 : (getR (hdOf (AbA fr ou X)) (AbA fr ou X)).1 = 0 ∧ (getR (hdOf (AbA fr ou X)) (AbA fr ou X)).2.err = true ∧ (getR (hdOf (AbA fr ou X)) (AbA fr ou X)).2.inner = hdOf X ∧ (getR (hdOf (AbA fr ou X)) (AbA fr ou X)).2.src = po := by
    rw [e7]
    unfold faultR
    rw [if_neg (by simp [partE_get g.getE]), h1, if_neg (by simp only; omega)]
    have hc : k = 0 ∨ k = 1 ∨ k = 2 := by omega
    rcases hc with rfl | rfl | rfl
    · rw [if_pos (.inl rfl)]
      exact ⟨rfl, rfl, rfl, h3 (by omega)⟩
    · rw [if_pos (.inr rfl)]
      exact ⟨rfl, rfl, rfl, h3 (by omega)⟩
    · obtain ⟨p1, p2⟩ := h4 rfl
      rw [if_neg (by show ¬ ((1 : Int) = 17 ∨ (1 : Int) = 6); omega), if_pos ⟨rfl, p2⟩]
      exact ⟨rfl, rfl, rfl, p1⟩
  have hE : rdE (AbA fr ou X) = 0 := by unfold rdE; rw [if_pos (show getE (AbA fr ou X) = 0 from e1)]; exact e8.1
  have hP : rdP (AbA fr ou X) = (getR (hdOf (AbA fr ou X)) (AbA fr ou X)).2 := by unfold rdP; rw [if_pos hE]
  refine ⟨hE, by unfold rdH; rw [if_pos hE, e3], ?_, ?_, ?_, ?_⟩ <;> rw [hP]
  · exact e8.2.1
  · rw [e8.2.2.1, h1]
  · rw [e8.2.2.1, h1]
  · exact e8.2.2.2
theorem about_step (hk : k < 3) (g : Again F X ⟨20, n, 64, carP k, s, d⟩ (gotP k a b f) true ou po) (hn : 28 ≤ n ∧ n ≤ 130) (hfr : 0 ≤ fr ∧ fr ≤ 4294967295) (hou : 0 ≤ ou ∧ ou ≤ 4294967295) (c : Cf) (hc : c.ou = ou) (L : List Bd) (ti p : Int) (hti : 0 ≤ ti ∧ ti ≤ 4294967295) :
    (∀ x, atB c (placeP c (carP k) po) L = some x → stepP c L false (AbA fr ou X) ti p = (L, 0, rwL (AbA fr ou X) false x.fl.ad x.fl.po)) ∧ (atB c (placeP c (carP k) po) L = none → stepP c L false (AbA fr ou X) ti p = (L, 7, [])) := by
  obtain ⟨h1, h2, h3, h4, h5, h6⟩ := about_rd hk g hn hfr hou
  have hw : whoP ou false (AbA fr ou X) = (⟨carP k, ou, po⟩, 0) := by
    unfold whoP outF
    rw [if_neg (by simp [h1]), if_neg (by simp), h2, if_pos h3, h4, h5, h6]
    simp
  have hE : rwE (AbA fr ou X) = 0 := by rw [rwE_rdE]; exact h1
  refine ⟨fun x hx => ?_, fun hx => ?_⟩
  · unfold stepP inS
    rw [if_neg (by omega), hc, hw, if_neg (by simp), if_neg (by simp)]
    simp only
    rw [hx]
    simp only
    rw [if_pos h3, hE]
  · unfold stepP inS
    rw [if_neg (by omega), hc, hw, if_neg (by simp), if_neg (by simp)]
    simp only
    rw [hx]
theorem about_in (hk : k < 3) (g : Again F X ⟨20, n, 64, carP k, s, d⟩ (gotP k a b f) true ou po) (hn : 28 ≤ n ∧ n ≤ 130) (hfr : 0 ≤ fr ∧ fr ≤ 4294967295) (hou : 0 ≤ ou ∧ ou ≤ 4294967295) (hau : 0 ≤ au ∧ au ≤ 4294967295) (hqu : 0 ≤ qu ∧ qu ≤ 65535) (h8 : Bytes8 (AbA fr ou X)) :
    getE (rwL (AbA fr ou X) false au qu) = 0 ∧ hdOf (rwL (AbA fr ou X) false au qu) = ⟨20, (AbA fr ou X).length, 9, 1, fr, au⟩ ∧ ((rwL (AbA fr ou X) false au qu).length : Int) = (AbA fr ou X).length ∧
      ∃ q : Pt, partI (rwL (AbA fr ou X) false au qu) = (q, true) ∧ q.err = true ∧ q.inner.src = au ∧ q.src = qu := by
  obtain ⟨h1, h2, h3, h4, h5, h6⟩ := about_rd hk g hn hfr hou
  have hE : rwE (AbA fr ou X) = 0 := by rw [rwE_rdE]; exact h1
  have hP : rdP (AbA fr ou X) = (getR (hdOf (AbA fr ou X)) (AbA fr ou X)).2 := by unfold rdP; rw [if_pos h1]
  have hH : hdOf (AbA fr ou X) = ⟨20, (AbA fr ou X).length, 9, 1, fr, ou⟩ := by
    have : rdH (AbA fr ou X) = hdOf (AbA fr ou X) := by unfold rdH; rw [if_pos h1]
    rw [← this, h2]
  have ag := rw_again h8 hE false hau hqu
  rw [← hP, hH] at ag
  refine ⟨ag.getE, ag.hd, ag.len, _, part_again ag, ?_, ?_, ?_⟩
  · unfold chP; rw [if_pos h3]; exact h3
  · unfold chP; rw [if_pos h3]; rfl
  · unfold chP; rw [if_pos h3]
    show (if ((rdP (AbA fr ou X)).inner.proto == 1) || true then qu else (rdP (AbA fr ou X)).src) = qu
    simp
end
end Go.Proofs.YtbckoohljkmahaaGreat
