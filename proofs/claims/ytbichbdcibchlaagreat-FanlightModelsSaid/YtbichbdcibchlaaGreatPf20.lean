/- Contracts and plain facts. -/
import Derived.Test.YtbichbdcibchlaaGreatPf17
import Derived.Test.YtbichbdcibchlaaGreatPf18
namespace Go.Proofs.YtbichbdcibchlaaGreat
set_option linter.unusedVariables false
set_option linter.unusedSimpArgs false
set_option maxRecDepth 100000
set_option maxHeartbeats 16000000
open Go.RowKit
section
open Go.RowKit Go.Maps Go.Sort Go.Shelf
theorem sortsA (m : Nat) : AnyZI.SortsIn Tryz.prog sortedA_ren Fence.wide m :=
 ⟨fun blk off cap ss W hH hblk hsz => callsIn_wide.2 (AnyM.slices_Sort_int sortA blk off cap ss W hH hblk hsz),
  fun p cap W => callsIn_wide.2 (AnyM.slices_Sort_int_none sortA p cap W)⟩
theorem keys_eB (c : Cf) (L : List Bd) : intKeys (.map (eB c L) : DataW Value) = L.map (keyB c) := by
 simp [intKeys, eB, Go.intOf, Function.comp_def]
theorem sorted_keys {c : Cf} {L : List Bd} (h : LInv c L) {ss : List Int} (hp : ss.Perm (L.map (keyB c))) : ss.mergeSort (fun x y => decide (x ≤ y)) = L.map (keyB c) := by
 have tr : ∀ a b c : Int, leI a b = true → leI b c = true → leI a c = true := fun a b c h1 h2 => by simp only [leI, decide_eq_true_eq] at *; omega
 have tot : ∀ a b : Int, (leI a b || leI b a) = true := fun a b => by simp only [leI, Bool.or_eq_true, decide_eq_true_eq]; omega
 refine List.Perm.eq_of_pairwise (le := fun a b => leI a b = true) (fun a b _ _ h1 h2 => ?_) (List.pairwise_mergeSort tr tot ss) ?_ ((List.mergeSort_perm ss leI).trans hp)
 ·simp only [leI, decide_eq_true_eq] at h1 h2; omega
 ·refine List.pairwise_map.2 (h.srt.imp fun {a b} hab => ?_)
  simp only [leI, decide_eq_true_eq]; omega
theorem keys_any (c : Cf) (gn pb fm np nf : Nat) (L : List Bd) (hc : c.ok) (hnp : np ≤ 1000000) (W : World) (hm : NatM W c gn pb fm np nf L) :
  Calls Tryz.prog 32 #[.map (some pb)] W (KeysR c L W) := by
 have hk : CallsIn Fence.wide 5 Tryz.prog 32 #[.map (some pb)] W _ := AnyZI.keys_in keysA Fence.wide 5 trivial rfl (some pb) W
 refine (callsIn_wide.1 hk).mono ?_
 rintro e W1 ⟨rfl, rfl⟩
 refine ⟨_, rfl, bel_alloc _ _, ?_⟩
 have hpl := hm.pl.bel (bel_alloc W (.cells #[.map (some pb)] (keysA_ren.t 23)))
 have hseq : SeqGives Fence.wide 2 Tryz.prog (keysA_ren.f 10) #[.pointer (some ⟨W.heap.size, 0, none⟩)] encZ (fun ss => ss.Perm (intKeys (.map (eB c L) : DataW Value))) (Maps.size (.map (eB c L) : DataW Value)) (W.alloc (.cells #[.map (some pb)] (keysA_ren.t 23))) :=
  AnyZI.keys_gives (ρ := keysA_ren) { keysA with } Fence.wide _ trivial rfl (by omega) W.heap.size pb np _ _ (by simp) (by simp) hpl.own
 have hlen := hm.pl.len
 have hsz : Maps.size (.map (eB c L) : DataW Value) = L.length := by simp [Maps.size, eB]
 have hS := AnyZI.sorted_in sortedA Fence.wide 5 trivial trivial trivial trivial rfl (by omega) (sortsA _) (enters_of Tryz.func61 (by kernel_rfl) rfl) (keysA_ren.f 10) #[.pointer (some ⟨W.heap.size, 0, none⟩)] trivial (enters_of Tryz.func62 (by kernel_rfl) rfl) _ _ (by rw [hsz]; unfold maxLen; omega) (by rw [hsz]; omega) _ hseq
 change CallsIn _ _ Tryz.prog 31 _ _ _ at hS
 refine (callsIn_wide.1 hS).mono ?_
 rintro e W2 ⟨v, ss, rfl, hp, hrow, _, hb⟩
 rw [keys_eB] at hp
 have hl : ss.length = L.length := by rw [hp.length_eq, List.length_map]
 rw [sorted_keys hm.inv hp, hl] at hrow
 have hown : Own .i64 3 W2 (W.alloc (.cells #[.map (some pb)] (keysA_ren.t 23))).heap.size v (L.map (keyB c)) := ⟨by rw [List.length_map]; exact hrow, fun x hx => by
  obtain ⟨b, hb, rfl⟩ := List.mem_map.1 hx
  exact keyB_rng hc b⟩
 obtain ⟨A, cp, rfl, h1, h2, h3⟩ := hown.form (n := L.length) (List.length_map ..)
 exact ⟨A, cp, rfl, h1, h3, hb⟩
theorem Bindings_any (c : Cf) (gn pb fm np nf : Nat) (L : List Bd) (w : World) (hm : NatM w c gn pb fm np nf L) (hc : c.ok) (hnp : np ≤ 1000000) :
  Calls Tryz.prog 12 #[.pointer (some ⟨gn, 0, none⟩)] w (BndR w c gn pb fm np nf L) :=
 Bindings_of c gn pb fm np nf L w hm hc hnp (fun W hM => keys_any c gn pb fm np nf L hc hnp W hM)
end
end Go.Proofs.YtbichbdcibchlaaGreat
