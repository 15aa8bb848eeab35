/- The walk of the laws' helper: goes. -/
import Derived.Test.YtoifojamblnijaaTurns4
namespace Go.Proofs.Ytoifojamblnijaa
set_option linter.unusedVariables false
set_option linter.unusedSimpArgs false
open Go.RowKit
def twoOps : List TOp := [⟨0, 0, 0, 0, false⟩, ⟨2, 0, 0, 1, true⟩]
set_option maxRecDepth 100000 in
set_option maxHeartbeats 1000000 in
theorem goes_any (w : World) :
    Calls Try.prog 10 #[] w fun e w' => e = .returned (.bool true) ∧ Below w.heap.size w w' := by
  go_enter Try.func10, Try.ntmps10
  go_wp2_with fail
  refine (CellsNew_yes 1 _ (by omega) (by omega)).mono ?_
  rintro e w1 ⟨g, h, rfl, bel, hg, hh, hc, _⟩
  go_wp2_with fail
  have bA := bel_alloc w1 (.cells #[.int .i64 0, .int .i64 0, .int .u64 0, .int .u64 0, .bool false, .int .i64 2, .int .i64 0, .int .u64 0, .int .u64 1, .bool true] 27)
  have kA := Blk.new w1 27 #[.int .i64 0, .int .i64 0, .int .u64 0, .int .u64 0, .bool false, .int .i64 2, .int .i64 0, .int .u64 0, .int .u64 1, .bool true]
  have bA2 := bel_alloc (w1.alloc (.cells #[.int .i64 0, .int .i64 0, .int .u64 0, .int .u64 0, .bool false, .int .i64 2, .int .i64 0, .int .u64 0, .int .u64 1, .bool true] 27)) (.cells #[.slice (some ⟨w1.heap.size, 0, none⟩) 2 2, .slice (some ⟨w1.heap.size, 0, none⟩) 2 2] 25)
  have kB := Blk.new (w1.alloc (.cells #[.int .i64 0, .int .i64 0, .int .u64 0, .int .u64 0, .bool false, .int .i64 2, .int .i64 0, .int .u64 0, .int .u64 1, .bool true] 27)) 25 #[.slice (some ⟨w1.heap.size, 0, none⟩) 2 2, .slice (some ⟨w1.heap.size, 0, none⟩) 2 2]
  have bA3 := bel_alloc ((w1.alloc (.cells #[.int .i64 0, .int .i64 0, .int .u64 0, .int .u64 0, .bool false, .int .i64 2, .int .i64 0, .int .u64 0, .int .u64 1, .bool true] 27)).alloc (.cells #[.slice (some ⟨w1.heap.size, 0, none⟩) 2 2, .slice (some ⟨w1.heap.size, 0, none⟩) 2 2] 25)) (.cells #[.int .i64 0, .int .i64 1, .int .i64 0, .int .i64 1] 3)
  have rd := Rd.new .i64 ((w1.alloc (.cells #[.int .i64 0, .int .i64 0, .int .u64 0, .int .u64 0, .bool false, .int .i64 2, .int .i64 0, .int .u64 0, .int .u64 1, .bool true] 27)).alloc (.cells #[.slice (some ⟨w1.heap.size, 0, none⟩) 2 2, .slice (some ⟨w1.heap.size, 0, none⟩) 2 2] 25)) 3 [0, 1, 0, 1] (by intro x hx; simp at hx; rcases hx with rfl | rfl | rfl | rfl <;> exact i64_inr (by omega)) _ rfl 4 rfl
  replace kA := (kA.bel bA2).bel bA3
  replace kB := kB.bel bA3
  have hc3 := ((hc.bel bA).bel bA2).bel bA3
  have bW := bel_after (bel_after (bel_after bel bA) bA2) bA3
  rw [show (w1.alloc (.cells #[.int .i64 0, .int .i64 0, .int .u64 0, .int .u64 0, .bool false, .int .i64 2, .int .i64 0, .int .u64 0, .int .u64 1, .bool true] 27)).heap.size = w1.heap.size + 1 by simp] at kB
  have hhl : h < w1.heap.size := hc.row.lt
  have hs2 : ((w1.alloc (.cells #[.int .i64 0, .int .i64 0, .int .u64 0, .int .u64 0, .bool false, .int .i64 2, .int .i64 0, .int .u64 0, .int .u64 1, .bool true] 27)).alloc (.cells #[.slice (some ⟨w1.heap.size, 0, none⟩) 2 2, .slice (some ⟨w1.heap.size, 0, none⟩) 2 2] 25)).heap.size = w1.heap.size + 2 := by simp
  rw [hs2] at rd
  have hpr : PrgAt (((w1.alloc (.cells #[.int .i64 0, .int .i64 0, .int .u64 0, .int .u64 0, .bool false, .int .i64 2, .int .i64 0, .int .u64 0, .int .u64 1, .bool true] 27)).alloc (.cells #[.slice (some ⟨w1.heap.size, 0, none⟩) 2 2, .slice (some ⟨w1.heap.size, 0, none⟩) 2 2] 25)).alloc (.cells #[.int .i64 0, .int .i64 1, .int .i64 0, .int .i64 1] 3)) (some ⟨w1.heap.size, 0, none⟩) 2 twoOps := by
    refine ⟨rfl, by intro x hx; simp [twoOps] at hx; rcases hx with rfl | rfl <;> exact ⟨by simp, by simp⟩, fun _ => ⟨_, 0, _, rfl, kA, ?_⟩⟩
    intro j x hj f u hu
    match j, hj with
    | 0, hj => simp [twoOps] at hj; subst hj; match f, hu with
      | 0, hu | 1, hu | 2, hu | 3, hu | 4, hu => simpa [TOp.cs] using hu
    | 1, hj => simp [twoOps] at hj; subst hj; match f, hu with
      | 0, hu | 1, hu | 2, hu | 3, hu | 4, hu => simpa [TOp.cs] using hu
  have hps : PrgsAt (((w1.alloc (.cells #[.int .i64 0, .int .i64 0, .int .u64 0, .int .u64 0, .bool false, .int .i64 2, .int .i64 0, .int .u64 0, .int .u64 1, .bool true] 27)).alloc (.cells #[.slice (some ⟨w1.heap.size, 0, none⟩) 2 2, .slice (some ⟨w1.heap.size, 0, none⟩) 2 2] 25)).alloc (.cells #[.int .i64 0, .int .i64 1, .int .i64 0, .int .i64 1] 3)) (some ⟨w1.heap.size + 1, 0, none⟩) 2 [twoOps, twoOps] := by
    refine ⟨rfl, fun _ => ⟨_, 0, _, rfl, kB, fun j p hj => ?_⟩⟩
    match j, hj with
    | 0, hj => simp at hj; subst hj; exact ⟨_, 2, by decide, by decide, rfl, hpr⟩
    | 1, hj => simp at hj; subst hj; exact ⟨_, 2, by decide, by decide, rfl, hpr⟩
  refine (Run_any g h _ 2 2 [twoOps, twoOps] [0] _ _ 4 4 [0, 1, 0, 1] hps (by omega) (by decide) hc3 (by simp) (rd.more (by simp)) (fun _ a ha => by simp at ha; subst ha; simp; omega) (by omega)).mono ?_
  rintro e w2 ⟨v, rfl, _, own, up⟩
  rw [show ((freshSt [twoOps, twoOps] [0]).runs ([0, 1, 0, 1].map (pk · ([twoOps, twoOps].take 64).length))).2 = [⟨0, 0, 0⟩, ⟨1, 0, 0⟩, ⟨0, 1, 1⟩, ⟨1, 1, 0⟩] by kernel_rfl] at own
  obtain ⟨g2, c2, rfl, hc1, hc2, _, _, _⟩ := own.formG rfl (by simp)
  have x1 : w2.cell? ⟨g2, 8, none⟩ = some (.int .u64 1) := own.at_ Dn.cs_len (j := 2) (f := 2) rfl rfl
  have x2 : w2.cell? ⟨g2, 11, none⟩ = some (.int .u64 0) := own.at_ Dn.cs_len (j := 3) (f := 2) rfl rfl
  have x3 : w2.cell? ⟨g2, 9, none⟩ = some (.int .i64 1) := own.at_ Dn.cs_len (j := 3) (f := 0) rfl rfl
  have hw2 := bW.trans (up.below bW.size (fun k hk e => by subst e; omega))
  go_wp2_with fail
  go_ret
  exact ⟨rfl, hw2⟩
end Go.Proofs.Ytoifojamblnijaa
