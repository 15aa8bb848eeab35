/- The law's helper parts. -/
import Derived.Test.YtfkmallagficfaaPart17
namespace Go.Proofs.Ytfkmallagficfaa
set_option linter.unusedVariables false
set_option linter.unusedSimpArgs false
open Go.RowKit
theorem echo5 : echoL false 5 [] = [8, 0, 247, 250, 0, 5, 0, 0] := by decide +kernel
theorem get5 : getR ⟨20, 28, 0, 1, 0, 0⟩ [0, 0, 0, 0, 0, 0, 0, 0, 0, 0, 0, 0, 0, 0, 0, 0, 0, 0, 0, 0, 8, 0, 247, 250, 0, 5, 0, 0] = (0, ⟨1, 5, 5, 0, 8, 0, false, Hd.z, 0, false⟩) := by kernel_rfl
theorem str5 : strOfNums [8, 0, 247, 250, 0, 5, 0, 0] = { data := #[8, 0, 247, 250, 0, 5, 0, 0] } := by kernel_rfl
set_option maxRecDepth 100000 in
set_option maxHeartbeats 1000000 in
theorem parts_any (w : World) :
    Calls Try.prog 14 #[] w fun e w' => e = .returned (.bool true) ∧ Below w.heap.size w w' := by
  obtain ⟨i0, hi, hz0, hz1, hz2⟩ := info_parts info_u8_
  have hmk : ∀ W : World, (Instr.makeSlice 24 (.int .i64 20) (.int .i64 20)).run Try.prog W = .ok (.slice (some ⟨W.heap.size, 0, none⟩) 20 20) (W.alloc (.cells (Array.replicate 20 (.int .u8 0)) 5)) := fun W => make_one (P := Try.prog) 24 5 i0 _ Try.underlying24 hi hz0 hz1 rfl .i64 .i64 20 (by rw [hz2]; omega) (by omega) W
  have g5 := get5
  have s5 := str5
  have hL8 : ([8, 0, 247, 250, 0, 5, 0, 0] : List Int).length = 8 := rfl
  obtain ⟨L, hL⟩ : ∃ L : List Int, L = [8, 0, 247, 250, 0, 5, 0, 0] := ⟨_, rfl⟩
  rw [← hL] at s5 hL8
  replace hL8 := Lib.hid hL8
  replace g5 := Lib.hid g5
  replace s5 := Lib.hid s5
  replace hL := Lib.hid hL
  go_enter Try.func14, Try.ntmps14
  go_wp2_with fail
  refine (pEcho_any false 5 [] none 0 0 0 _ (Rd.nil _ _ _ _) (Nat.zero_le _) (Nat.le_refl _) (by omega) (by omega)).mono ?_
  rintro e w1 ⟨v1, rfl, own1, bel1⟩
  rw [echo5, ← hL.out] at own1
  obtain ⟨A1, c1, rfl, hc1, hc2, rd1⟩ := own1.form hL8.out
  clear own1
  have ownz := Own.new .u8 w1 5 w.heap.size bel1.size (List.replicate 20 0) (fun x hx => by rw [List.eq_of_mem_replicate hx]; exact u8_inr (by omega)) (Array.replicate 20 (.int .u8 0)) (by rfl) 20 rfl (by decide)
  have rdz := rd1.alloc (Nat.le_refl _) (.cells (Array.replicate 20 (.int .u8 0)) 5)
  have belz := bel1.alloc bel1.size (.cells (Array.replicate 20 (.int .u8 0)) 5)
  have hszz : (w1.alloc (.cells (Array.replicate 20 (.int .u8 0)) 5)).heap.size = w1.heap.size + 1 := by simp
  go_wp2_with (at_builtin; go_loud (refine wpList_app _ rfl (.tmp 7) (.tmp 8) 24 rfl .u8 w.heap.size 5 i0 (.int .u8 0) 1 Try.underlying24 hi hz0 hz1 hz2 rfl _ (by rfl) _ ownz w1.heap.size _ 8 c1 (by rfl) L rdz (by simp) (by decide) (by rw [hszz]; have := bel1.size; omega) ?_; intro v2 w2 own2 hg2 hb2))
  have hL28 : (List.replicate 20 0 ++ L).length = 28 := by rw [List.length_append, hL8.out]; rfl
  obtain ⟨A2, c2, rfl, hc3, hc4, rd2⟩ := own2.form hL28
  unfold maxLen at hc4
  have bel2 : Below w.heap.size w w2 := belz.grown hg2 (by simp; have := bel1.size; omega) (fun k h => by simp [Value.ownBlock] at h; have := bel1.size; omega)
  have hget := PGet_any ⟨20, 28, 0, 1, 0, 0⟩ _ A2 28 c2 _ w2 rd2 (Nat.le_refl _) hc3 (by omega) (by omega) (by simp only; omega) (by simp only; omega)
  rw [show List.replicate 20 0 ++ L = [0, 0, 0, 0, 0, 0, 0, 0, 0, 0, 0, 0, 0, 0, 0, 0, 0, 0, 0, 0, 8, 0, 247, 250, 0, 5, 0, 0] by rw [hL.out]; rfl, g5.out] at hget
  have rd3 : Rd .u8 w2 w2.heap.size A1 8 L := (rdz.grown hg2 (by simp) (fun g h => by simp [Value.ownBlock] at h; omega)).more (by have := hg2.size; simp at this; omega)
  simp only [Tells, Pt.val, Hd.val, Hd.z] at hget
  clear own2 rd2 hg2 hb2 ownz rdz belz rd1 bel1 hszz
  refine hget.mono ?_
  rintro e w3 ⟨rfl, hb⟩
  have bel3 := bel_after bel2 hb
  have hb4 := below_setRow (hb.alloc hb.size (.cells #[.int .i64 0, .int .u16 0, .int .u16 0, .int .i64 0, .int .i64 0, .int .i64 0, .bool false, .int .i64 0, .int .i64 0, .int .i64 0, .int .i64 0, .int .u32 0, .int .u32 0, .int .i64 0, .bool false] 37)) hb.size #[.int .i64 1, .int .u16 5, .int .u16 5, .int .i64 0, .int .i64 8, .int .i64 0, .bool false, .int .i64 0, .int .i64 0, .int .i64 0, .int .i64 0, .int .u32 0, .int .u32 0, .int .i64 0, .bool false]
  have bel4 := below_setRow (bel3.alloc bel3.size (.cells #[.int .i64 0, .int .u16 0, .int .u16 0, .int .i64 0, .int .i64 0, .int .i64 0, .bool false, .int .i64 0, .int .i64 0, .int .i64 0, .int .i64 0, .int .u32 0, .int .u32 0, .int .i64 0, .bool false] 37)) bel3.size #[.int .i64 1, .int .u16 5, .int .u16 5, .int .i64 0, .int .i64 8, .int .i64 0, .bool false, .int .i64 0, .int .i64 0, .int .i64 0, .int .i64 0, .int .u32 0, .int .u32 0, .int .i64 0, .bool false]
  have bp := (Blk.new w3 37 #[.int .i64 0, .int .u16 0, .int .u16 0, .int .i64 0, .int .i64 0, .int .i64 0, .bool false, .int .i64 0, .int .i64 0, .int .i64 0, .int .i64 0, .int .u32 0, .int .u32 0, .int .i64 0, .bool false]).setRow #[.int .i64 1, .int .u16 5, .int .u16 5, .int .i64 0, .int .i64 8, .int .i64 0, .bool false, .int .i64 0, .int .i64 0, .int .i64 0, .int .i64 0, .int .u32 0, .int .u32 0, .int .i64 0, .bool false]
  have rd4 := rd3.below hb4
  clear hb4 hb rd3 bel3 bel2
  go_wp2_with (refine wpList_stRow rfl rfl rfl rfl rfl (Blk.new _ _ _) pt_size rfl (by simp [Value.oneCell']) ?_; generalize (w3.alloc (.cells #[.int .i64 0, .int .u16 0, .int .u16 0, .int .i64 0, .int .i64 0, .int .i64 0, .bool false, .int .i64 0, .int .i64 0, .int .i64 0, .int .i64 0, .int .u32 0, .int .u32 0, .int .i64 0, .bool false] 37)).setRow w3.heap.size #[.int .i64 1, .int .u16 5, .int .u16 5, .int .i64 0, .int .i64 8, .int .i64 0, .bool false, .int .i64 0, .int .i64 0, .int .i64 0, .int .i64 0, .int .u32 0, .int .u32 0, .int .i64 0, .bool false] = W4 at *; have hcv := conv_rd (P := Try.prog) rd4 24 5 9 (cap := c1) Try.underlying24 Try.underlying5 Try.underlying9; rw [s5.out] at hcv; have q4 := bp.cell 4; have q1 := bp.cell 1; generalize w3.heap.size = g3 at *)
  go_ret
  exact ⟨rfl, bel4⟩
end Go.Proofs.Ytfkmallagficfaa
