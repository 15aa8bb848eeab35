/- What is sent as a frame, by the document. -/
import Derived.Test.YtgfjdnbejmmckaaPart21
namespace Go.Proofs.Ytgfjdnbejmmckaa
set_option linter.unusedVariables false
set_option linter.unusedSimpArgs false
open Go.RowKit
theorem sn_size : (Try.prog.info? 26).map (·.size) = some 7 := by kernel_rfl
theorem carP_bd (k : Nat) : 0 ≤ carP k ∧ carP k ≤ 255 := by unfold carP; split; · omega
                                                            · split <;> omega
set_option maxRecDepth 100000 in
set_option maxHeartbeats 2000000 in
theorem Frame_any (wt s d a b f : Int) (l : List Int) (A : Option Addr) (len cap k : Nat) (w : World) (hr : Rd .u8 w w.heap.size A len l) (hlc : len ≤ cap) (hcm : cap ≤ 9223372036854775807) (hs : 0 ≤ s ∧ s ≤ 4294967295) (hd : 0 ≤ d ∧ d ≤ 4294967295) (ha : 0 ≤ a ∧ a ≤ 65535) (hb : 0 ≤ b ∧ b ≤ 65535)
    (hk : (IntKind.u64.wrap wt).tmod 7 = (k : Int)) (hk7 : k < 7) :
    Calls Try.prog 4 #[.agg #[.int .i64 wt, .int .u32 s, .int .u32 d, .int .u16 a, .int .u16 b, .int .i64 f, .slice A len cap]] w (Gives w (frameL k s d a b f (l.take 40))) := by
  have hll := carL_len k s d a b f (l.take 40) (by rw [List.length_take]; omega)
  have hP := carP_bd k
  have hca := fun w' (h : Below w.heap.size w w') => Carried_any wt s d a b f l A len cap k w' ((hr.below h).more h.size) hlc hcm hs hd ha hb hk hk7
  unfold frameL
  obtain ⟨C, hC⟩ : ∃ C, C = carL k s d a b f (l.take 40) := ⟨_, rfl⟩
  obtain ⟨P, hPe⟩ : ∃ P, P = carP k := ⟨_, rfl⟩
  rw [← hC] at hll hca ⊢
  rw [← hPe] at hP hca ⊢
  clear hC hPe hk hr
  obtain ⟨n, hn⟩ : ∃ n, C.length = n := ⟨_, rfl⟩
  rw [hn] at hll
  replace hn := Lib.hid hn
  replace hca := Lib.hid hca
  go_enter Try.func4, Try.ntmps4
  go_upto_region 1 with fail
  have bn := Blk.new w 26 #[.int .i64 wt, .int .u32 s, .int .u32 d, .int .u16 a, .int .u16 b, .int .i64 f, .slice A len cap]
  have bel := bel_alloc w (.cells #[.int .i64 wt, .int .u32 s, .int .u32 d, .int .u16 a, .int .u16 b, .int .i64 f, .slice A len cap] 26)
  generalize w.alloc (.cells #[.int .i64 wt, .int .u32 s, .int .u32 d, .int .u16 a, .int .u16 b, .int .i64 f, .slice A len cap] 26) = W at *
  go_wp2_with (refine wpList_ldRow rfl rfl rfl bn Try.underlying26 sn_size ?_)
  refine (hca.out _ bel).mono ?_
  rintro e w1 ⟨v1, rfl, own1, bel1⟩
  replace own1 := own1.mono_ bel.size
  replace bn := bn.bel bel1
  replace bel := bel_after bel bel1
  clear bel1
  obtain ⟨A1, c1, rfl, hc1, hc2, rd1⟩ := own1.form hn.out
  unfold maxLen at hc2
  clear own1
  have q1 := bn.cell 1
  have q2 := bn.cell 2
  go_wp2_with fail
  refine (rPut_any 0 0 64 P s d C A1 n c1 _ w1 rd1 (Nat.le_refl _) (by omega) hP hs hd (by omega)).mono ?_
  rintro e w2 ⟨v2, rfl, own2, bel2⟩
  replace own2 := own2.mono_ bel.size
  replace bel := bel_after bel bel2
  clear bel2 q1 q2 bn rd1
  go_wp2
  go_ret
  exact ⟨_, rfl, own2, bel⟩
end Go.Proofs.Ytgfjdnbejmmckaa
