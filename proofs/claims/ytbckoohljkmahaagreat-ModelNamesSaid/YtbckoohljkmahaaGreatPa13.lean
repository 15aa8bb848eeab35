/- What the laws' proofs lean on: plain facts and contracts of the program's functions, laid together (13). -/
import Derived.Test.YtbckoohljkmahaaGreatPa12
import Derived.Test.YtbckoohljkmahaaGreatPa02
import Derived.Test.YtbckoohljkmahaaGreatPa08
import Derived.Test.YtbckoohljkmahaaGreatProg
import Derived.Test.YtbckoohljkmahaaGreatPa01
import Derived.Maps.OwnOps
import Derived.Maps.OwnSet
import Derived.Maps.Views
import Derived.Test.YtbckoohljkmahaaGreatPa07
import Derived.RegionTactic
import Derived.Deep.DeepCutAuto
import Derived.Deep.CutBlock
namespace Go.Proofs.YtbckoohljkmahaaGreat
set_option linter.unusedVariables false
set_option linter.unusedSimpArgs false
open Go.RowKit
theorem sn_size : (Tryz.prog.info? 73).map (·.size) = some 7 := by kernel_rfl
theorem carP_bd (k : Nat) : 0 ≤ carP k ∧ carP k ≤ 255 := by unfold carP; split; · omega
                                                            · split <;> omega
set_option maxRecDepth 100000 in
set_option maxHeartbeats 2000000 in
theorem Frame_any (wt s d a b f : Int) (l : List Int) (A : Option Addr) (len cap k : Nat) (w : World) (hr : Rd .u8 w w.heap.size A len l) (hlc : len ≤ cap) (hcm : cap ≤ 9223372036854775807) (hs : 0 ≤ s ∧ s ≤ 4294967295) (hd : 0 ≤ d ∧ d ≤ 4294967295) (ha : 0 ≤ a ∧ a ≤ 65535) (hb : 0 ≤ b ∧ b ≤ 65535)
    (hk : (IntKind.u64.wrap wt).tmod 7 = (k : Int)) (hk7 : k < 7) :
    Calls Tryz.prog 25 #[.agg #[.int .i64 wt, .int .u32 s, .int .u32 d, .int .u16 a, .int .u16 b, .int .i64 f, .slice A len cap]] w (Gives w (frameL k s d a b f (l.take 40))) := by
  have hll := carL_len k s d a b f (l.take 40) (by rw [List.length_take]; omega)
  have hP := carP_bd k
  have hca := fun w' (h : Below w.heap.size w w') => Carried_any wt s d a b f l A len cap k w' ((hr.below h).more h.size) hlc hcm hs hd ha hb hk hk7
  unfold frameL
  obtain ⟨C, hC⟩ : ∃ C, C = carL k s d a b f (l.take 40) := ⟨_, rfl⟩
  obtain ⟨P, hPe⟩ : ∃ P, P = carP k := ⟨_, rfl⟩
  rw [← hC] at hll hca ⊢
  rw [← hPe] at hP hca ⊢
  clear hC hPe hk hr
  obtain ⟨n, hn⟩ : ∃ n, C.length = n := ⟨_, rfl⟩
  rw [hn] at hll
  replace hn := Lib.hid hn
  replace hca := Lib.hid hca
  go_enter Tryz.func25, Tryz.ntmps25
  go_upto_region 1 with fail
  have bn := Blk.new w 73 #[.int .i64 wt, .int .u32 s, .int .u32 d, .int .u16 a, .int .u16 b, .int .i64 f, .slice A len cap]
  have bel := bel_alloc w (.cells #[.int .i64 wt, .int .u32 s, .int .u32 d, .int .u16 a, .int .u16 b, .int .i64 f, .slice A len cap] 73)
  generalize w.alloc (.cells #[.int .i64 wt, .int .u32 s, .int .u32 d, .int .u16 a, .int .u16 b, .int .i64 f, .slice A len cap] 73) = W at *
  go_wp2_with (refine wpList_ldRow rfl rfl rfl bn Tryz.underlying73 sn_size ?_)
  refine (hca.out _ bel).mono ?_
  rintro e w1 ⟨v1, rfl, own1, bel1⟩
  replace own1 := own1.mono_ bel.size
  replace bn := bn.bel bel1
  replace bel := bel_after bel bel1
  clear bel1
  obtain ⟨A1, c1, rfl, hc1, hc2, rd1⟩ := own1.form hn.out
  unfold maxLen at hc2
  clear own1
  have q1 := bn.cell 1
  have q2 := bn.cell 2
  go_wp2_with fail
  refine (rPut_any 0 0 64 P s d C A1 n c1 _ w1 rd1 (Nat.le_refl _) (by omega) hP hs hd (by omega)).mono ?_
  rintro e w2 ⟨v2, rfl, own2, bel2⟩
  replace own2 := own2.mono_ bel.size
  replace bel := bel_after bel bel2
  clear bel2 q1 q2 bn rd1
  go_wp2
  go_ret
  exact ⟨_, rfl, own2, bel⟩
end Go.Proofs.YtbckoohljkmahaaGreat
namespace Go.Proofs.YtbckoohljkmahaaGreat
set_option linter.unusedVariables false
set_option linter.unusedSimpArgs false
open Go.RowKit
def RightRes (w : World) (n : Nat) (e : Ending) (w' : World) : Prop := ∃ L : List Int, L.length = n ∧ Gives w L e w'
set_option maxRecDepth 100000 in
set_option maxHeartbeats 4000000 in
theorem Right_any (h : Hd) (l : List Int) (A : Option Addr) (len c : Nat) (w : World) (hr : Rd .u8 w w.heap.size A len l) (hl : len ≤ 60000) (hs : 0 ≤ h.src ∧ h.src ≤ 4294967295) (hd : 0 ≤ h.dst ∧ h.dst ≤ 4294967295) :
    Calls Tryz.prog 39 #[h.val, .slice A len c] w (RightRes w len) := by
  obtain ⟨i0, hi, hz0, hz1, hz2⟩ := info_parts info_u8_
  have hlen := Lib.hid hr.len
  obtain ⟨h0, h1, h2, h3, h4, h5⟩ := h
  unfold Hd.val
  simp only at hs hd ⊢
  by_cases g1 : h0 < 20
  · go_enter Tryz.func39, Tryz.ntmps39
    go_upto_region 1 with fail
    have bh := Blk.new w 67 #[.int .i64 h0, .int .i64 h1, .int .i64 h2, .int .i64 h3, .int .u32 h4, .int .u32 h5]
    have bel := bel_alloc w (.cells #[.int .i64 h0, .int .i64 h1, .int .i64 h2, .int .i64 h3, .int .u32 h4, .int .u32 h5] 67)
    generalize w.alloc (.cells #[.int .i64 h0, .int .i64 h1, .int .i64 h2, .int .i64 h3, .int .u32 h4, .int .u32 h5] 67) = W at *
    have own0 := Own.new .u8 W 5 w.heap.size bel.size [] (by simp) #[] rfl 0 rfl (by simp)
    have hr2 := ((hr.below bel).alloc bel.size (.cells #[] 5))
    have bel0 := bel.alloc bel.size (.cells #[] 5)
    have hW := bel.size
    have bh0 := bh.alloc (.cells #[] 5)
    have hgh : w.heap.size < W.heap.size := bh.lt
    go_upto_region 2 with (at_builtin; refine wpList_app _ rfl (.tmp 9) (.tmp 10) 22 rfl .u8 w.heap.size 5 i0 (.int .u8 0) 1 Tryz.underlying22 hi hz0 hz1 hz2 rfl (.slice (some ⟨W.heap.size, 0, none⟩) 0 0) rfl [] own0 w.heap.size _ _ _ rfl l hr2 (by simp; omega) (by decide) (by simp; omega) ?_; intro v1 w1 own1 hg1 hv1; rw [List.nil_append] at own1; have bel1 : Below w.heap.size w w1 := bel0.grown hg1 (by simp; omega) (fun k h => by simp [Value.ownBlock] at h; omega); replace bh := bh0.grown hg1 (by simp [Value.ownBlock]; omega); clear hg1 own0 hr2 bel0 bh0)
    have q0 := bh.cell 0
    have q1 := bh.cell 1
    have q3 := bh.cell 3
    go_wp2
    go_ret
    exact ⟨l, hlen.out, _, rfl, own1, bel1⟩
  by_cases g2 : h1 < h0
  · go_enter Tryz.func39, Tryz.ntmps39
    go_upto_region 1 with fail
    have bh := Blk.new w 67 #[.int .i64 h0, .int .i64 h1, .int .i64 h2, .int .i64 h3, .int .u32 h4, .int .u32 h5]
    have bel := bel_alloc w (.cells #[.int .i64 h0, .int .i64 h1, .int .i64 h2, .int .i64 h3, .int .u32 h4, .int .u32 h5] 67)
    generalize w.alloc (.cells #[.int .i64 h0, .int .i64 h1, .int .i64 h2, .int .i64 h3, .int .u32 h4, .int .u32 h5] 67) = W at *
    have own0 := Own.new .u8 W 5 w.heap.size bel.size [] (by simp) #[] rfl 0 rfl (by simp)
    have hr2 := ((hr.below bel).alloc bel.size (.cells #[] 5))
    have bel0 := bel.alloc bel.size (.cells #[] 5)
    have hW := bel.size
    have bh0 := bh.alloc (.cells #[] 5)
    have hgh : w.heap.size < W.heap.size := bh.lt
    go_upto_region 2 with (at_builtin; refine wpList_app _ rfl (.tmp 9) (.tmp 10) 22 rfl .u8 w.heap.size 5 i0 (.int .u8 0) 1 Tryz.underlying22 hi hz0 hz1 hz2 rfl (.slice (some ⟨W.heap.size, 0, none⟩) 0 0) rfl [] own0 w.heap.size _ _ _ rfl l hr2 (by simp; omega) (by decide) (by simp; omega) ?_; intro v1 w1 own1 hg1 hv1; rw [List.nil_append] at own1; have bel1 : Below w.heap.size w w1 := bel0.grown hg1 (by simp; omega) (fun k h => by simp [Value.ownBlock] at h; omega); replace bh := bh0.grown hg1 (by simp [Value.ownBlock]; omega); clear hg1 own0 hr2 bel0 bh0)
    have q0 := bh.cell 0
    have q1 := bh.cell 1
    have q3 := bh.cell 3
    go_wp2
    go_ret
    exact ⟨l, hlen.out, _, rfl, own1, bel1⟩
  by_cases g3 : (len : Int) < h1
  · go_enter Tryz.func39, Tryz.ntmps39
    go_upto_region 1 with fail
    have bh := Blk.new w 67 #[.int .i64 h0, .int .i64 h1, .int .i64 h2, .int .i64 h3, .int .u32 h4, .int .u32 h5]
    have bel := bel_alloc w (.cells #[.int .i64 h0, .int .i64 h1, .int .i64 h2, .int .i64 h3, .int .u32 h4, .int .u32 h5] 67)
    generalize w.alloc (.cells #[.int .i64 h0, .int .i64 h1, .int .i64 h2, .int .i64 h3, .int .u32 h4, .int .u32 h5] 67) = W at *
    have own0 := Own.new .u8 W 5 w.heap.size bel.size [] (by simp) #[] rfl 0 rfl (by simp)
    have hr2 := ((hr.below bel).alloc bel.size (.cells #[] 5))
    have bel0 := bel.alloc bel.size (.cells #[] 5)
    have hW := bel.size
    have bh0 := bh.alloc (.cells #[] 5)
    have hgh : w.heap.size < W.heap.size := bh.lt
    go_upto_region 2 with (at_builtin; refine wpList_app _ rfl (.tmp 9) (.tmp 10) 22 rfl .u8 w.heap.size 5 i0 (.int .u8 0) 1 Tryz.underlying22 hi hz0 hz1 hz2 rfl (.slice (some ⟨W.heap.size, 0, none⟩) 0 0) rfl [] own0 w.heap.size _ _ _ rfl l hr2 (by simp; omega) (by decide) (by simp; omega) ?_; intro v1 w1 own1 hg1 hv1; rw [List.nil_append] at own1; have bel1 : Below w.heap.size w w1 := bel0.grown hg1 (by simp; omega) (fun k h => by simp [Value.ownBlock] at h; omega); replace bh := bh0.grown hg1 (by simp [Value.ownBlock]; omega); clear hg1 own0 hr2 bel0 bh0)
    have q0 := bh.cell 0
    have q1 := bh.cell 1
    have q3 := bh.cell 3
    obtain ⟨A1, c1, rfl, hc1, hc2, rd1⟩ := own1.form hlen.out
    go_wp2
    go_ret
    exact ⟨l, hlen.out, _, rfl, own1, bel1⟩
  obtain ⟨m, rfl⟩ : ∃ m : Nat, h0 = (m : Int) := ⟨h0.toNat, by omega⟩
  obtain ⟨n, rfl⟩ : ∃ n : Nat, h1 = (n : Int) := ⟨h1.toNat, by omega⟩
  have hm1 : 20 ≤ m := by omega
  have hm3 : m ≤ n := by omega
  have hm4 : n ≤ len := by omega
  have d1 : decide ((m : Int) < 20) = false := by simp; omega
  have d2 : decide ((n : Int) < m) = false := by simp; omega
  have d3 : decide ((len : Int) < n) = false := by simp; omega
  clear g1 g2 g3
  by_cases h17 : h3 = 17
  · subst h17
    by_cases g4 : n - m < 8
    · have d4 : decide (((n - m : Nat) : Int) < 8) = true := by simp; omega
      go_enter Tryz.func39, Tryz.ntmps39
      go_upto_region 1 with fail
      have bh := Blk.new w 67 #[.int .i64 (m : Int), .int .i64 (n : Int), .int .i64 h2, .int .i64 17, .int .u32 h4, .int .u32 h5]
      have bel := bel_alloc w (.cells #[.int .i64 (m : Int), .int .i64 (n : Int), .int .i64 h2, .int .i64 17, .int .u32 h4, .int .u32 h5] 67)
      generalize w.alloc (.cells #[.int .i64 (m : Int), .int .i64 (n : Int), .int .i64 h2, .int .i64 17, .int .u32 h4, .int .u32 h5] 67) = W at *
      have own0 := Own.new .u8 W 5 w.heap.size bel.size [] (by simp) #[] rfl 0 rfl (by simp)
      have hr2 := ((hr.below bel).alloc bel.size (.cells #[] 5))
      have bel0 := bel.alloc bel.size (.cells #[] 5)
      have hW := bel.size
      have bh0 := bh.alloc (.cells #[] 5)
      have hgh : w.heap.size < W.heap.size := bh.lt
      go_upto_region 2 with (at_builtin; refine wpList_app _ rfl (.tmp 9) (.tmp 10) 22 rfl .u8 w.heap.size 5 i0 (.int .u8 0) 1 Tryz.underlying22 hi hz0 hz1 hz2 rfl (.slice (some ⟨W.heap.size, 0, none⟩) 0 0) rfl [] own0 w.heap.size _ _ _ rfl l hr2 (by simp; omega) (by decide) (by simp; omega) ?_; intro v1 w1 own1 hg1 hv1; rw [List.nil_append] at own1; have bel1 : Below w.heap.size w w1 := bel0.grown hg1 (by simp; omega) (fun k h => by simp [Value.ownBlock] at h; omega); replace bh := bh0.grown hg1 (by simp [Value.ownBlock]; omega); clear hg1 own0 hr2 bel0 bh0)
      have q0 := bh.cell 0
      have q1 := bh.cell 1
      have q3 := bh.cell 3
      obtain ⟨g, c1, rfl, hc1, hc2, hgb, hgw⟩ := own1.formG hlen.out (by omega)
      unfold maxLen at hc2
      obtain ⟨A2, hA2⟩ : ∃ A2 : Option Addr, (if c1 = m then some ⟨g, 0, none⟩ else some ⟨g, m, none⟩) = A2 := ⟨_, rfl⟩
      go_wp2
      go_ret
      exact ⟨l, hlen.out, _, rfl, own1, bel1⟩
    have d4 : decide (((n - m : Nat) : Int) < 8) = false := by simp; omega
    go_enter Tryz.func39, Tryz.ntmps39
    go_upto_region 1 with fail
    have bh := Blk.new w 67 #[.int .i64 (m : Int), .int .i64 (n : Int), .int .i64 h2, .int .i64 17, .int .u32 h4, .int .u32 h5]
    have bel := bel_alloc w (.cells #[.int .i64 (m : Int), .int .i64 (n : Int), .int .i64 h2, .int .i64 17, .int .u32 h4, .int .u32 h5] 67)
    generalize w.alloc (.cells #[.int .i64 (m : Int), .int .i64 (n : Int), .int .i64 h2, .int .i64 17, .int .u32 h4, .int .u32 h5] 67) = W at *
    have own0 := Own.new .u8 W 5 w.heap.size bel.size [] (by simp) #[] rfl 0 rfl (by simp)
    have hr2 := ((hr.below bel).alloc bel.size (.cells #[] 5))
    have bel0 := bel.alloc bel.size (.cells #[] 5)
    have hW := bel.size
    have bh0 := bh.alloc (.cells #[] 5)
    have hgh : w.heap.size < W.heap.size := bh.lt
    go_upto_region 2 with (at_builtin; refine wpList_app _ rfl (.tmp 9) (.tmp 10) 22 rfl .u8 w.heap.size 5 i0 (.int .u8 0) 1 Tryz.underlying22 hi hz0 hz1 hz2 rfl (.slice (some ⟨W.heap.size, 0, none⟩) 0 0) rfl [] own0 w.heap.size _ _ _ rfl l hr2 (by simp; omega) (by decide) (by simp; omega) ?_; intro v1 w1 own1 hg1 hv1; rw [List.nil_append] at own1; have bel1 : Below w.heap.size w w1 := bel0.grown hg1 (by simp; omega) (fun k h => by simp [Value.ownBlock] at h; omega); replace bh := bh0.grown hg1 (by simp [Value.ownBlock]; omega); clear hg1 own0 hr2 bel0 bh0)
    have q0 := bh.cell 0
    have q1 := bh.cell 1
    have q3 := bh.cell 3
    obtain ⟨g, c1, rfl, hc1, hc2, hgb, hgw⟩ := own1.formG hlen.out (by omega)
    unfold maxLen at hc2
    have hcm1 : (c1 = m) = False := by simp; omega
    obtain ⟨k0, z0, _⟩ := own1.at_ hlen.out (j := m + 6) (by omega)
    obtain ⟨k1, z1, _⟩ := own1.at_ hlen.out (j := m + 6 + 1) (by omega)
    go_upto_region 16 with fail
    have hgne := own1.ne bh (by decide)
    have own2 := (own1.set hlen.out (m + 6) (x := 0) (u8_inr (by omega))).set (by rw [List.length_set]; exact hlen.out) (m + 7) (x := 0) (u8_inr (by omega))
    have bel2 := (bel1.setCell (p := ⟨g, m + 6, none⟩) hgb (.int .u8 0)).setCell (p := ⟨g, m + 7, none⟩) hgb (.int .u8 0)
    replace bh := (bh.far (p := ⟨g, m + 6, none⟩) hgne (.int .u8 0)).far (p := ⟨g, m + 7, none⟩) hgne (.int .u8 0)
    obtain ⟨L2, hL2, hLl⟩ : ∃ L2, L2 = (l.set (m + 6) 0).set (m + 7) 0 ∧ L2.length = len := ⟨_, rfl, by rw [List.length_set, List.length_set, hlen.out]⟩
    rw [← hL2] at own2
    clear hL2 own1 k0 k1 z0 z1 q0 q1 q3
    replace hLl := Lib.hid hLl
    generalize (w1.setCell ⟨g, m + 6, none⟩ (.int .u8 0)).setCell ⟨g, m + 7, none⟩ (.int .u8 0) = W2 at *
    have rd3 := (own2.rd hLl.out).sub m (n - m) (by omega)
    rw [Nat.zero_add] at rd3
    have hSb := sumOf_bd (fun x hx => inr_u8 (rd3.rng x hx))
    have q3 := bh.cell 3
    have q4 := bh.cell 4
    have q5 := bh.cell 5
    go_wp2_with fail
    refine (rOf_any (seg L2 m (n - m)) _ (n - m) (c1 - m) _ W2 (by omega) rd3).mono ?_
    rintro e W3 ⟨rfl, rfl⟩
    generalize sumOf (seg L2 m (n - m)) = S at *
    go_wp2_with fail
    refine (Pseudo_any h4 h5 17 (seg L2 m (n - m)) _ (n - m) (c1 - m) _ W2 rd3 (Nat.le_refl _) hs hd (by omega) (by omega)).mono ?_
    have hTb : 0 ≤ csum h4 h5 17 (seg L2 m (n - m)) ∧ csum h4 h5 17 (seg L2 m (n - m)) ≤ 65535 := csum_bd hs hd (by omega) (by rw [rd3.len]; omega) (fun x hx => inr_u8 (rd3.rng x hx))
    rintro e W3 ⟨rfl, hb⟩
    replace own2 := own2.below hb
    replace bel2 := bel_after bel2 hb
    clear hb rd3 q3 q4 q5 bh hSb
    generalize csum h4 h5 17 (seg L2 m (n - m)) = S at *
    have hSw : IntKind.u8.wrap S = S % 256 := IntKind.wrap_u8' _
    obtain ⟨k0, z0, _⟩ := own2.at_ hLl.out (j := m + 6) (by omega)
    obtain ⟨k1, z1, _⟩ := own2.at_ hLl.out (j := m + 7) (by omega)
    have own3 := (own2.set hLl.out (m + 6) (x := S / 256) (u8_inr (by omega))).set (by rw [List.length_set]; exact hLl.out) (m + 7) (x := S % 256) (u8_inr (by omega))
    have bel3 := (bel2.setCell (p := ⟨g, m + 6, none⟩) hgb (.int .u8 (S / 256))).setCell (p := ⟨g, m + 7, none⟩) hgb (.int .u8 (S % 256))
    go_wp2
    go_ret
    exact ⟨_, by rw [List.length_set, List.length_set, hLl.out], _, rfl, own3, bel3⟩
  by_cases h6 : h3 = 6
  · subst h6
    by_cases g4 : n - m < 18
    · have d4 : decide (((n - m : Nat) : Int) < 18) = true := by simp; omega
      go_enter Tryz.func39, Tryz.ntmps39
      go_upto_region 1 with fail
      have bh := Blk.new w 67 #[.int .i64 (m : Int), .int .i64 (n : Int), .int .i64 h2, .int .i64 6, .int .u32 h4, .int .u32 h5]
      have bel := bel_alloc w (.cells #[.int .i64 (m : Int), .int .i64 (n : Int), .int .i64 h2, .int .i64 6, .int .u32 h4, .int .u32 h5] 67)
      generalize w.alloc (.cells #[.int .i64 (m : Int), .int .i64 (n : Int), .int .i64 h2, .int .i64 6, .int .u32 h4, .int .u32 h5] 67) = W at *
      have own0 := Own.new .u8 W 5 w.heap.size bel.size [] (by simp) #[] rfl 0 rfl (by simp)
      have hr2 := ((hr.below bel).alloc bel.size (.cells #[] 5))
      have bel0 := bel.alloc bel.size (.cells #[] 5)
      have hW := bel.size
      have bh0 := bh.alloc (.cells #[] 5)
      have hgh : w.heap.size < W.heap.size := bh.lt
      go_upto_region 2 with (at_builtin; refine wpList_app _ rfl (.tmp 9) (.tmp 10) 22 rfl .u8 w.heap.size 5 i0 (.int .u8 0) 1 Tryz.underlying22 hi hz0 hz1 hz2 rfl (.slice (some ⟨W.heap.size, 0, none⟩) 0 0) rfl [] own0 w.heap.size _ _ _ rfl l hr2 (by simp; omega) (by decide) (by simp; omega) ?_; intro v1 w1 own1 hg1 hv1; rw [List.nil_append] at own1; have bel1 : Below w.heap.size w w1 := bel0.grown hg1 (by simp; omega) (fun k h => by simp [Value.ownBlock] at h; omega); replace bh := bh0.grown hg1 (by simp [Value.ownBlock]; omega); clear hg1 own0 hr2 bel0 bh0)
      have q0 := bh.cell 0
      have q1 := bh.cell 1
      have q3 := bh.cell 3
      obtain ⟨g, c1, rfl, hc1, hc2, hgb, hgw⟩ := own1.formG hlen.out (by omega)
      unfold maxLen at hc2
      obtain ⟨A2, hA2⟩ : ∃ A2 : Option Addr, (if c1 = m then some ⟨g, 0, none⟩ else some ⟨g, m, none⟩) = A2 := ⟨_, rfl⟩
      go_wp2
      go_ret
      exact ⟨l, hlen.out, _, rfl, own1, bel1⟩
    have d4 : decide (((n - m : Nat) : Int) < 18) = false := by simp; omega
    go_enter Tryz.func39, Tryz.ntmps39
    go_upto_region 1 with fail
    have bh := Blk.new w 67 #[.int .i64 (m : Int), .int .i64 (n : Int), .int .i64 h2, .int .i64 6, .int .u32 h4, .int .u32 h5]
    have bel := bel_alloc w (.cells #[.int .i64 (m : Int), .int .i64 (n : Int), .int .i64 h2, .int .i64 6, .int .u32 h4, .int .u32 h5] 67)
    generalize w.alloc (.cells #[.int .i64 (m : Int), .int .i64 (n : Int), .int .i64 h2, .int .i64 6, .int .u32 h4, .int .u32 h5] 67) = W at *
    have own0 := Own.new .u8 W 5 w.heap.size bel.size [] (by simp) #[] rfl 0 rfl (by simp)
    have hr2 := ((hr.below bel).alloc bel.size (.cells #[] 5))
    have bel0 := bel.alloc bel.size (.cells #[] 5)
    have hW := bel.size
    have bh0 := bh.alloc (.cells #[] 5)
    have hgh : w.heap.size < W.heap.size := bh.lt
    go_upto_region 2 with (at_builtin; refine wpList_app _ rfl (.tmp 9) (.tmp 10) 22 rfl .u8 w.heap.size 5 i0 (.int .u8 0) 1 Tryz.underlying22 hi hz0 hz1 hz2 rfl (.slice (some ⟨W.heap.size, 0, none⟩) 0 0) rfl [] own0 w.heap.size _ _ _ rfl l hr2 (by simp; omega) (by decide) (by simp; omega) ?_; intro v1 w1 own1 hg1 hv1; rw [List.nil_append] at own1; have bel1 : Below w.heap.size w w1 := bel0.grown hg1 (by simp; omega) (fun k h => by simp [Value.ownBlock] at h; omega); replace bh := bh0.grown hg1 (by simp [Value.ownBlock]; omega); clear hg1 own0 hr2 bel0 bh0)
    have q0 := bh.cell 0
    have q1 := bh.cell 1
    have q3 := bh.cell 3
    obtain ⟨g, c1, rfl, hc1, hc2, hgb, hgw⟩ := own1.formG hlen.out (by omega)
    unfold maxLen at hc2
    have hcm1 : (c1 = m) = False := by simp; omega
    obtain ⟨k0, z0, _⟩ := own1.at_ hlen.out (j := m + 16) (by omega)
    obtain ⟨k1, z1, _⟩ := own1.at_ hlen.out (j := m + 16 + 1) (by omega)
    go_upto_region 16 with fail
    have hgne := own1.ne bh (by decide)
    have own2 := (own1.set hlen.out (m + 16) (x := 0) (u8_inr (by omega))).set (by rw [List.length_set]; exact hlen.out) (m + 17) (x := 0) (u8_inr (by omega))
    have bel2 := (bel1.setCell (p := ⟨g, m + 16, none⟩) hgb (.int .u8 0)).setCell (p := ⟨g, m + 17, none⟩) hgb (.int .u8 0)
    replace bh := (bh.far (p := ⟨g, m + 16, none⟩) hgne (.int .u8 0)).far (p := ⟨g, m + 17, none⟩) hgne (.int .u8 0)
    obtain ⟨L2, hL2, hLl⟩ : ∃ L2, L2 = (l.set (m + 16) 0).set (m + 17) 0 ∧ L2.length = len := ⟨_, rfl, by rw [List.length_set, List.length_set, hlen.out]⟩
    rw [← hL2] at own2
    clear hL2 own1 k0 k1 z0 z1 q0 q1 q3
    replace hLl := Lib.hid hLl
    generalize (w1.setCell ⟨g, m + 16, none⟩ (.int .u8 0)).setCell ⟨g, m + 17, none⟩ (.int .u8 0) = W2 at *
    have rd3 := (own2.rd hLl.out).sub m (n - m) (by omega)
    rw [Nat.zero_add] at rd3
    have hSb := sumOf_bd (fun x hx => inr_u8 (rd3.rng x hx))
    have q3 := bh.cell 3
    have q4 := bh.cell 4
    have q5 := bh.cell 5
    go_wp2_with fail
    refine (rOf_any (seg L2 m (n - m)) _ (n - m) (c1 - m) _ W2 (by omega) rd3).mono ?_
    rintro e W3 ⟨rfl, rfl⟩
    generalize sumOf (seg L2 m (n - m)) = S at *
    go_wp2_with fail
    refine (Pseudo_any h4 h5 6 (seg L2 m (n - m)) _ (n - m) (c1 - m) _ W2 rd3 (Nat.le_refl _) hs hd (by omega) (by omega)).mono ?_
    have hTb : 0 ≤ csum h4 h5 6 (seg L2 m (n - m)) ∧ csum h4 h5 6 (seg L2 m (n - m)) ≤ 65535 := csum_bd hs hd (by omega) (by rw [rd3.len]; omega) (fun x hx => inr_u8 (rd3.rng x hx))
    rintro e W3 ⟨rfl, hb⟩
    replace own2 := own2.below hb
    replace bel2 := bel_after bel2 hb
    clear hb rd3 q3 q4 q5 bh hSb
    generalize csum h4 h5 6 (seg L2 m (n - m)) = S at *
    have hSw : IntKind.u8.wrap S = S % 256 := IntKind.wrap_u8' _
    obtain ⟨k0, z0, _⟩ := own2.at_ hLl.out (j := m + 16) (by omega)
    obtain ⟨k1, z1, _⟩ := own2.at_ hLl.out (j := m + 17) (by omega)
    have own3 := (own2.set hLl.out (m + 16) (x := S / 256) (u8_inr (by omega))).set (by rw [List.length_set]; exact hLl.out) (m + 17) (x := S % 256) (u8_inr (by omega))
    have bel3 := (bel2.setCell (p := ⟨g, m + 16, none⟩) hgb (.int .u8 (S / 256))).setCell (p := ⟨g, m + 17, none⟩) hgb (.int .u8 (S % 256))
    go_wp2
    go_ret
    exact ⟨_, by rw [List.length_set, List.length_set, hLl.out], _, rfl, own3, bel3⟩
  by_cases h1 : h3 = 1
  · subst h1
    by_cases g4 : n - m < 4
    · have d4 : decide (((n - m : Nat) : Int) < 4) = true := by simp; omega
      go_enter Tryz.func39, Tryz.ntmps39
      go_upto_region 1 with fail
      have bh := Blk.new w 67 #[.int .i64 (m : Int), .int .i64 (n : Int), .int .i64 h2, .int .i64 1, .int .u32 h4, .int .u32 h5]
      have bel := bel_alloc w (.cells #[.int .i64 (m : Int), .int .i64 (n : Int), .int .i64 h2, .int .i64 1, .int .u32 h4, .int .u32 h5] 67)
      generalize w.alloc (.cells #[.int .i64 (m : Int), .int .i64 (n : Int), .int .i64 h2, .int .i64 1, .int .u32 h4, .int .u32 h5] 67) = W at *
      have own0 := Own.new .u8 W 5 w.heap.size bel.size [] (by simp) #[] rfl 0 rfl (by simp)
      have hr2 := ((hr.below bel).alloc bel.size (.cells #[] 5))
      have bel0 := bel.alloc bel.size (.cells #[] 5)
      have hW := bel.size
      have bh0 := bh.alloc (.cells #[] 5)
      have hgh : w.heap.size < W.heap.size := bh.lt
      go_upto_region 2 with (at_builtin; refine wpList_app _ rfl (.tmp 9) (.tmp 10) 22 rfl .u8 w.heap.size 5 i0 (.int .u8 0) 1 Tryz.underlying22 hi hz0 hz1 hz2 rfl (.slice (some ⟨W.heap.size, 0, none⟩) 0 0) rfl [] own0 w.heap.size _ _ _ rfl l hr2 (by simp; omega) (by decide) (by simp; omega) ?_; intro v1 w1 own1 hg1 hv1; rw [List.nil_append] at own1; have bel1 : Below w.heap.size w w1 := bel0.grown hg1 (by simp; omega) (fun k h => by simp [Value.ownBlock] at h; omega); replace bh := bh0.grown hg1 (by simp [Value.ownBlock]; omega); clear hg1 own0 hr2 bel0 bh0)
      have q0 := bh.cell 0
      have q1 := bh.cell 1
      have q3 := bh.cell 3
      obtain ⟨g, c1, rfl, hc1, hc2, hgb, hgw⟩ := own1.formG hlen.out (by omega)
      unfold maxLen at hc2
      obtain ⟨A2, hA2⟩ : ∃ A2 : Option Addr, (if c1 = m then some ⟨g, 0, none⟩ else some ⟨g, m, none⟩) = A2 := ⟨_, rfl⟩
      go_wp2
      go_ret
      exact ⟨l, hlen.out, _, rfl, own1, bel1⟩
    have d4 : decide (((n - m : Nat) : Int) < 4) = false := by simp; omega
    go_enter Tryz.func39, Tryz.ntmps39
    go_upto_region 1 with fail
    have bh := Blk.new w 67 #[.int .i64 (m : Int), .int .i64 (n : Int), .int .i64 h2, .int .i64 1, .int .u32 h4, .int .u32 h5]
    have bel := bel_alloc w (.cells #[.int .i64 (m : Int), .int .i64 (n : Int), .int .i64 h2, .int .i64 1, .int .u32 h4, .int .u32 h5] 67)
    generalize w.alloc (.cells #[.int .i64 (m : Int), .int .i64 (n : Int), .int .i64 h2, .int .i64 1, .int .u32 h4, .int .u32 h5] 67) = W at *
    have own0 := Own.new .u8 W 5 w.heap.size bel.size [] (by simp) #[] rfl 0 rfl (by simp)
    have hr2 := ((hr.below bel).alloc bel.size (.cells #[] 5))
    have bel0 := bel.alloc bel.size (.cells #[] 5)
    have hW := bel.size
    have bh0 := bh.alloc (.cells #[] 5)
    have hgh : w.heap.size < W.heap.size := bh.lt
    go_upto_region 2 with (at_builtin; refine wpList_app _ rfl (.tmp 9) (.tmp 10) 22 rfl .u8 w.heap.size 5 i0 (.int .u8 0) 1 Tryz.underlying22 hi hz0 hz1 hz2 rfl (.slice (some ⟨W.heap.size, 0, none⟩) 0 0) rfl [] own0 w.heap.size _ _ _ rfl l hr2 (by simp; omega) (by decide) (by simp; omega) ?_; intro v1 w1 own1 hg1 hv1; rw [List.nil_append] at own1; have bel1 : Below w.heap.size w w1 := bel0.grown hg1 (by simp; omega) (fun k h => by simp [Value.ownBlock] at h; omega); replace bh := bh0.grown hg1 (by simp [Value.ownBlock]; omega); clear hg1 own0 hr2 bel0 bh0)
    have q0 := bh.cell 0
    have q1 := bh.cell 1
    have q3 := bh.cell 3
    obtain ⟨g, c1, rfl, hc1, hc2, hgb, hgw⟩ := own1.formG hlen.out (by omega)
    unfold maxLen at hc2
    have hcm1 : (c1 = m) = False := by simp; omega
    obtain ⟨k0, z0, _⟩ := own1.at_ hlen.out (j := m + 2) (by omega)
    obtain ⟨k1, z1, _⟩ := own1.at_ hlen.out (j := m + 2 + 1) (by omega)
    go_upto_region 16 with fail
    have hgne := own1.ne bh (by decide)
    have own2 := (own1.set hlen.out (m + 2) (x := 0) (u8_inr (by omega))).set (by rw [List.length_set]; exact hlen.out) (m + 3) (x := 0) (u8_inr (by omega))
    have bel2 := (bel1.setCell (p := ⟨g, m + 2, none⟩) hgb (.int .u8 0)).setCell (p := ⟨g, m + 3, none⟩) hgb (.int .u8 0)
    replace bh := (bh.far (p := ⟨g, m + 2, none⟩) hgne (.int .u8 0)).far (p := ⟨g, m + 3, none⟩) hgne (.int .u8 0)
    obtain ⟨L2, hL2, hLl⟩ : ∃ L2, L2 = (l.set (m + 2) 0).set (m + 3) 0 ∧ L2.length = len := ⟨_, rfl, by rw [List.length_set, List.length_set, hlen.out]⟩
    rw [← hL2] at own2
    clear hL2 own1 k0 k1 z0 z1 q0 q1 q3
    replace hLl := Lib.hid hLl
    generalize (w1.setCell ⟨g, m + 2, none⟩ (.int .u8 0)).setCell ⟨g, m + 3, none⟩ (.int .u8 0) = W2 at *
    have rd3 := (own2.rd hLl.out).sub m (n - m) (by omega)
    rw [Nat.zero_add] at rd3
    have hSb := sumOf_bd (fun x hx => inr_u8 (rd3.rng x hx))
    have q3 := bh.cell 3
    have q4 := bh.cell 4
    have q5 := bh.cell 5
    go_wp2_with fail
    refine (rOf_any (seg L2 m (n - m)) _ (n - m) (c1 - m) _ W2 (by omega) rd3).mono ?_
    rintro e W3 ⟨rfl, rfl⟩
    generalize sumOf (seg L2 m (n - m)) = S at *
    have hSw : IntKind.u8.wrap S = S % 256 := IntKind.wrap_u8' _
    obtain ⟨k0, z0, _⟩ := own2.at_ hLl.out (j := m + 2) (by omega)
    obtain ⟨k1, z1, _⟩ := own2.at_ hLl.out (j := m + 3) (by omega)
    have own3 := (own2.set hLl.out (m + 2) (x := S / 256) (u8_inr (by omega))).set (by rw [List.length_set]; exact hLl.out) (m + 3) (x := S % 256) (u8_inr (by omega))
    have bel3 := (bel2.setCell (p := ⟨g, m + 2, none⟩) hgb (.int .u8 (S / 256))).setCell (p := ⟨g, m + 3, none⟩) hgb (.int .u8 (S % 256))
    go_wp2
    go_ret
    exact ⟨_, by rw [List.length_set, List.length_set, hLl.out], _, rfl, own3, bel3⟩
  have e17 : (h3 == 17) = false := by simpa using h17
  have e6 : (h3 == 6) = false := by simpa using h6
  have e1 : (h3 == 1) = false := by simpa using h1
  go_enter Tryz.func39, Tryz.ntmps39
  go_upto_region 1 with fail
  have bh := Blk.new w 67 #[.int .i64 (m : Int), .int .i64 (n : Int), .int .i64 h2, .int .i64 h3, .int .u32 h4, .int .u32 h5]
  have bel := bel_alloc w (.cells #[.int .i64 (m : Int), .int .i64 (n : Int), .int .i64 h2, .int .i64 h3, .int .u32 h4, .int .u32 h5] 67)
  generalize w.alloc (.cells #[.int .i64 (m : Int), .int .i64 (n : Int), .int .i64 h2, .int .i64 h3, .int .u32 h4, .int .u32 h5] 67) = W at *
  have own0 := Own.new .u8 W 5 w.heap.size bel.size [] (by simp) #[] rfl 0 rfl (by simp)
  have hr2 := ((hr.below bel).alloc bel.size (.cells #[] 5))
  have bel0 := bel.alloc bel.size (.cells #[] 5)
  have hW := bel.size
  have bh0 := bh.alloc (.cells #[] 5)
  have hgh : w.heap.size < W.heap.size := bh.lt
  go_upto_region 2 with (at_builtin; refine wpList_app _ rfl (.tmp 9) (.tmp 10) 22 rfl .u8 w.heap.size 5 i0 (.int .u8 0) 1 Tryz.underlying22 hi hz0 hz1 hz2 rfl (.slice (some ⟨W.heap.size, 0, none⟩) 0 0) rfl [] own0 w.heap.size _ _ _ rfl l hr2 (by simp; omega) (by decide) (by simp; omega) ?_; intro v1 w1 own1 hg1 hv1; rw [List.nil_append] at own1; have bel1 : Below w.heap.size w w1 := bel0.grown hg1 (by simp; omega) (fun k h => by simp [Value.ownBlock] at h; omega); replace bh := bh0.grown hg1 (by simp [Value.ownBlock]; omega); clear hg1 own0 hr2 bel0 bh0)
  have q0 := bh.cell 0
  have q1 := bh.cell 1
  have q3 := bh.cell 3
  obtain ⟨g, c1, rfl, hc1, hc2, hgb, hgw⟩ := own1.formG hlen.out (by omega)
  unfold maxLen at hc2
  obtain ⟨A2, hA2⟩ : ∃ A2 : Option Addr, (if c1 = m then some ⟨g, 0, none⟩ else some ⟨g, m, none⟩) = A2 := ⟨_, rfl⟩
  go_wp2
  go_ret
  exact ⟨l, hlen.out, _, rfl, own1, bel1⟩
end Go.Proofs.YtbckoohljkmahaaGreat
namespace Go.Proofs.YtbckoohljkmahaaGreat
set_option linter.unusedVariables false
set_option linter.unusedSimpArgs false
open Go.RowKit
theorem fld_ints {P : Program} {W : World} {k : IntKind} {e : TypeId} {fs : Array Field} {m i : Nat} {f : Field} {cs : List Value} (hf : ∀ (i : Nat) (f : Field), fs[i]? = some f → Rdg P W m f.type ((cs.drop f.offset).take (P.cellsOf f.type)))
    (hi : fs[i]? = some f) (ht : P.underlying f.type = some (.slice e)) (he : P.underlying e = some (.int k)) (hCe : P.cellsOf e = 1) (hC : P.cellsOf f.type = 1) :
    ∃ A len cap l, cs[f.offset]? = some (.slice A len cap) ∧ len ≤ cap ∧ cap ≤ maxLen ∧ Rd k W W.heap.size A len l := by
  have h := hf i f hi
  rw [hC] at h
  obtain ⟨A, len, cap, l, hcs, h3, h4, h5⟩ := rdg_ints ht he hCe h
  refine ⟨A, len, cap, l, ?_, h3, h4, h5⟩
  have : ((cs.drop f.offset).take 1)[0]? = some (.slice A len cap) := by rw [hcs]; rfl
  simpa using this
/-- what a frame's head tells -/
theorem frame_head {P s d : Int} {l : List Int} (hP : 0 ≤ P ∧ P ≤ 255) (hs : 0 ≤ s ∧ s ≤ 4294967295) (hd : 0 ≤ d ∧ d ≤ 4294967295) (hl : l.length ≤ 1480) : getE (putL 64 P s d l) = 0 ∧ hdIf (putL 64 P s d l) 0 = ⟨20, 20 + l.length, 64, P, s, d⟩ := by
  have h := put_get (t := 64) (p := P) (s := s) (d := d) (l := l) (by omega) hP hs hd hl []
  rw [List.append_nil] at h
  refine ⟨h.1, ?_⟩
  unfold hdIf
  rw [if_pos rfl, h.2]
end Go.Proofs.YtbckoohljkmahaaGreat
namespace Go.Proofs.YtbckoohljkmahaaGreat
set_option linter.unusedVariables false
set_option linter.unusedSimpArgs false
open Go.RowKit
def Cl (l : List Int) : Prop := ∃ q : Int, 0 < q ∧ sb true l = 65535 * q
theorem Cl.zero {l : List Int} (h : Cl l) : sumOf l = 0 := by obtain ⟨q, h1, h2⟩ := h; exact sumOf_null l q h1 h2
theorem cl_of (l l0 : List Int) (h0 : 0 ≤ sb true l0) (h : sb true l = sb true l0 + sumOf l0) : Cl l := by
  unfold sumOf at h
  unfold Cl
  rw [h]
  generalize sb true l0 = A at *
  by_cases hA : A = 0
  · subst hA; exact ⟨1, by omega, by decide⟩
  · have : fo A = (A - 1) % 65535 + 1 := by unfold fo; rw [if_neg hA]
    rw [this]; exact ⟨(A - 1) / 65535 + 1, by omega, by omega⟩
theorem cl_nev (l l0 : List Int) (h0 : 0 ≤ sb true l0) (h : sb true l = sb true l0 + nev (sumOf l0)) : Cl l := by
  unfold nev at h
  by_cases hz : sumOf l0 = 0
  · rw [if_pos hz] at h
    unfold Cl
    rw [h]
    unfold sumOf at hz
    generalize sb true l0 = A at *
    by_cases hA : A = 0
    · subst hA; exact absurd hz (by decide)
    · have : fo A = (A - 1) % 65535 + 1 := by unfold fo; rw [if_neg hA]
      rw [this] at hz; exact ⟨(A - 1) / 65535 + 2, by omega, by omega⟩
  · rw [if_neg hz] at h
    exact cl_of l l0 h0 h
theorem udpB_sb (a b : Int) (l : List Int) (S : Int) : sb true (udpB a b l S) = sb true (udpB a b l 0) + S := by
  simp only [udpB, be2, List.cons_append, List.nil_append, sb]; omega
theorem tcpB_sb (a b f : Int) (l : List Int) (S : Int) : sb true (tcpB a b f l S) = sb true (tcpB a b f l 0) + S := by
  simp only [tcpB, be2, List.cons_append, List.nil_append, sb]; omega
theorem echoB_sb (k a : Int) (l : List Int) (S : Int) : sb true (echoB k a l S) = sb true (echoB k a l 0) + S := by
  simp only [echoB, be2, List.cons_append, List.nil_append, sb]; omega
def Bytes8 (l : List Int) : Prop := ∀ x, x ∈ l → 0 ≤ x ∧ x ≤ 255
theorem b8 {l : List Int} (h : ∀ x, x ∈ l → 0 ≤ x ∧ x ≤ 255) : Bytes8 l := h
theorem Bytes8.app {a b : List Int} (ha : Bytes8 a) (hb : Bytes8 b) : Bytes8 (a ++ b) := fun x hx => (List.mem_append.1 hx).elim (ha x) (hb x)
theorem Bytes8.take {a : List Int} (ha : Bytes8 a) (n : Nat) : Bytes8 (a.take n) := fun x hx => ha x (List.mem_of_mem_take hx)
theorem udpB_bd {a b : Int} {l : List Int} {S : Int} (ha : 0 ≤ a ∧ a ≤ 65535) (hb : 0 ≤ b ∧ b ≤ 65535) (hl : Bytes8 l) (hn : l.length ≤ 65527) (hS : 0 ≤ S ∧ S ≤ 65535) : Bytes8 (udpB a b l S) :=
  ((((b8 (be2_bd a ha)).app (be2_bd b hb)).app (be2_bd _ (by omega))).app (be2_bd S hS)).app hl
theorem tcpB_bd {a b f : Int} {l : List Int} {S : Int} (ha : 0 ≤ a ∧ a ≤ 65535) (hb : 0 ≤ b ∧ b ≤ 65535) (hl : Bytes8 l) (hS : 0 ≤ S ∧ S ≤ 65535) : Bytes8 (tcpB a b f l S) :=
  (((((b8 (be2_bd a ha)).app (be2_bd b hb)).app (fun x hx => by simp at hx; omega)).app (be2_bd S hS)).app (fun x hx => by simp at hx; omega)).app hl
theorem echoB_bd {k a : Int} {l : List Int} {S : Int} (hk : 0 ≤ k ∧ k ≤ 255) (ha : 0 ≤ a ∧ a ≤ 65535) (hl : Bytes8 l) (hS : 0 ≤ S ∧ S ≤ 65535) : Bytes8 (echoB k a l S) :=
  (((Bytes8.app (fun x hx => by simp at hx; omega) (be2_bd S hS)).app (be2_bd a ha)).app (fun x hx => by simp at hx; omega)).app hl
theorem few_len (l : List Int) : (fewL l).length ≤ 1400 := by unfold fewL; rw [List.length_take]; omega
theorem few_bd {l : List Int} (h : Bytes8 l) : Bytes8 (fewL l) := h.take _
theorem nev_bd {s : Int} (h : 0 ≤ s ∧ s ≤ 65535) : 0 ≤ nev s ∧ nev s ≤ 65535 ∧ nev s ≠ 0 := by unfold nev; split <;> omega
section
variable {s d a b : Int} {l : List Int} (hs : 0 ≤ s ∧ s ≤ 4294967295) (hd : 0 ≤ d ∧ d ≤ 4294967295) (ha : 0 ≤ a ∧ a ≤ 65535) (hb : 0 ≤ b ∧ b ≤ 65535) (hl : Bytes8 l)
include hs hd ha hb hl
theorem udp_sum : 0 ≤ csum s d 17 (udpB a b (fewL l) 0) ∧ csum s d 17 (udpB a b (fewL l) 0) ≤ 65535 := by
  have hf := few_len l
  exact csum_bd hs hd (by omega) (by rw [udpB_len]; omega) (udpB_bd ha hb (few_bd hl) (by omega) (by omega))
theorem udp_cl (S : Int) (hS : S = nev (csum s d 17 (udpB a b (fewL l) 0))) : Cl (ph s d 17 (udpB a b (fewL l) S).length ++ udpB a b (fewL l) S) := by
  have hf := few_len l
  refine cl_nev _ (ph s d 17 (udpB a b (fewL l) 0).length ++ udpB a b (fewL l) 0) (sb_bd _ (Bytes8.app (ph_bd hs hd (by omega) (by rw [udpB_len]; omega)) (udpB_bd ha hb (few_bd hl) (by omega) (by omega))) true).1 ?_
  rw [sb_app _ _ (by rw [ph_len]), sb_app _ _ (by rw [ph_len]), udpB_len, udpB_len, udpB_sb, hS]
  unfold csum
  rw [udpB_len]
  omega
theorem tcp_cl (f S : Int) (hS : S = csum s d 6 (tcpB a b f (fewL l) 0)) : Cl (ph s d 6 (tcpB a b f (fewL l) S).length ++ tcpB a b f (fewL l) S) := by
  have hf := few_len l
  refine cl_of _ (ph s d 6 (tcpB a b f (fewL l) 0).length ++ tcpB a b f (fewL l) 0) (sb_bd _ (Bytes8.app (ph_bd hs hd (by omega) (by rw [tcpB_len]; omega)) (tcpB_bd ha hb (few_bd hl) (by omega))) true).1 ?_
  rw [sb_app _ _ (by rw [ph_len]), sb_app _ _ (by rw [ph_len]), tcpB_len, tcpB_len, tcpB_sb, hS]
  unfold csum
  rw [tcpB_len]
  omega
end
section
variable {k a c : Int} {l : List Int} (hl : Bytes8 l)
include hl
theorem echo_sum (hk : 0 ≤ k ∧ k ≤ 255) (ha : 0 ≤ a ∧ a ≤ 65535) : 0 ≤ sumOf (echoB k a (fewL l) 0) ∧ sumOf (echoB k a (fewL l) 0) ≤ 65535 := sumOf_bd (echoB_bd hk ha (few_bd hl) (by omega))
theorem echo_cl (hk : 0 ≤ k ∧ k ≤ 255) (ha : 0 ≤ a ∧ a ≤ 65535) : Cl (echoB k a (fewL l) (sumOf (echoB k a (fewL l) 0))) :=
  cl_of _ (echoB k a (fewL l) 0) (sb_bd _ (echoB_bd hk ha (few_bd hl) (by omega)) true).1 (echoB_sb _ _ _ _)
end
/-- what comes of a packet -/
theorem seg_put (t p s d : Int) (x : List Int) : seg (putL t p s d x) 20 x.length = x := by
  unfold seg putL
  generalize sumOf (hd20 t p s d (20 + (x.length : Int)) 0) = S
  have hl : (hd20 t p s d (20 + (x.length : Int)) S).length = 20 := rfl
  rw [List.drop_left' hl, List.take_length]
def getX (p : Int) (h : Hd) (x : List Int) : PR := if p = 17 then udpR h x else if p = 6 then tcpR h x else if p = 1 then icmpR h x else (6, Pt.z)
theorem getR_put (t p s d : Int) (x : List Int) (h : Hd) (hh : h = ⟨20, 20 + x.length, t, p, s, d⟩) : getR h (putL t p s d x) = getX p h x := by
  have e1 : h.size = 20 := by rw [hh]
  have e2 : h.len = 20 + x.length := by rw [hh]
  have e3 : h.proto = p := by rw [hh]
  have e4 : (20 + (x.length : Int) - 20).toNat = x.length := by omega
  unfold getR
  rw [if_neg (by rw [e1, e2, put_len]; omega), e1, e2, e3, e4, show (20 : Int).toNat = 20 from rfl, seg_put]
  rfl
/-- what is laid is got -/
theorem udp_got {h : Hd} {a b S : Int} {l : List Int} (ha : 0 ≤ a ∧ a ≤ 65535) (hb : 0 ≤ b ∧ b ≤ 65535) (hS : 0 ≤ S ∧ S ≤ 65535) (hn : l.length ≤ 65527) (hc : S ≠ 0 → csum h.src h.dst 17 (udpB a b l S) = 0) :
    udpR h (udpB a b l S) = (0, { Pt.z with proto := 17, src := a, dst := b, bare := decide (S = 0) }) := by
  have hl := udpB_len a b l S
  have e0 : n2 (udpB a b l S) 0 = a := by rw [n2_eq _ _ (by omega)]; show a / 256 * 256 + a % 256 = a; omega
  have e2 : n2 (udpB a b l S) 2 = b := by rw [n2_eq _ _ (by omega)]; show b / 256 * 256 + b % 256 = b; omega
  have e4 : n2 (udpB a b l S) 4 = 8 + l.length := by rw [n2_eq _ _ (by omega)]; show (8 + (l.length : Int)) / 256 * 256 + (8 + (l.length : Int)) % 256 = _; omega
  have e6 : n2 (udpB a b l S) 6 = S := by rw [n2_eq _ _ (by omega)]; show S / 256 * 256 + S % 256 = S; omega
  unfold udpR
  rw [if_neg (by omega), e4, if_neg (by rw [hl]; omega), e6, if_neg (fun e => e.2 (hc e.1))]
  unfold portsP
  rw [e0, e2]
theorem tcp_got {h : Hd} {a b f S : Int} {l : List Int} (ha : 0 ≤ a ∧ a ≤ 65535) (hb : 0 ≤ b ∧ b ≤ 65535) (hc : csum h.src h.dst 6 (tcpB a b f l S) = 0) :
    tcpR h (tcpB a b f l S) = (0, { Pt.z with proto := 6, src := a, dst := b, flags := f % 256 }) := by
  have hl := tcpB_len a b f l S
  have e0 : n2 (tcpB a b f l S) 0 = a := by rw [n2_eq _ _ (by omega)]; show a / 256 * 256 + a % 256 = a; omega
  have e2 : n2 (tcpB a b f l S) 2 = b := by rw [n2_eq _ _ (by omega)]; show b / 256 * 256 + b % 256 = b; omega
  have e12 : (tcpB a b f l S).getD 12 0 = 80 := rfl
  have e13 : (tcpB a b f l S).getD 13 0 = f % 256 := rfl
  unfold tcpR
  rw [if_neg (by omega), e12, if_neg (by omega), if_neg (fun e => e hc)]
  unfold portsP
  rw [e0, e2, e13]
theorem echo_got {h : Hd} {k a S : Int} {l : List Int} (ha : 0 ≤ a ∧ a ≤ 65535) (hk : k = 0 ∨ k = 8) (hc : sumOf (echoB k a l S) = 0) :
    icmpR h (echoB k a l S) = (0, { Pt.z with proto := 1, kind := k, code := 0, src := a, dst := a }) := by
  have hl := echoB_len k a l S
  have e4 : n2 (echoB k a l S) 4 = a := by rw [n2_eq _ _ (by omega)]; show a / 256 * 256 + a % 256 = a; omega
  have e0 : (echoB k a l S).getD 0 0 = k := rfl
  have e1 : (echoB k a l S).getD 1 0 = 0 := rfl
  unfold icmpR
  rw [if_neg (by omega), if_neg (fun e => e hc), e0, if_pos hk, e1, if_neg (by decide)]
  unfold portsP
  rw [e4]
end Go.Proofs.YtbckoohljkmahaaGreat
namespace Go.Proofs.YtbckoohljkmahaaGreat
set_option linter.unusedVariables false
set_option linter.unusedSimpArgs false
open Go.RowKit
/-- both words of an address -/
def wd (v : Int) : Int := v / 65536 + v % 65536
theorem sb_n2 {l : List Int} (hl : Bytes8 l) {i : Nat} (he : i % 2 = 0) (h : i + 2 ≤ l.length) : n2 l i ≤ sb true l := by
  have h1 := sb_put2 l i 0 he h
  have h2 := (sb_bd _ (put2_bd hl i (v := 0) (by omega)) true).1
  omega
theorem fo_full {n q : Int} (h0 : 0 < n) (h : n = 65535 * q) : fo n = 65535 := by unfold fo; rw [if_neg (by omega)]; omega
theorem full_of {n : Int} (h0 : 0 ≤ n) (h : fo n = 65535) : 0 < n ∧ ∃ q, n = 65535 * q := by
  unfold fo at h
  split at h
  · omega
  · exact ⟨by omega, n / 65535, by omega⟩
theorem cl_of_zero {l : List Int} (h8 : Bytes8 l) (h : sumOf l = 0) : Cl l := by
  have h0 := (sb_bd l h8 true).1
  obtain ⟨h1, q, h2⟩ := full_of h0 (by unfold sumOf at h; omega)
  exact ⟨q, by omega, h2⟩
theorem cl_mod {l l' : List Int} (h : Cl l) {q : Int} (e : sb true l' = sb true l + 65535 * q) (hp : 0 < sb true l') : Cl l' := by
  obtain ⟨q0, h0, h1⟩ := h
  exact ⟨q0 + q, by omega, by omega⟩
theorem b8_put2 {X : List Int} (h : Bytes8 X) (i : Nat) {v : Int} (hv : 0 ≤ v ∧ v ≤ 65535) : Bytes8 (put2 X i v) := put2_bd h i hv
theorem b8_put4 {X : List Int} (h : Bytes8 X) (i : Nat) {v : Int} (hv : 0 ≤ v ∧ v ≤ 4294967295) : Bytes8 (put4 X i v) := b8_put2 (b8_put2 h _ (by omega)) _ (by omega)
theorem b8_addrL {X : List Int} (h : Bytes8 X) (i : Nat) (src : Bool) {v : Int} (hi : i + 20 ≤ X.length) (hv : 0 ≤ v ∧ v ≤ 4294967295) : Bytes8 (addrL X i src v) := by
  have hp := addrAt_bd i src
  have h1 := b8_put4 h (addrAt i src) hv
  exact b8_put2 h1 _ (fixW_bd (n2_bd h1 (by rw [put4_len]; omega)) (n4_bd h (by omega)) hv)
theorem b8_echoW {X : List Int} (h : Bytes8 X) (i : Nat) {v : Int} (hi : i + 6 ≤ X.length) (hv : 0 ≤ v ∧ v ≤ 65535) : Bytes8 (echoW X i v) := by
  have h1 := b8_put2 h (i + 4) hv
  unfold echoW echoS
  exact b8_put2 h1 _ (nevS_bd (fixOf_bd (n2_bd h1 (by rw [put2_len]; omega)) (n2_bd h (by omega)) hv))
theorem b8_carW {X : List Int} (h : Bytes8 X) (i : Nat) (udp src : Bool) {port o a : Int} (hi : i + 4 ≤ X.length) (hp : 0 ≤ port ∧ port ≤ 65535) (ho : 0 ≤ o ∧ o ≤ 4294967295) (ha : 0 ≤ a ∧ a ≤ 4294967295) : Bytes8 (carW X i udp src port o a) := by
  have hpa : portAt i src + 2 ≤ X.length := by unfold portAt; split <;> omega
  have h1 := b8_put2 h (portAt i src) hp
  unfold carW
  split
  · exact h1
  · rename_i hc
    have hs : sumAt i udp + 2 ≤ X.length := by rcases Nat.lt_or_ge X.length (sumAt i udp + 2) with h | h; exact absurd (.inl h) hc; exact h
    have h2 := b8_put2 h1 (sumAt i udp) (fixW_bd (n2_bd h1 (by rw [put2_len]; omega)) ho ha)
    refine b8_put2 h2 _ ?_
    unfold carS
    split
    · omega
    · exact fixOf_bd (n2_bd h2 (by rw [put2_len, put2_len]; omega)) (n2_bd h hpa) hp
theorem n2_cong {l l' : List Int} {i : Nat} (h : l'.length = l.length) (hi : i + 2 ≤ l.length) (h0 : l'.getD i 0 = l.getD i 0) (h1 : l'.getD (i + 1) 0 = l.getD (i + 1) 0) : n2 l' i = n2 l i := by
  rw [n2_eq _ _ (by omega), n2_eq _ _ hi, h0, h1]
theorem n4_cong {l l' : List Int} {i : Nat} (h : l'.length = l.length) (hi : i + 4 ≤ l.length) (hg : ∀ k, i ≤ k → k < i + 4 → l'.getD k 0 = l.getD k 0) : n4 l' i = n4 l i := by
  rw [n4_eq _ _ (by omega), n4_eq _ _ hi, hg i (by omega) (by omega), hg (i + 1) (by omega) (by omega), hg (i + 2) (by omega) (by omega), hg (i + 3) (by omega) (by omega)]
/-! ### heads -/
def chH (h : Hd) (src : Bool) (a : Int) : Hd := { h with src := if src then a else h.src, dst := if src then h.dst else a }
def HdOk (A : List Int) (m : Nat) : Prop :=
  Bytes8 A ∧ 20 ≤ A.length ∧ (A.length : Int) = A.getD 0 0 % 16 * 4 ∧ A.getD 0 0 / 16 = 4 ∧ n2 A 2 = A.length + m ∧ A.length + m ≤ 1500 ∧ sumOf A = 0 ∧ n2 A 6 % 16384 = 0
theorem getE_zero {X : List Int} (h : getE X = 0) : 20 ≤ X.length ∧ X.getD 0 0 / 16 = 4 ∧ 20 ≤ X.getD 0 0 % 16 * 4 ∧ X.getD 0 0 % 16 * 4 ≤ X.length ∧ X.getD 0 0 % 16 * 4 ≤ n2 X 2 ∧ n2 X 2 ≤ 1500 ∧ n2 X 2 ≤ X.length ∧ sumOf (X.take (X.getD 0 0 % 16 * 4).toNat) = 0 ∧ n2 X 6 % 16384 = 0 := by
  unfold getE at h
  split at h
  · rename_i h1; exact absurd h h1
  rename_i h1
  split at h
  · cases h
  split at h
  · cases h
  rename_i h2 h3
  unfold wholeE at h
  split at h
  · cases h
  rename_i h4
  have := shape_cases X 1500
  omega
theorem getE_mk {X : List Int} (h0 : 20 ≤ X.length) (h1 : X.getD 0 0 / 16 = 4) (h2 : 20 ≤ X.getD 0 0 % 16 * 4) (h3 : X.getD 0 0 % 16 * 4 ≤ X.length) (h4 : X.getD 0 0 % 16 * 4 ≤ n2 X 2) (h5 : n2 X 2 ≤ 1500) (h6 : n2 X 2 ≤ X.length)
    (h7 : sumOf (X.take (X.getD 0 0 % 16 * 4).toNat) = 0) (h8 : n2 X 6 % 16384 = 0) : getE X = 0 := by
  have hs : shapeE X 1500 = 0 := by
    unfold shapeE
    rw [if_neg (by omega), if_neg (by omega), if_neg (by omega), if_neg (by omega)]
  unfold getE wholeE
  rw [if_neg (by omega), if_neg (by omega), if_neg (by omega), if_neg (by omega)]
theorem HdOk.got {A B : List Int} {m : Nat} (h : HdOk A m) (hB : B.length = m) : getE (A ++ B) = 0 ∧ hdOf (A ++ B) = ⟨A.length, A.length + m, A.getD 8 0, A.getD 9 0, n4 A 12, n4 A 16⟩ := by
  obtain ⟨h8, h20, hs, h4, h2, h15, hsum, h6⟩ := h
  have e0 : (A ++ B).getD 0 0 = A.getD 0 0 := getD_left (by omega)
  have e2 : n2 (A ++ B) 2 = n2 A 2 := n2_left (by omega)
  have e6 : n2 (A ++ B) 6 = n2 A 6 := n2_left (by omega)
  have hl : (A ++ B).length = A.length + m := by rw [List.length_append, hB]
  refine ⟨getE_mk (by omega) (by rw [e0]; exact h4) (by rw [e0]; omega) (by rw [e0]; omega) (by rw [e0, e2]; omega) (by rw [e2]; omega) (by rw [e2]; omega) ?_ (by rw [e6]; exact h6), ?_⟩
  · rw [e0, ← hs, Int.toNat_natCast, List.take_left]; exact hsum
  · unfold hdOf
    rw [e0, e2, getD_left (by omega), getD_left (by omega), n4_left (by omega), n4_left (by omega), ← hs, h2]
theorem n2_take {X : List Int} {i s : Nat} (h : i + 2 ≤ s) (hs : s ≤ X.length) : n2 (X.take s) i = n2 X i := by
  have := n2_left (A := X.take s) (B := X.drop s) (i := i) (by rw [List.length_take]; omega)
  rw [List.take_append_drop] at this
  exact this.symm
theorem getD_take_ {X : List Int} {i s : Nat} (h : i < s) (hs : s ≤ X.length) : (X.take s).getD i 0 = X.getD i 0 := by
  have := getD_left (A := X.take s) (B := X.drop s) (i := i) (by rw [List.length_take]; omega)
  rw [List.take_append_drop] at this
  exact this.symm
/-- a frame that is got, in its pieces -/
theorem HdOk.of {X : List Int} (h8 : Bytes8 X) (h : getE X = 0) : ∃ A B : List Int, HdOk A B.length ∧ Bytes8 B ∧ X.take (hdOf X).len.toNat = A ++ B ∧ (hdOf X).size = A.length ∧ (hdOf X).len = A.length + B.length ∧ hdOf X = hdOf (A ++ B) ∧ seg X (hdOf X).size.toNat ((hdOf X).len - (hdOf X).size).toNat = B ∧ A.length + B.length ≤ X.length := by
  obtain ⟨h0, h1, h2, h3, h4, h5, h6, h7, hp⟩ := getE_zero h
  have e1 : (hdOf X).size = X.getD 0 0 % 16 * 4 := rfl
  have e2 : (hdOf X).len = n2 X 2 := rfl
  obtain ⟨s, hs⟩ : ∃ s : Nat, X.getD 0 0 % 16 * 4 = (s : Int) := ⟨(X.getD 0 0 % 16 * 4).toNat, by omega⟩
  obtain ⟨n, hn⟩ : ∃ n : Nat, n2 X 2 = (n : Int) := ⟨(n2 X 2).toNat, by omega⟩
  have lA : (X.take s).length = s := by rw [List.length_take]; omega
  have lB : (seg X s (n - s)).length = n - s := seg_length _ _ _ (by omega)
  have hAB : X.take n = X.take s ++ seg X s (n - s) := by
    have := List.take_add (l := X) (i := s) (j := n - s)
    rw [show s + (n - s) = n by omega] at this
    exact this
  have hok : HdOk (X.take s) (seg X s (n - s)).length := by
    refine ⟨h8.take _, by omega, ?_, ?_, ?_, by omega, ?_, ?_⟩
    · rw [lA, getD_take_ (by omega) (by omega)]; omega
    · rw [getD_take_ (by omega) (by omega)]; exact h1
    · rw [n2_take (by omega) (by omega), lA, lB]; omega
    · rw [hs, Int.toNat_natCast] at h7; exact h7
    · rw [n2_take (by omega) (by omega)]; exact hp
  refine ⟨X.take s, seg X s (n - s), hok, fun x hx => h8 x (seg_mem hx), ?_, by rw [e1, lA, hs], by rw [e2, lA, lB]; omega, ?_, ?_, by omega⟩
  · rw [e2, hn, Int.toNat_natCast]; exact hAB
  · have hg := (hok.got rfl).2
    rw [hg]
    have g4 : ∀ i, i + 4 ≤ s → n4 (X.take s) i = n4 X i := fun i hi => by
      have := n4_left (A := X.take s) (B := X.drop s) (i := i) (by omega)
      rw [List.take_append_drop] at this
      exact this.symm
    unfold hdOf
    rw [getD_take_ (by omega) (by omega), getD_take_ (by omega) (by omega), g4 _ (by omega), g4 _ (by omega), lA, lB, hs, hn]
    congr 1; omega
  · rw [e1, e2, hs, hn, Int.toNat_natCast, show ((n : Int) - (s : Int)).toNat = n - s by omega]
theorem HdOk.addr {A : List Int} {m : Nat} (h : HdOk A m) (src : Bool) {v : Int} (hv : 0 ≤ v ∧ v ≤ 4294967295) : HdOk (addrL A 0 src v) m := by
  obtain ⟨h8, h20, hs, h4, h2, h15, hsum, h6⟩ := h
  have hp := addrAt_bd 0 src
  have hl : (addrL A 0 src v).length = A.length := addrL_len _ _ _ _
  have hf : ∀ k, k < 10 → (addrL A 0 src v).getD k 0 = A.getD k 0 := fun k hk => addrL_far (by omega) (by omega) (by omega)
  have h8' := b8_addrL h8 0 src (v := v) (by omega) hv
  refine ⟨h8', by omega, by rw [hl, hf 0 (by omega)]; exact hs, by rw [hf 0 (by omega)]; exact h4, by rw [n2_cong hl (by omega) (hf _ (by omega)) (hf _ (by omega)), hl]; exact h2, by omega, ?_, by rw [n2_cong hl (by omega) (hf _ (by omega)) (hf _ (by omega))]; exact h6⟩
  obtain ⟨q, hq⟩ := sb_addr A 0 src v rfl (by omega) h8 hv
  refine Cl.zero (cl_mod (cl_of_zero h8 hsum) hq ?_)
  have := sb_n2 h8' (i := 0) rfl (by omega)
  have e := n2_cong hl (i := 0) (by omega) (hf 0 (by omega)) (hf 1 (by omega))
  rw [e, n2_eq _ _ (by omega)] at this
  have b1 := n2_bd h8 (i := 0) (by omega)
  rw [n2_eq _ _ (by omega)] at b1
  have b2 : 0 ≤ A.getD (0 + 1) 0 := by
    have : A.getD 1 0 = A[1]'(by omega) := by rw [List.getD_eq_getElem?_getD, List.getElem?_eq_getElem (by omega)]; rfl
    rw [this]; exact (h8 _ (List.getElem_mem _)).1
  omega
theorem addr_12 {A : List Int} {src : Bool} {v : Int} (h : 20 ≤ A.length) (hv : 0 ≤ v ∧ v ≤ 4294967295) : n4 (addrL A 0 src v) 12 = (if src then v else n4 A 12) ∧ n4 (addrL A 0 src v) 16 = (if src then n4 A 16 else v) := by
  have hl : (addrL A 0 src v).length = A.length := addrL_len _ _ _ _
  have h1 := addrL_n4 (l := A) (i := 0) (src := src) (by omega) hv
  have h2 : ∀ k, (k < addrAt 0 src ∨ addrAt 0 src + 4 ≤ k) → 12 ≤ k → (addrL A 0 src v).getD k 0 = A.getD k 0 := fun k hk hk2 => addrL_far hk (by omega) (by omega)
  cases src
  · exact ⟨n4_cong hl (by omega) (fun k a b => h2 k (by unfold addrAt; simp; omega) (by omega)), h1⟩
  · exact ⟨h1, n4_cong hl (by omega) (fun k a b => h2 k (by unfold addrAt; simp; omega) (by omega))⟩
/-- the head of what is rewritten -/
theorem HdOk.again {A B B' : List Int} (h : HdOk A B.length) (src : Bool) {v : Int} (hv : 0 ≤ v ∧ v ≤ 4294967295) (hB : B'.length = B.length) : getE (addrL A 0 src v ++ B') = 0 ∧ hdOf (addrL A 0 src v ++ B') = chH (hdOf (A ++ B)) src v := by
  have h1 := (h.addr src hv).got (B := B') hB
  have h20 := h.2.1
  have hl : (addrL A 0 src v).length = A.length := addrL_len _ _ _ _
  have hp := addrAt_bd 0 src
  refine ⟨h1.1, ?_⟩
  rw [h1.2, (h.got rfl).2, hl, addrL_far (by omega) (by omega) (by omega), addrL_far (by omega) (by omega) (by omega), (addr_12 (src := src) h20 hv).1, (addr_12 (src := src) h20 hv).2]
  rfl
end Go.Proofs.YtbckoohljkmahaaGreat
namespace Go.Proofs.YtbckoohljkmahaaGreat
set_option linter.unusedVariables false
set_option linter.unusedSimpArgs false
open Go.RowKit
theorem sb_ph {s d p : Int} {n : Nat} (hs : 0 ≤ s) (hd : 0 ≤ d) : sb true (ph s d p n) = wd s + wd d + p + n := by
  simp [ph, be4, be2, sb, wd]; omega
def chPorts (p : Pt) (echo src : Bool) (port : Int) : Pt := { p with src := if echo || src then port else p.src, dst := if echo || !src then port else p.dst }
section
variable {B : List Int} {src : Bool} {port o a : Int}
theorem carW_n2 {udp : Bool} {j : Nat} (hj : j + 2 ≤ sumAt 0 udp) (hl : j + 2 ≤ B.length) : n2 (carW B 0 udp src port o a) j = n2 (put2 B (portAt 0 src) port) j := by
  unfold carW
  split
  · rfl
  · rw [n2_put2_ne (by omega) (by rw [put2_len, put2_len]; omega), n2_put2_ne (by omega) (by rw [put2_len]; omega)]
theorem carW_ports {udp : Bool} (h : 8 ≤ B.length) (hp : 0 ≤ port ∧ port ≤ 65535) :
    n2 (carW B 0 udp src port o a) 0 = (if src then port else n2 B 0) ∧ n2 (carW B 0 udp src port o a) 2 = (if src then n2 B 2 else port) := by
  have hs : 6 ≤ sumAt 0 udp := by unfold sumAt; cases udp <;> simp
  rw [carW_n2 (by omega) (by omega), carW_n2 (by omega) (by omega)]
  cases src
  · exact ⟨n2_put2_ne (by simp [portAt]) (by omega), n2_put2 (i := 2) (by omega) hp⟩
  · exact ⟨n2_put2 (i := 0) (by omega) hp, n2_put2_ne (by simp [portAt]) (by omega)⟩
theorem carS_bd {Y : List Int} {q : Nat} {udp : Bool} {was : Int} (h8 : Bytes8 Y) (hq : q + 2 ≤ Y.length) (hw : 0 ≤ was ∧ was ≤ 65535) (hp : 0 ≤ port ∧ port ≤ 65535) (ho : 0 ≤ o ∧ o ≤ 4294967295) (ha : 0 ≤ a ∧ a ≤ 4294967295) :
    (0 ≤ carS Y q udp was port o a ∧ carS Y q udp was port o a ≤ 65535) ∧ (udp = true → carS Y q udp was port o a ≠ 0) := by
  have h1 := fixW_bd (n2_bd h8 (i := q) hq) ho ha
  have h2 := b8_put2 h8 q h1
  have h3 := fixOf_bd (n2_bd h2 (i := q) (by rw [put2_len]; omega)) hw hp
  unfold carS
  split
  · exact ⟨by omega, fun _ => by omega⟩
  · rename_i hc
    exact ⟨h3, fun hu e => hc ⟨hu, e⟩⟩
theorem csum_iff {s d p : Int} {l : List Int} (hs : 0 ≤ s) (hd : 0 ≤ d) (hp : 0 < p) (h8 : Bytes8 l) : csum s d p l = 0 ↔ ∃ q, wd s + wd d + p + l.length + sb true l = 65535 * q := by
  have h0 := (sb_bd l h8 true).1
  have hw : 0 ≤ wd s ∧ 0 ≤ wd d := by unfold wd; omega
  rw [csum_eq, sb_ph hs hd]
  constructor
  · intro h
    obtain ⟨_, q, hq⟩ := full_of (n := wd s + wd d + p + l.length + sb true l) (by omega) (by omega)
    exact ⟨q, hq⟩
  · rintro ⟨q, hq⟩
    have := fo_full (n := wd s + wd d + p + l.length + sb true l) (by omega) hq
    omega
theorem csum_again {h h' : Hd} {p : Int} {udp : Bool} (h8 : Bytes8 B) (hl : sumAt 0 udp + 2 ≤ B.length) (hp : 0 < p) (hport : 0 ≤ port ∧ port ≤ 65535) (ho : 0 ≤ o ∧ o ≤ 4294967295) (ha : 0 ≤ a ∧ a ≤ 4294967295)
    (hs : 0 ≤ h.src) (hd : 0 ≤ h.dst) (hs' : 0 ≤ h'.src) (hd' : 0 ≤ h'.dst) (hw : wd h'.src + wd h'.dst = wd h.src + wd h.dst - wd o + wd a) (hz : ¬ (udp = true ∧ n2 B (sumAt 0 udp) = 0)) (hc : csum h.src h.dst p B = 0) :
    csum h'.src h'.dst p (carW B 0 udp src port o a) = 0 := by
  have h4 : 4 ≤ B.length := by have : 6 ≤ sumAt 0 udp := by unfold sumAt; cases udp <;> simp
                               omega
  obtain ⟨q, hq⟩ := (csum_iff hs hd hp h8).1 hc
  obtain ⟨k, hk⟩ := sb_car B 0 udp src port o a rfl hl h8 hport ho ha hz
  refine (csum_iff hs' hd' hp (b8_carW h8 0 udp src (by omega) hport ho ha)).2 ⟨q + k, ?_⟩
  rw [carW_len, hk]
  unfold wd at hw hq ⊢
  omega
theorem udp_again {h h' : Hd} {p : Pt} (h8 : Bytes8 B) (hport : 0 ≤ port ∧ port ≤ 65535) (ho : 0 ≤ o ∧ o ≤ 4294967295) (ha : 0 ≤ a ∧ a ≤ 4294967295)
    (hs : 0 ≤ h.src) (hd : 0 ≤ h.dst) (hs' : 0 ≤ h'.src) (hd' : 0 ≤ h'.dst) (hw : wd h'.src + wd h'.dst = wd h.src + wd h.dst - wd o + wd a) (hok : udpR h B = (0, p)) :
    udpR h' (carW B 0 true src port o a) = (0, chPorts p false src port) ∧ p.err = false ∧ p.proto = 17 ∧ 8 ≤ B.length ∧ p.bare = decide (n2 B 6 = 0) ∧ p.src = n2 B 0 ∧ p.dst = n2 B 2 := by
  unfold udpR at hok
  split at hok
  · cases hok
  rename_i h1
  split at hok
  · cases hok
  rename_i h2
  split at hok
  · cases hok
  rename_i h3
  simp only [Prod.mk.injEq, true_and] at hok
  subst hok
  have hl := carW_len B 0 true src port o a
  have e4 : n2 (carW B 0 true src port o a) 4 = n2 B 4 := by
    rw [carW_n2 (by simp [sumAt]) (by omega), n2_put2_ne (by unfold portAt; cases src <;> simp) (by omega)]
  have e6 : n2 (carW B 0 true src port o a) 6 = 0 ↔ n2 B 6 = 0 := by
    have hpb : portAt 0 src + 2 ≤ 4 := by unfold portAt; cases src <;> simp
    have e0 : n2 (put2 B (portAt 0 src) port) 6 = n2 B 6 := n2_put2_ne (by omega) (by omega)
    have hY := b8_put2 h8 (portAt 0 src) hport
    unfold carW
    split
    · rw [e0]
    · rename_i hc
      have hb := carS_bd (Y := put2 B (portAt 0 src) port) (q := 6) (udp := true) (was := n2 B (portAt 0 src)) hY (by rw [put2_len]; omega) (n2_bd h8 (by omega)) hport ho ha
      have : n2 (put2 (put2 (put2 B (portAt 0 src) port) (sumAt 0 true) (fixW (n2 (put2 B (portAt 0 src) port) (sumAt 0 true)) o a)) (sumAt 0 true) (carS (put2 B (portAt 0 src) port) (sumAt 0 true) true (n2 B (portAt 0 src)) port o a)) 6 = _ := n2_put2 (i := 6) (by rw [put2_len, put2_len]; omega) hb.1
      rw [this]
      constructor
      · intro h; exact absurd h (hb.2 rfl)
      · intro h; exact absurd (.inr ⟨rfl, by rw [← h, ← e0]; rfl⟩) hc
  have hcs : n2 B 6 ≠ 0 → csum h'.src h'.dst 17 (carW B 0 true src port o a) = 0 := fun hz =>
    csum_again (p := 17) h8 (by simp [sumAt]; omega) (by omega) hport ho ha hs hd hs' hd' hw (by rintro ⟨_, h⟩; exact hz h) (by
      rcases Decidable.em (csum h.src h.dst 17 B = 0) with h | h
      · exact h
      · exact absurd ⟨hz, h⟩ h3)
  obtain ⟨p0, p2⟩ := carW_ports (B := B) (src := src) (o := o) (a := a) (udp := true) (port := port) (by omega) hport
  refine ⟨?_, rfl, rfl, by omega, rfl, rfl, rfl⟩
  unfold udpR
  rw [if_neg (by omega), if_neg (by rw [e4, hl]; omega), if_neg (by rintro ⟨x, y⟩; exact y (hcs (fun e => x (e6.2 e))))]
  simp only [portsP, chPorts, p0, p2, Prod.mk.injEq, true_and, Bool.false_or, Pt.mk.injEq]
  cases src <;> simp [e6]
theorem tcp_again {h h' : Hd} {p : Pt} (h8 : Bytes8 B) (hport : 0 ≤ port ∧ port ≤ 65535) (ho : 0 ≤ o ∧ o ≤ 4294967295) (ha : 0 ≤ a ∧ a ≤ 4294967295)
    (hs : 0 ≤ h.src) (hd : 0 ≤ h.dst) (hs' : 0 ≤ h'.src) (hd' : 0 ≤ h'.dst) (hw : wd h'.src + wd h'.dst = wd h.src + wd h.dst - wd o + wd a) (hok : tcpR h B = (0, p)) :
    tcpR h' (carW B 0 false src port o a) = (0, chPorts p false src port) ∧ p.err = false ∧ p.proto = 6 ∧ 20 ≤ B.length ∧ p.src = n2 B 0 ∧ p.dst = n2 B 2 := by
  unfold tcpR at hok
  split at hok
  · cases hok
  rename_i h1
  split at hok
  · cases hok
  rename_i h2
  split at hok
  · cases hok
  rename_i h3
  simp only [Prod.mk.injEq, true_and] at hok
  subst hok
  have hl := carW_len B 0 false src port o a
  have hpb : portAt 0 src + 2 ≤ 4 := by unfold portAt; cases src <;> simp
  have hfar : ∀ j, 4 ≤ j → j < 16 → (carW B 0 false src port o a).getD j 0 = B.getD j 0 := fun j a b => carW_far (by omega) (by omega) (by simp [sumAt]; omega) (by simp [sumAt]; omega)
  have hcs := csum_again (p := 6) (udp := false) (src := src) h8 (by simp [sumAt]; omega) (by omega) hport ho ha hs hd hs' hd' hw (by simp) (by
      rcases Decidable.em (csum h.src h.dst 6 B = 0) with h | h
      · exact h
      · exact absurd h h3)
  obtain ⟨p0, p2⟩ := carW_ports (B := B) (src := src) (o := o) (a := a) (udp := false) (port := port) (by omega) hport
  refine ⟨?_, rfl, rfl, by omega, rfl, rfl⟩
  unfold tcpR
  rw [if_neg (by omega), if_neg (by rw [hfar 12 (by omega) (by omega), hl]; omega), if_neg (by rw [hcs]; simp), hfar 13 (by omega) (by omega)]
  simp only [portsP, chPorts, p0, p2, Prod.mk.injEq, true_and, Bool.false_or, Pt.mk.injEq]
  cases src <;> simp
end
end Go.Proofs.YtbckoohljkmahaaGreat
namespace Go.Proofs.YtbckoohljkmahaaGreat
set_option linter.unusedVariables false
set_option linter.unusedSimpArgs false
open Go.RowKit
section
variable {B : List Int} {src : Bool} {port o a : Int}
theorem b0 {l : List Int} (h : Bytes8 l) {k : Nat} (hk : k < l.length) : 0 ≤ l.getD k 0 ∧ l.getD k 0 ≤ 255 := by
  rw [List.getD_eq_getElem?_getD, List.getElem?_eq_getElem hk]
  exact h _ (List.getElem_mem _)
theorem echo_n2 (h : 6 ≤ B.length) (hp : 0 ≤ port ∧ port ≤ 65535) : n2 (echoW B 0 port) 4 = port := by
  unfold echoW echoS
  rw [n2_put2_ne (by omega) (by rw [put2_len]; omega)]
  exact n2_put2 (i := 4) (by omega) hp
theorem echoW_cl (h8 : Bytes8 B) (hl : 6 ≤ B.length) (hp : 0 ≤ port ∧ port ≤ 65535) (hc : sumOf B = 0) : sumOf (echoW B 0 port) = 0 := by
  obtain ⟨q, hq⟩ := sb_echo B 0 port rfl (by omega) h8 hp
  have e8 := b8_echoW h8 0 (v := port) (by omega) hp
  have hl' : (echoW B 0 port).length = B.length := by unfold echoW; rw [put2_len, put2_len]
  refine Cl.zero (cl_mod (cl_of_zero h8 hc) hq ?_)
  have h2 := sb_n2 e8 (i := 2) rfl (by omega)
  have h3 : n2 (echoW B 0 port) 2 ≠ 0 := by
    have h1 := b8_put2 h8 (0 + 4) hp
    have hb := nevS_bd (fixOf_bd (n2_bd h1 (i := 0 + 2) (by rw [put2_len]; omega)) (n2_bd h8 (i := 0 + 4) (by omega)) hp)
    unfold echoW echoS
    rw [n2_put2 (i := 0 + 2) (by rw [put2_len]; omega) hb]
    unfold nevS
    split <;> omega
  have h4 := n2_bd e8 (i := 2) (by omega)
  omega
theorem icmp_len {h : Hd} {p : Pt} (hok : icmpR h B = (0, p)) : 8 ≤ B.length ∧ sumOf B = 0 := by
  unfold icmpR at hok
  split at hok
  · cases hok
  rename_i h1
  split at hok
  · cases hok
  rename_i h2
  exact ⟨by omega, by
    rcases Decidable.em (sumOf B = 0) with h | h
    · exact h
    · exact absurd h h2⟩
theorem fault_err {p q : Pt} {at_ : Int} {b : List Int} (h : faultR p at_ b = (0, q)) : q.err = true := by
  unfold faultR at h
  split at h
  · rename_i h1
    simp only [Prod.mk.injEq] at h
    exact absurd h.1 h1
  split at h
  · cases h
  split at h
  · simp only [Prod.mk.injEq, true_and] at h; rw [← h]; rfl
  split at h
  · simp only [Prod.mk.injEq, true_and] at h; rw [← h]; rfl
  · cases h
theorem echo_again {h h' : Hd} {p : Pt} (h8 : Bytes8 B) (hport : 0 ≤ port ∧ port ≤ 65535) (hok : icmpR h B = (0, p)) (he : p.err = false) :
    icmpR h' (echoW B 0 port) = (0, chPorts p true src port) ∧ p.proto = 1 ∧ p.src = n2 B 4 := by
  obtain ⟨h1, h2⟩ := icmp_len hok
  have hl' : (echoW B 0 port).length = B.length := by unfold echoW; rw [put2_len, put2_len]
  have f0 : (echoW B 0 port).getD 0 0 = B.getD 0 0 := echoW_far (by omega)
  have f1 : (echoW B 0 port).getD 1 0 = B.getD 1 0 := echoW_far (by omega)
  have hz := echoW_cl h8 (by omega) hport h2
  have h4 := echo_n2 (B := B) (by omega) hport
  unfold icmpR at hok ⊢
  rw [if_neg (by omega), if_neg (by simp [h2])] at hok
  rw [hl', if_neg (by omega), if_neg (by simp [hz]), f0, f1]
  split at hok
  · rename_i hk
    rw [if_pos hk]
    split at hok
    · cases hok
    · rename_i hc
      rw [if_neg hc]
      simp only [Prod.mk.injEq, true_and] at hok
      subst hok
      refine ⟨?_, rfl, rfl⟩
      simp only [portsP, chPorts, h4, Bool.true_or, if_true]
  · split at hok
    · have := fault_err hok
      rw [he] at this; cases this
    · cases hok
theorem partE_cong {l l' : List Int} (hl : l'.length = l.length) (h0 : l'.getD 0 0 = l.getD 0 0) (h2 : n2 l' 2 = n2 l 2) (h6 : n2 l' 6 = n2 l 6) : partE l' = partE l := by
  unfold partE shapeE wholeE
  rw [hl, h0, h2, h6]
/-- the packet that an error is about, in its pieces -/
theorem err_of {h : Hd} {p : Pt} (h8 : Bytes8 B) (hok : icmpR h B = (0, p)) (he : p.err = true) :
    ∃ E I J : List Int, B = E ++ (I ++ J) ∧ E.length = 8 ∧ 20 ≤ I.length ∧ I.length ≤ 60 ∧ 8 ≤ J.length ∧ Bytes8 E ∧ Bytes8 I ∧ Bytes8 J ∧ sumOf B = 0 ∧ p.inner.size = I.length ∧ p.pat = h.size + 8 ∧ p.proto = 1 ∧
      (B.getD 0 0 = 3 ∨ B.getD 0 0 = 11 ∨ B.getD 0 0 = 12) ∧ partE (I ++ J) = 0 ∧ p.inner = hdOf (I ++ J) ∧ (hdOf (I ++ J)).size + 8 ≤ (hdOf (I ++ J)).len ∧
      ((p.inner.proto = 17 ∨ p.inner.proto = 6) ∧ p.src = n2 J 0 ∧ p.dst = n2 J 2 ∨ p.inner.proto = 1 ∧ (J.getD 0 0 = 0 ∨ J.getD 0 0 = 8) ∧ p.src = n2 J 4 ∧ p.dst = n2 J 4) ∧
      p.flags = 0 ∧ p.kind = B.getD 0 0 ∧ p.code = B.getD 1 0 ∧ p.bare = false := by
  obtain ⟨h1, h2⟩ := icmp_len hok
  unfold icmpR at hok
  rw [if_neg (by omega), if_neg (by simp [h2])] at hok
  split at hok
  · split at hok
    · cases hok
    · simp only [Prod.mk.injEq, true_and] at hok
      subst hok
      cases he
  split at hok
  rotate_left
  · cases hok
  rename_i _ hk
  have hk' : B.getD 0 0 = 3 ∨ B.getD 0 0 = 11 ∨ B.getD 0 0 = 12 := hk
  unfold faultR at hok
  split at hok
  · rename_i hp
    simp only [Prod.mk.injEq] at hok
    exact absurd hok.1 hp
  rename_i hp
  have hp0 : partE (B.drop 8) = 0 := by
    rcases Decidable.em (partE (B.drop 8) = 0) with h | h
    · exact h
    · exact absurd h hp
  split at hok
  · cases hok
  rename_i hlen
  have hsh : shapeE (B.drop 8) 65535 = 0 := by
    unfold partE at hp0
    split at hp0
    · rename_i hx; exact absurd hp0 hx
    · rename_i hx
      rcases Decidable.em (shapeE (B.drop 8) 65535 = 0) with h | h
      · exact h
      · exact absurd h hx
  have hc := shape_cases (B.drop 8) 65535
  have e1 : (hdOf (B.drop 8)).size = (B.drop 8).getD 0 0 % 16 * 4 := rfl
  obtain ⟨s, hs⟩ : ∃ s : Nat, (hdOf (B.drop 8)).size = (s : Int) := ⟨(hdOf (B.drop 8)).size.toNat, by omega⟩
  have hs2 : 20 ≤ s ∧ s ≤ 60 := by omega
  have hb8 : ((B.drop 8).length : Int) - s ≥ 8 := by omega
  have lI : ((B.drop 8).take s).length = s := by rw [List.length_take]; omega
  have e0 : B.take 8 ++ ((B.drop 8).take s ++ (B.drop 8).drop s) = B := by rw [List.take_append_drop, List.take_append_drop]
  have e2 : (B.drop 8).take s ++ (B.drop 8).drop s = B.drop 8 := List.take_append_drop _ _
  have hd8 : Bytes8 (B.drop 8) := fun x hx => h8 x (List.mem_of_mem_drop hx)
  have hst : (hdOf (B.drop 8)).size.toNat = s := by omega
  rw [hst] at hok
  refine ⟨B.take 8, (B.drop 8).take s, (B.drop 8).drop s, e0.symm, by rw [List.length_take]; omega, by omega, by omega, by rw [List.length_drop]; omega, h8.take _, hd8.take _, fun x hx => hd8 x (List.mem_of_mem_drop hx), h2, ?_⟩
  rw [e2, lI]
  split at hok
  · rename_i hpr
    simp only [Prod.mk.injEq, true_and] at hok
    subst hok
    exact ⟨hs, rfl, rfl, hk', hp0, rfl, by omega, .inl ⟨hpr, rfl, rfl⟩, rfl, rfl, rfl, rfl⟩
  · split at hok
    · rename_i hpr
      simp only [Prod.mk.injEq, true_and] at hok
      subst hok
      exact ⟨hs, rfl, rfl, hk', hp0, rfl, by omega, .inr ⟨hpr.1, hpr.2, rfl, rfl⟩, rfl, rfl, rfl, rfl⟩
    · cases hok
end
theorem cl_put0 {C : List Int} (h8 : Bytes8 C) (hl : 4 ≤ C.length) : sumOf (put2 (put2 C 2 0) 2 (sumOf (put2 C 2 0))) = 0 := by
  have h1 := b8_put2 h8 2 (v := 0) (by omega)
  have h2 := sumOf_bd h1
  refine Cl.zero (cl_of _ (put2 C 2 0) (sb_bd _ h1 true).1 ?_)
  rw [sb_put2 _ _ _ rfl (by rw [put2_len]; omega), n2_put2 (by omega) (by omega)]
  omega
section
variable {E I J : List Int} {proto port addr : Int} {src : Bool}
theorem b8_carChg {old : Int} (h : Bytes8 J) (hl : 8 ≤ J.length) (hp : 0 ≤ port ∧ port ≤ 65535) (ho : 0 ≤ old ∧ old ≤ 4294967295) (ha : 0 ≤ addr ∧ addr ≤ 4294967295) : Bytes8 (carChg J proto src port old addr) := by
  unfold carChg
  split
  · exact b8_echoW h 0 (by omega) hp
  · exact b8_carW h 0 _ src (by omega) hp ho ha
theorem b8_errMid (hE : Bytes8 E) (hI : Bytes8 I) (hJ : Bytes8 J) (hI2 : 20 ≤ I.length) (hJ2 : 8 ≤ J.length) (hp : 0 ≤ port ∧ port ≤ 65535) (ha : 0 ≤ addr ∧ addr ≤ 4294967295) : Bytes8 (errMid E I J proto src port addr) := by
  have hb := addrAt_bd 0 src
  exact hE.app ((b8_addrL hI 0 src (by omega) ha).app (b8_carChg hJ hJ2 hp (n4_bd hI (by omega)) ha))
theorem b8_errChg (hE : Bytes8 E) (hI : Bytes8 I) (hJ : Bytes8 J) (hI2 : 20 ≤ I.length) (hJ2 : 8 ≤ J.length) (hp : 0 ≤ port ∧ port ≤ 65535) (ha : 0 ≤ addr ∧ addr ≤ 4294967295) : Bytes8 (errChg E I J proto src port addr) := by
  have h := b8_errMid (proto := proto) (src := src) hE hI hJ hI2 hJ2 hp ha
  have h1 := b8_put2 h 2 (v := 0) (by omega)
  exact b8_put2 h1 2 (sumOf_bd h1)
theorem errChg_split (hE : E.length = 8) : errChg E I J proto src port addr = put2 (put2 E 2 0) 2 (sumOf (put2 (errMid E I J proto src port addr) 2 0)) ++ (addrL I 0 src addr ++ carChg J proto src port (n4 I (addrAt 0 src)) addr) := by
  unfold errChg
  conv => lhs; arg 1; unfold errMid
  rw [put2_left (by omega), put2_left (by rw [put2_len]; omega)]
theorem carChg_ports {old : Int} (hJ : 8 ≤ J.length) (hp : 0 ≤ port ∧ port ≤ 65535) : (proto ≠ 1 → n2 (carChg J proto src port old addr) 0 = (if src then port else n2 J 0) ∧ n2 (carChg J proto src port old addr) 2 = (if src then n2 J 2 else port)) ∧
    (proto = 1 → n2 (carChg J proto src port old addr) 4 = port ∧ (carChg J proto src port old addr).getD 0 0 = J.getD 0 0) := by
  constructor
  · intro h
    unfold carChg
    rw [if_neg h]
    exact carW_ports (by omega) hp
  · intro h
    unfold carChg
    rw [if_pos h]
    exact ⟨echo_n2 (by omega) hp, echoW_far (by omega)⟩
/-- an error, with what it is about rewritten -/
theorem err_again {h h' : Hd} {p : Pt} (h8 : Bytes8 (E ++ (I ++ J))) (hE : E.length = 8) (hI : 20 ≤ I.length) (hJ : 8 ≤ J.length) (hport : 0 ≤ port ∧ port ≤ 65535) (ha : 0 ≤ addr ∧ addr ≤ 4294967295) (hsz : h'.size = h.size)
    (hp0 : partE (I ++ J) = 0) (hin : p.inner = hdOf (I ++ J)) (his : p.inner.size = I.length) (hlen : (hdOf (I ++ J)).size + 8 ≤ (hdOf (I ++ J)).len) (hk : (E ++ (I ++ J)).getD 0 0 = 3 ∨ (E ++ (I ++ J)).getD 0 0 = 11 ∨ (E ++ (I ++ J)).getD 0 0 = 12)
    (hpp : (p.inner.proto = 17 ∨ p.inner.proto = 6) ∧ p.src = n2 J 0 ∧ p.dst = n2 J 2 ∨ p.inner.proto = 1 ∧ (J.getD 0 0 = 0 ∨ J.getD 0 0 = 8) ∧ p.src = n2 J 4 ∧ p.dst = n2 J 4)
    (hpat : p.pat = h.size + 8) (h1 : p.proto = 1) (h2 : p.flags = 0) (h3 : p.kind = (E ++ (I ++ J)).getD 0 0) (h4 : p.code = (E ++ (I ++ J)).getD 1 0) (h5 : p.bare = false) (h6 : p.err = true) :
    icmpR h' (errChg E I J p.inner.proto src port addr) = (0, { chPorts p (p.inner.proto == 1) src port with inner := chH p.inner src addr }) := by
  have hE8 : Bytes8 E := fun x hx => h8 x (List.mem_append_left _ hx)
  have hI8 : Bytes8 I := fun x hx => h8 x (List.mem_append_right _ (List.mem_append_left _ hx))
  have hJ8 : Bytes8 J := fun x hx => h8 x (List.mem_append_right _ (List.mem_append_right _ hx))
  have hb := addrAt_bd 0 src
  have hlen' := errChg_len E I J p.inner.proto src port addr
  have hmid := b8_errMid (proto := p.inner.proto) (src := src) hE8 hI8 hJ8 hI hJ hport ha
  have hz : sumOf (errChg E I J p.inner.proto src port addr) = 0 := cl_put0 hmid (by rw [errMid_len]; omega)
  rw [errChg_split hE] at hz hlen' ⊢
  generalize hEe : put2 (put2 E 2 0) 2 (sumOf (put2 (errMid E I J p.inner.proto src port addr) 2 0)) = E' at *
  have lE : E'.length = 8 := by rw [← hEe, put2_len, put2_len]; exact hE
  have f0 : E'.getD 0 0 = E.getD 0 0 := by rw [← hEe, put2_far (by omega) (by omega), put2_far (by omega) (by omega)]
  have f1 : E'.getD 1 0 = E.getD 1 0 := by rw [← hEe, put2_far (by omega) (by omega), put2_far (by omega) (by omega)]
  have hlI := addrL_len I 0 src addr
  have g0 : ∀ k, k < 10 → (addrL I 0 src addr).getD k 0 = I.getD k 0 := fun k hk => addrL_far (by omega) (by omega) (by omega)
  have hlJ := carChg_len J p.inner.proto src port (n4 I (addrAt 0 src)) addr
  have hports := carChg_ports (J := J) (proto := p.inner.proto) (src := src) (port := port) (addr := addr) (old := n4 I (addrAt 0 src)) hJ hport
  have e12 := addr_12 (A := I) (src := src) (by omega) ha
  rw [getD_left (by omega)] at hk h3
  rw [getD_left (by omega)] at h4
  generalize carChg J p.inner.proto src port (n4 I (addrAt 0 src)) addr = J' at *
  generalize addrL I 0 src addr = I' at *
  have hd8 : (E' ++ (I' ++ J')).drop 8 = I' ++ J' := by rw [← lE, List.drop_left]
  have hIJ : (I' ++ J').length = (I ++ J).length := by rw [List.length_append, List.length_append]; omega
  have hpart : partE (I' ++ J') = 0 := by
    rw [partE_cong (l := I ++ J) hIJ (by rw [getD_left (by omega), getD_left (by omega)]; exact g0 0 (by omega)) (by rw [n2_left (by omega), n2_left (by omega)]; exact n2_cong hlI (by omega) (g0 _ (by omega)) (g0 _ (by omega)))
      (by rw [n2_left (by omega), n2_left (by omega)]; exact n2_cong hlI (by omega) (g0 _ (by omega)) (g0 _ (by omega)))]
    exact hp0
  have hhd : hdOf (I' ++ J') = chH (hdOf (I ++ J)) src addr := by
    unfold hdOf chH
    rw [getD_left (by omega), getD_left (by omega), getD_left (by omega), getD_left (by omega), getD_left (by omega), getD_left (by omega), g0 0 (by omega), g0 8 (by omega), g0 9 (by omega), n2_left (by omega), n2_left (by omega), n4_left (by omega), n4_left (by omega), n4_left (by omega), n4_left (by omega), e12.1, e12.2,
      n2_cong hlI (by omega) (g0 _ (by omega)) (g0 _ (by omega))]
  have hsz2 : (chH (hdOf (I ++ J)) src addr).size = (hdOf (I ++ J)).size := rfl
  have hln2 : (chH (hdOf (I ++ J)) src addr).len = (hdOf (I ++ J)).len := rfl
  have hpr2 : (chH (hdOf (I ++ J)) src addr).proto = (hdOf (I ++ J)).proto := rfl
  have hsI : (hdOf (I ++ J)).size = I.length := by rw [← hin]; exact his
  have hdr : (I' ++ J').drop I.length = J' := by rw [← hlI, List.drop_left]
  have hpr : (hdOf (I ++ J)).proto = p.inner.proto := by rw [hin]
  unfold icmpR
  rw [if_neg (by omega), if_neg (by simp [hz]), getD_left (by omega), getD_left (by omega), f0, f1, if_neg (by omega), if_pos hk, hd8]
  unfold faultR
  rw [hhd, if_neg (by simp [hpart]), hsz2, hln2, hpr2, hsI, Int.toNat_natCast, hdr, if_neg (by rw [List.length_append] at hIJ ⊢; rw [hsI] at hlen; omega), hpr, hsz, ← hpat, ← h3, ← h4]
  obtain ⟨q1, q2, q3, q4, q5, q6, q7, q8, q9, q10⟩ := p
  simp only at *
  subst h1 h2 h5 h6 hin
  rcases hpp with ⟨hp1, hs, hd⟩ | ⟨hp1, hj, hs, hd⟩
  · have hne : (hdOf (I ++ J)).proto ≠ 1 := by omega
    rw [if_pos hp1]
    obtain ⟨r0, r2⟩ := hports.1 hne
    have hb1 : ((hdOf (I ++ J)).proto == 1) = false := by simpa using hne
    simp only [portsP, chPorts, Pt.z, hb1, r0, r2, hs, hd]
    cases src <;> rfl
  · obtain ⟨r4, r0⟩ := hports.2 hp1
    have hb1 : ((hdOf (I ++ J)).proto == 1) = true := by simpa using hp1
    rw [if_neg (by omega), if_pos ⟨hp1, by rw [r0]; exact hj⟩]
    simp only [portsP, chPorts, Pt.z, hb1, r4]
    cases src <;> rfl
end
end Go.Proofs.YtbckoohljkmahaaGreat
namespace Go.Proofs.YtbckoohljkmahaaGreat
set_option linter.unusedVariables false
set_option linter.unusedSimpArgs false
open Go.RowKit Go.Maps
section
variable {w w' : World} {b n : Nat} {F : Int → Int}
end
section
variable {ops : Array Oper} {rest : List Oper} {o : Oper} {a : Act} {Q : Exit → Act → World → Prop}
end
end Go.Proofs.YtbckoohljkmahaaGreat
namespace Go.Proofs.YtbckoohljkmahaaGreat
set_option linter.unusedVariables false
set_option linter.unusedSimpArgs false
open Go.RowKit
section
variable {P : Program} {ops : Array Oper} {Q : Exit → Act → World → Prop}
end
/-- the worlds above w -/
def Up (w w' : World) : Prop := Below w.heap.size w w'
theorem Up.rfl_ (w : World) : Up w w := Below.refl _ _
theorem Up.one (w : World) : Nonempty (Tw (Up w)) := ⟨⟨w, Up.rfl_ w⟩⟩
end Go.Proofs.YtbckoohljkmahaaGreat
namespace Go.Proofs.YtbckoohljkmahaaGreat
set_option linter.unusedVariables false
set_option linter.unusedSimpArgs false
open Go.RowKit
def putF (F : Int → Int) (a n v : Int) : Int → Int := fun k => if a ≤ k ∧ k < a + n then v else F k
def freeF (h : Hd) (p : Pt) (out : Bool) : Int → Int :=
  let f := putF (fun k => if k = 11 then 3 else if k = 10 then 3 else 0) (if out then 12 else 16) 4 1
  if h.proto = 17 then (if p.bare = true then putF f (h.size + (if out then 0 else 2)) 2 2 else putF (putF f (h.size + (if out then 0 else 2)) 2 2) (h.size + 6) 2 3) else
  if h.proto = 6 then putF (putF f (h.size + (if out then 0 else 2)) 2 2) (h.size + 16) 2 3 else
  if p.err = false then putF (putF f (h.size + 4) 2 2) (h.size + 2) 2 3 else
  if p.inner.proto = 17 then putF (putF (putF (putF (putF f (h.size + 2) 2 3) (p.pat + (if out then 16 else 12)) 4 1) (p.pat + 10) 2 3) (p.pat + p.inner.size + (if out then 2 else 0)) 2 2) (p.pat + p.inner.size + 6) 2 3 else
  if p.inner.proto = 6 then putF (putF (putF (putF (putF f (h.size + 2) 2 3) (p.pat + (if out then 16 else 12)) 4 1) (p.pat + 10) 2 3) (p.pat + p.inner.size + (if out then 2 else 0)) 2 2) (p.pat + p.inner.size + 16) 2 3 else
  if p.inner.proto = 1 then putF (putF (putF (putF (putF f (h.size + 2) 2 3) (p.pat + (if out then 16 else 12)) 4 1) (p.pat + 10) 2 3) (p.pat + p.inner.size + 4) 2 2) (p.pat + p.inner.size + 2) 2 3 else
  putF (putF (putF f (h.size + 2) 2 3) (p.pat + (if out then 16 else 12)) 4 1) (p.pat + 10) 2 3
end Go.Proofs.YtbckoohljkmahaaGreat
namespace Go.Proofs.YtbckoohljkmahaaGreat
set_option linter.unusedVariables false
set_option linter.unusedSimpArgs false
open Go.RowKit
def chP (p : Pt) (out : Bool) (a port : Int) : Pt := if p.err = true then { chPorts p (p.inner.proto == 1) (!out) port with inner := chH p.inner (!out) a } else chPorts p (p.proto == 1) out port
theorem putF_off {F : Int → Int} {a n v k : Int} (h : putF F a n v k = 0) (hv : v ≠ 0) : ¬ (a ≤ k ∧ k < a + n) ∧ F k = 0 := by
  unfold putF at h
  split at h
  · exact absurd h hv
  · rename_i hc; exact ⟨hc, h⟩
theorem getR_mid {h : Hd} {X B : List Int} (h1 : 20 ≤ h.size ∧ h.size ≤ 60) (h2 : h.size ≤ h.len) (h3 : h.len ≤ X.length) (hB : seg X h.size.toNat (h.len - h.size).toNat = B) : getR h X = getX h.proto h B := by
  unfold getR getX
  rw [if_neg (by omega), hB]
theorem carChg_far {B : List Int} {proto port old a : Int} {src : Bool} {j : Nat} (h : proto = 1 → j < 2 ∨ 6 ≤ j) (h' : proto ≠ 1 → j ≠ portAt 0 src ∧ j ≠ portAt 0 src + 1 ∧ j ≠ sumAt 0 (proto == 17) ∧ j ≠ sumAt 0 (proto == 17) + 1) : (carChg B proto src port old a).getD j 0 = B.getD j 0 := by
  unfold carChg
  split
  · rename_i h1; exact echoW_far (by have := h h1; omega)
  · rename_i h1
    obtain ⟨a1, a2, a3, a4⟩ := h' h1
    exact carW_far a1 a2 a3 a4
theorem carW_bare {B : List Int} {port o a : Int} {src : Bool} (hl : 8 ≤ B.length) (h : n2 B 6 = 0) : carW B 0 true src port o a = put2 B (portAt 0 src) port := by
  have hpb : portAt 0 src + 2 ≤ 4 := by unfold portAt; cases src <;> simp
  have e0 : n2 (put2 B (portAt 0 src) port) 6 = n2 B 6 := n2_put2_ne (by omega) (by omega)
  unfold carW
  rw [if_pos (.inr ⟨rfl, by rw [show sumAt 0 true = 6 from rfl, e0]; exact h⟩)]
/-- what the statements ask of a rewritten frame -/
structure Again (X Y : List Int) (h : Hd) (p : Pt) (out : Bool) (a port : Int) : Prop where
  b8 : Bytes8 Y
  len : (Y.length : Int) = h.len
  getE : getE Y = 0
  hd : hdOf Y = chH h out a
  part : getR (hdOf Y) Y = (0, chP p out a port)
  far : ∀ k : Nat, k < Y.length → freeF h p out k = 0 → Y.getD k 0 = X.getD k 0
  sum : p.err = true → sumOf (seg Y p.pat.toNat p.inner.size.toNat) % 65535 = sumOf (seg X p.pat.toNat p.inner.size.toNat) % 65535
/-- a frame that is got, in its pieces -/
structure Pieces (X : List Int) (A B : List Int) : Prop where
  ok : HdOk A B.length
  b8 : Bytes8 B
  cut : X.take (hdOf X).len.toNat = A ++ B
  hd : hdOf X = ⟨A.length, A.length + B.length, A.getD 8 0, A.getD 9 0, n4 A 12, n4 A 16⟩
  mid : seg X (hdOf X).size.toNat ((hdOf X).len - (hdOf X).size).toNat = B
  le : A.length + B.length ≤ X.length
  sz : A.length ≤ 60
theorem pieces {X : List Int} (h8 : Bytes8 X) (hE : Go.Proofs.YtbckoohljkmahaaGreat.getE X = 0) : ∃ A B, Pieces X A B := by
  obtain ⟨A, B, ok, b8, cut, hs, hl, hh, hm, hle⟩ := HdOk.of h8 hE
  have hsz := ok.2.2.1
  exact ⟨A, B, ok, b8, cut, by rw [hh, (ok.got rfl).2], hm, hle, by omega⟩
theorem Pieces.getR {X A B : List Int} (h : Pieces X A B) : Go.Proofs.YtbckoohljkmahaaGreat.getR (hdOf X) X = getX (hdOf X).proto (hdOf X) B := by
  have e := h.hd
  have h20 := h.ok.2.1
  have := h.sz
  have := h.le
  refine getR_mid ?_ ?_ ?_ h.mid <;> rw [e] <;> simp only [] <;> omega
theorem Pieces.at_ {X A B : List Int} (h : Pieces X A B) {k : Nat} (hk : k < A.length + B.length) : (A ++ B).getD k 0 = X.getD k 0 := by
  rw [← h.cut]
  have e : (hdOf X).len.toNat = A.length + B.length := by rw [h.hd]; simp only []; omega
  rw [e]
  exact getD_take_ hk h.le
section
variable {X A B : List Int} {p : Pt} {out : Bool} {a port : Int}
theorem getX_to {h : Hd} {q : Pt} {pr : Int} (hok : getX pr h B = (0, q)) : pr = 17 ∧ udpR h B = (0, q) ∨ pr = 6 ∧ tcpR h B = (0, q) ∨ pr = 1 ∧ icmpR h B = (0, q) := by
  unfold getX at hok
  split at hok
  · rename_i h1; exact .inl ⟨h1, hok⟩
  split at hok
  · rename_i h1; exact .inr (.inl ⟨h1, hok⟩)
  split at hok
  · rename_i h1; exact .inr (.inr ⟨h1, hok⟩)
  · cases hok
/-- the frame A' ++ B' is got, as the whole -/
theorem again_of {B' : List Int} (hp : Pieces X A B) (h8 : Bytes8 B') (hB' : B'.length = B.length) (ha : 0 ≤ a ∧ a ≤ 4294967295) {q : Pt} (hq : getX (hdOf X).proto (chH (hdOf X) out a) B' = (0, q)) :
    Bytes8 (addrL A 0 out a ++ B') ∧ ((addrL A 0 out a ++ B').length : Int) = (hdOf X).len ∧ Go.Proofs.YtbckoohljkmahaaGreat.getE (addrL A 0 out a ++ B') = 0 ∧ hdOf (addrL A 0 out a ++ B') = chH (hdOf X) out a ∧ Go.Proofs.YtbckoohljkmahaaGreat.getR (hdOf (addrL A 0 out a ++ B')) (addrL A 0 out a ++ B') = (0, q) := by
  obtain ⟨e1, e2⟩ := hp.ok.again out ha hB'
  have h20 := hp.ok.2.1
  have hA8 := b8_addrL hp.ok.1 0 out (v := a) (by omega) ha
  have hl : (addrL A 0 out a ++ B').length = A.length + B.length := by rw [List.length_append, addrL_len, hB']
  have hh : hdOf (A ++ B) = hdOf X := by rw [hp.hd, (hp.ok.got rfl).2]
  rw [hh] at e2
  have hd := hp.hd
  have hsz := hp.sz
  refine ⟨hA8.app h8, by rw [hl, hd]; simp only []; omega, e1, e2, ?_⟩
  rw [e2]
  have hs : (chH (hdOf X) out a).size = A.length := by rw [hd]; rfl
  have hn : (chH (hdOf X) out a).len = A.length + B.length := by rw [hd]; rfl
  rw [getR_mid (B := B') (by omega) (by omega) (by omega)]
  · exact hq
  · rw [hs, hn, Int.toNat_natCast, show ((A.length : Int) + B.length - A.length).toNat = B.length by omega]
    have := seg_right (addrL A 0 out a) B' 0 B.length
    rw [addrL_len] at this
    rw [show A.length = A.length + 0 from rfl, this]
    unfold seg
    rw [List.drop_zero, List.take_of_length_le (by omega)]
theorem head_far {k : Nat} (h20 : 20 ≤ A.length) (h1 : k < addrAt 0 out ∨ addrAt 0 out + 4 ≤ k) (h2 : k ≠ 10) (h3 : k ≠ 11) : (addrL A 0 out a).getD k 0 = A.getD k 0 := addrL_far h1 (by omega) (by omega)
/-- bytes that are left, of both pieces -/
theorem far_of {B' : List Int} (hp : Pieces X A B) (hB' : B'.length = B.length) {k : Nat} (hk : k < A.length + B.length) (h1 : k < addrAt 0 out ∨ addrAt 0 out + 4 ≤ k) (h2 : k ≠ 10) (h3 : k ≠ 11) (hb : ∀ j, k = A.length + j → B'.getD j 0 = B.getD j 0) :
    (addrL A 0 out a ++ B').getD k 0 = X.getD k 0 := by
  have h20 := hp.ok.2.1
  rw [← hp.at_ hk]
  rcases Nat.lt_or_ge k A.length with hlt | hge
  · rw [getD_left (by rw [addrL_len]; omega), getD_left hlt, head_far h20 h1 h2 h3]
  · obtain ⟨j, rfl⟩ : ∃ j, k = A.length + j := ⟨k - A.length, by omega⟩
    have e := getD_right (addrL A 0 out a) B' j
    rw [addrL_len] at e
    rw [e, getD_right, hb j rfl]
theorem outer_off {f : Int → Int} {k : Nat} (h : putF (fun k => if k = 11 then 3 else if k = 10 then 3 else 0) (if out = true then 12 else 16) 4 1 k = 0) : (k < addrAt 0 out ∨ addrAt 0 out + 4 ≤ k) ∧ k ≠ 10 ∧ k ≠ 11 := by
  obtain ⟨h1, h2⟩ := putF_off h (by omega)
  unfold addrAt
  split at h2
  · omega
  split at h2
  · omega
  cases out <;> simp at h1 ⊢ <;> omega
end
end Go.Proofs.YtbckoohljkmahaaGreat
