/- The walk of the document's Right: what comes is as long as what was. -/
import Derived.Test.YtjaacmecniijgaaHnAll3
namespace Go.Proofs.Ytjaacmecniijgaa
set_option linter.unusedVariables false
set_option linter.unusedSimpArgs false
open Go.RowKit
def RightRes (w : World) (n : Nat) (e : Ending) (w' : World) : Prop := ∃ L : List Int, L.length = n ∧ Gives w L e w'
set_option maxRecDepth 100000 in
set_option maxHeartbeats 4000000 in
theorem Right_any (h : Hd) (l : List Int) (A : Option Addr) (len c : Nat) (w : World) (hr : Rd .u8 w w.heap.size A len l) (hl : len ≤ 60000) (hs : 0 ≤ h.src ∧ h.src ≤ 4294967295) (hd : 0 ≤ h.dst ∧ h.dst ≤ 4294967295) :
    Calls Try.prog 32 #[h.val, .slice A len c] w (RightRes w len) := by
  obtain ⟨i0, hi, hz0, hz1, hz2⟩ := info_parts info_u8_
  have hlen := Lib.hid hr.len
  obtain ⟨h0, h1, h2, h3, h4, h5⟩ := h
  unfold Hd.val
  simp only at hs hd ⊢
  by_cases g1 : h0 < 20
  · go_enter Try.func32, Try.ntmps32
    go_upto_region 1 with fail
    have bh := Blk.new w 77 #[.int .i64 h0, .int .i64 h1, .int .i64 h2, .int .i64 h3, .int .u32 h4, .int .u32 h5]
    have bel := bel_alloc w (.cells #[.int .i64 h0, .int .i64 h1, .int .i64 h2, .int .i64 h3, .int .u32 h4, .int .u32 h5] 77)
    generalize w.alloc (.cells #[.int .i64 h0, .int .i64 h1, .int .i64 h2, .int .i64 h3, .int .u32 h4, .int .u32 h5] 77) = W at *
    have own0 := Own.new .u8 W 5 w.heap.size bel.size [] (by simp) #[] rfl 0 rfl (by simp)
    have hr2 := ((hr.below bel).alloc bel.size (.cells #[] 5))
    have bel0 := bel.alloc bel.size (.cells #[] 5)
    have hW := bel.size
    have bh0 := bh.alloc (.cells #[] 5)
    have hgh : w.heap.size < W.heap.size := bh.lt
    go_upto_region 2 with (at_builtin; refine wpList_app _ rfl (.tmp 9) (.tmp 10) 24 rfl .u8 w.heap.size 5 i0 (.int .u8 0) 1 Try.underlying24 hi hz0 hz1 hz2 rfl (.slice (some ⟨W.heap.size, 0, none⟩) 0 0) rfl [] own0 w.heap.size _ _ _ rfl l hr2 (by simp; omega) (by decide) (by simp; omega) ?_; intro v1 w1 own1 hg1 hv1; rw [List.nil_append] at own1; have bel1 : Below w.heap.size w w1 := bel0.grown hg1 (by simp; omega) (fun k h => by simp [Value.ownBlock] at h; omega); replace bh := bh0.grown hg1 (by simp [Value.ownBlock]; omega); clear hg1 own0 hr2 bel0 bh0)
    have q0 := bh.cell 0
    have q1 := bh.cell 1
    have q3 := bh.cell 3
    go_wp2
    go_ret
    exact ⟨l, hlen.out, _, rfl, own1, bel1⟩
  by_cases g2 : h1 < h0
  · go_enter Try.func32, Try.ntmps32
    go_upto_region 1 with fail
    have bh := Blk.new w 77 #[.int .i64 h0, .int .i64 h1, .int .i64 h2, .int .i64 h3, .int .u32 h4, .int .u32 h5]
    have bel := bel_alloc w (.cells #[.int .i64 h0, .int .i64 h1, .int .i64 h2, .int .i64 h3, .int .u32 h4, .int .u32 h5] 77)
    generalize w.alloc (.cells #[.int .i64 h0, .int .i64 h1, .int .i64 h2, .int .i64 h3, .int .u32 h4, .int .u32 h5] 77) = W at *
    have own0 := Own.new .u8 W 5 w.heap.size bel.size [] (by simp) #[] rfl 0 rfl (by simp)
    have hr2 := ((hr.below bel).alloc bel.size (.cells #[] 5))
    have bel0 := bel.alloc bel.size (.cells #[] 5)
    have hW := bel.size
    have bh0 := bh.alloc (.cells #[] 5)
    have hgh : w.heap.size < W.heap.size := bh.lt
    go_upto_region 2 with (at_builtin; refine wpList_app _ rfl (.tmp 9) (.tmp 10) 24 rfl .u8 w.heap.size 5 i0 (.int .u8 0) 1 Try.underlying24 hi hz0 hz1 hz2 rfl (.slice (some ⟨W.heap.size, 0, none⟩) 0 0) rfl [] own0 w.heap.size _ _ _ rfl l hr2 (by simp; omega) (by decide) (by simp; omega) ?_; intro v1 w1 own1 hg1 hv1; rw [List.nil_append] at own1; have bel1 : Below w.heap.size w w1 := bel0.grown hg1 (by simp; omega) (fun k h => by simp [Value.ownBlock] at h; omega); replace bh := bh0.grown hg1 (by simp [Value.ownBlock]; omega); clear hg1 own0 hr2 bel0 bh0)
    have q0 := bh.cell 0
    have q1 := bh.cell 1
    have q3 := bh.cell 3
    go_wp2
    go_ret
    exact ⟨l, hlen.out, _, rfl, own1, bel1⟩
  by_cases g3 : (len : Int) < h1
  · go_enter Try.func32, Try.ntmps32
    go_upto_region 1 with fail
    have bh := Blk.new w 77 #[.int .i64 h0, .int .i64 h1, .int .i64 h2, .int .i64 h3, .int .u32 h4, .int .u32 h5]
    have bel := bel_alloc w (.cells #[.int .i64 h0, .int .i64 h1, .int .i64 h2, .int .i64 h3, .int .u32 h4, .int .u32 h5] 77)
    generalize w.alloc (.cells #[.int .i64 h0, .int .i64 h1, .int .i64 h2, .int .i64 h3, .int .u32 h4, .int .u32 h5] 77) = W at *
    have own0 := Own.new .u8 W 5 w.heap.size bel.size [] (by simp) #[] rfl 0 rfl (by simp)
    have hr2 := ((hr.below bel).alloc bel.size (.cells #[] 5))
    have bel0 := bel.alloc bel.size (.cells #[] 5)
    have hW := bel.size
    have bh0 := bh.alloc (.cells #[] 5)
    have hgh : w.heap.size < W.heap.size := bh.lt
    go_upto_region 2 with (at_builtin; refine wpList_app _ rfl (.tmp 9) (.tmp 10) 24 rfl .u8 w.heap.size 5 i0 (.int .u8 0) 1 Try.underlying24 hi hz0 hz1 hz2 rfl (.slice (some ⟨W.heap.size, 0, none⟩) 0 0) rfl [] own0 w.heap.size _ _ _ rfl l hr2 (by simp; omega) (by decide) (by simp; omega) ?_; intro v1 w1 own1 hg1 hv1; rw [List.nil_append] at own1; have bel1 : Below w.heap.size w w1 := bel0.grown hg1 (by simp; omega) (fun k h => by simp [Value.ownBlock] at h; omega); replace bh := bh0.grown hg1 (by simp [Value.ownBlock]; omega); clear hg1 own0 hr2 bel0 bh0)
    have q0 := bh.cell 0
    have q1 := bh.cell 1
    have q3 := bh.cell 3
    obtain ⟨A1, c1, rfl, hc1, hc2, rd1⟩ := own1.form hlen.out
    go_wp2
    go_ret
    exact ⟨l, hlen.out, _, rfl, own1, bel1⟩
  obtain ⟨m, rfl⟩ : ∃ m : Nat, h0 = (m : Int) := ⟨h0.toNat, by omega⟩
  obtain ⟨n, rfl⟩ : ∃ n : Nat, h1 = (n : Int) := ⟨h1.toNat, by omega⟩
  have hm1 : 20 ≤ m := by omega
  have hm3 : m ≤ n := by omega
  have hm4 : n ≤ len := by omega
  have d1 : decide ((m : Int) < 20) = false := by simp; omega
  have d2 : decide ((n : Int) < m) = false := by simp; omega
  have d3 : decide ((len : Int) < n) = false := by simp; omega
  clear g1 g2 g3
  by_cases h17 : h3 = 17
  · subst h17
    by_cases g4 : n - m < 8
    · have d4 : decide (((n - m : Nat) : Int) < 8) = true := by simp; omega
      go_enter Try.func32, Try.ntmps32
      go_upto_region 1 with fail
      have bh := Blk.new w 77 #[.int .i64 (m : Int), .int .i64 (n : Int), .int .i64 h2, .int .i64 17, .int .u32 h4, .int .u32 h5]
      have bel := bel_alloc w (.cells #[.int .i64 (m : Int), .int .i64 (n : Int), .int .i64 h2, .int .i64 17, .int .u32 h4, .int .u32 h5] 77)
      generalize w.alloc (.cells #[.int .i64 (m : Int), .int .i64 (n : Int), .int .i64 h2, .int .i64 17, .int .u32 h4, .int .u32 h5] 77) = W at *
      have own0 := Own.new .u8 W 5 w.heap.size bel.size [] (by simp) #[] rfl 0 rfl (by simp)
      have hr2 := ((hr.below bel).alloc bel.size (.cells #[] 5))
      have bel0 := bel.alloc bel.size (.cells #[] 5)
      have hW := bel.size
      have bh0 := bh.alloc (.cells #[] 5)
      have hgh : w.heap.size < W.heap.size := bh.lt
      go_upto_region 2 with (at_builtin; refine wpList_app _ rfl (.tmp 9) (.tmp 10) 24 rfl .u8 w.heap.size 5 i0 (.int .u8 0) 1 Try.underlying24 hi hz0 hz1 hz2 rfl (.slice (some ⟨W.heap.size, 0, none⟩) 0 0) rfl [] own0 w.heap.size _ _ _ rfl l hr2 (by simp; omega) (by decide) (by simp; omega) ?_; intro v1 w1 own1 hg1 hv1; rw [List.nil_append] at own1; have bel1 : Below w.heap.size w w1 := bel0.grown hg1 (by simp; omega) (fun k h => by simp [Value.ownBlock] at h; omega); replace bh := bh0.grown hg1 (by simp [Value.ownBlock]; omega); clear hg1 own0 hr2 bel0 bh0)
      have q0 := bh.cell 0
      have q1 := bh.cell 1
      have q3 := bh.cell 3
      obtain ⟨g, c1, rfl, hc1, hc2, hgb, hgw⟩ := own1.formG hlen.out (by omega)
      unfold maxLen at hc2
      obtain ⟨A2, hA2⟩ : ∃ A2 : Option Addr, (if c1 = m then some ⟨g, 0, none⟩ else some ⟨g, m, none⟩) = A2 := ⟨_, rfl⟩
      go_wp2
      go_ret
      exact ⟨l, hlen.out, _, rfl, own1, bel1⟩
    have d4 : decide (((n - m : Nat) : Int) < 8) = false := by simp; omega
    go_enter Try.func32, Try.ntmps32
    go_upto_region 1 with fail
    have bh := Blk.new w 77 #[.int .i64 (m : Int), .int .i64 (n : Int), .int .i64 h2, .int .i64 17, .int .u32 h4, .int .u32 h5]
    have bel := bel_alloc w (.cells #[.int .i64 (m : Int), .int .i64 (n : Int), .int .i64 h2, .int .i64 17, .int .u32 h4, .int .u32 h5] 77)
    generalize w.alloc (.cells #[.int .i64 (m : Int), .int .i64 (n : Int), .int .i64 h2, .int .i64 17, .int .u32 h4, .int .u32 h5] 77) = W at *
    have own0 := Own.new .u8 W 5 w.heap.size bel.size [] (by simp) #[] rfl 0 rfl (by simp)
    have hr2 := ((hr.below bel).alloc bel.size (.cells #[] 5))
    have bel0 := bel.alloc bel.size (.cells #[] 5)
    have hW := bel.size
    have bh0 := bh.alloc (.cells #[] 5)
    have hgh : w.heap.size < W.heap.size := bh.lt
    go_upto_region 2 with (at_builtin; refine wpList_app _ rfl (.tmp 9) (.tmp 10) 24 rfl .u8 w.heap.size 5 i0 (.int .u8 0) 1 Try.underlying24 hi hz0 hz1 hz2 rfl (.slice (some ⟨W.heap.size, 0, none⟩) 0 0) rfl [] own0 w.heap.size _ _ _ rfl l hr2 (by simp; omega) (by decide) (by simp; omega) ?_; intro v1 w1 own1 hg1 hv1; rw [List.nil_append] at own1; have bel1 : Below w.heap.size w w1 := bel0.grown hg1 (by simp; omega) (fun k h => by simp [Value.ownBlock] at h; omega); replace bh := bh0.grown hg1 (by simp [Value.ownBlock]; omega); clear hg1 own0 hr2 bel0 bh0)
    have q0 := bh.cell 0
    have q1 := bh.cell 1
    have q3 := bh.cell 3
    obtain ⟨g, c1, rfl, hc1, hc2, hgb, hgw⟩ := own1.formG hlen.out (by omega)
    unfold maxLen at hc2
    have hcm1 : (c1 = m) = False := by simp; omega
    obtain ⟨k0, z0, _⟩ := own1.at_ hlen.out (j := m + 6) (by omega)
    obtain ⟨k1, z1, _⟩ := own1.at_ hlen.out (j := m + 6 + 1) (by omega)
    go_upto_region 16 with fail
    have hgne := own1.ne bh (by decide)
    have own2 := (own1.set hlen.out (m + 6) (x := 0) (u8_inr (by omega))).set (by rw [List.length_set]; exact hlen.out) (m + 7) (x := 0) (u8_inr (by omega))
    have bel2 := (bel1.setCell (p := ⟨g, m + 6, none⟩) hgb (.int .u8 0)).setCell (p := ⟨g, m + 7, none⟩) hgb (.int .u8 0)
    replace bh := (bh.far (p := ⟨g, m + 6, none⟩) hgne (.int .u8 0)).far (p := ⟨g, m + 7, none⟩) hgne (.int .u8 0)
    obtain ⟨L2, hL2, hLl⟩ : ∃ L2, L2 = (l.set (m + 6) 0).set (m + 7) 0 ∧ L2.length = len := ⟨_, rfl, by rw [List.length_set, List.length_set, hlen.out]⟩
    rw [← hL2] at own2
    clear hL2 own1 k0 k1 z0 z1 q0 q1 q3
    replace hLl := Lib.hid hLl
    generalize (w1.setCell ⟨g, m + 6, none⟩ (.int .u8 0)).setCell ⟨g, m + 7, none⟩ (.int .u8 0) = W2 at *
    have rd3 := (own2.rd hLl.out).sub m (n - m) (by omega)
    rw [Nat.zero_add] at rd3
    have hSb := sumOf_bd (fun x hx => inr_u8 (rd3.rng x hx))
    have q3 := bh.cell 3
    have q4 := bh.cell 4
    have q5 := bh.cell 5
    go_wp2_with fail
    refine (rOf_any (seg L2 m (n - m)) _ (n - m) (c1 - m) _ W2 (by omega) rd3).mono ?_
    rintro e W3 ⟨rfl, rfl⟩
    generalize sumOf (seg L2 m (n - m)) = S at *
    go_wp2_with fail
    refine (Pseudo_any h4 h5 17 (seg L2 m (n - m)) _ (n - m) (c1 - m) _ W2 rd3 (Nat.le_refl _) hs hd (by omega) (by omega)).mono ?_
    have hTb : 0 ≤ csum h4 h5 17 (seg L2 m (n - m)) ∧ csum h4 h5 17 (seg L2 m (n - m)) ≤ 65535 := csum_bd hs hd (by omega) (by rw [rd3.len]; omega) (fun x hx => inr_u8 (rd3.rng x hx))
    rintro e W3 ⟨rfl, hb⟩
    replace own2 := own2.below hb
    replace bel2 := bel_after bel2 hb
    clear hb rd3 q3 q4 q5 bh hSb
    generalize csum h4 h5 17 (seg L2 m (n - m)) = S at *
    have hSw : IntKind.u8.wrap S = S % 256 := IntKind.wrap_u8' _
    obtain ⟨k0, z0, _⟩ := own2.at_ hLl.out (j := m + 6) (by omega)
    obtain ⟨k1, z1, _⟩ := own2.at_ hLl.out (j := m + 7) (by omega)
    have own3 := (own2.set hLl.out (m + 6) (x := S / 256) (u8_inr (by omega))).set (by rw [List.length_set]; exact hLl.out) (m + 7) (x := S % 256) (u8_inr (by omega))
    have bel3 := (bel2.setCell (p := ⟨g, m + 6, none⟩) hgb (.int .u8 (S / 256))).setCell (p := ⟨g, m + 7, none⟩) hgb (.int .u8 (S % 256))
    go_wp2
    go_ret
    exact ⟨_, by rw [List.length_set, List.length_set, hLl.out], _, rfl, own3, bel3⟩
  by_cases h6 : h3 = 6
  · subst h6
    by_cases g4 : n - m < 18
    · have d4 : decide (((n - m : Nat) : Int) < 18) = true := by simp; omega
      go_enter Try.func32, Try.ntmps32
      go_upto_region 1 with fail
      have bh := Blk.new w 77 #[.int .i64 (m : Int), .int .i64 (n : Int), .int .i64 h2, .int .i64 6, .int .u32 h4, .int .u32 h5]
      have bel := bel_alloc w (.cells #[.int .i64 (m : Int), .int .i64 (n : Int), .int .i64 h2, .int .i64 6, .int .u32 h4, .int .u32 h5] 77)
      generalize w.alloc (.cells #[.int .i64 (m : Int), .int .i64 (n : Int), .int .i64 h2, .int .i64 6, .int .u32 h4, .int .u32 h5] 77) = W at *
      have own0 := Own.new .u8 W 5 w.heap.size bel.size [] (by simp) #[] rfl 0 rfl (by simp)
      have hr2 := ((hr.below bel).alloc bel.size (.cells #[] 5))
      have bel0 := bel.alloc bel.size (.cells #[] 5)
      have hW := bel.size
      have bh0 := bh.alloc (.cells #[] 5)
      have hgh : w.heap.size < W.heap.size := bh.lt
      go_upto_region 2 with (at_builtin; refine wpList_app _ rfl (.tmp 9) (.tmp 10) 24 rfl .u8 w.heap.size 5 i0 (.int .u8 0) 1 Try.underlying24 hi hz0 hz1 hz2 rfl (.slice (some ⟨W.heap.size, 0, none⟩) 0 0) rfl [] own0 w.heap.size _ _ _ rfl l hr2 (by simp; omega) (by decide) (by simp; omega) ?_; intro v1 w1 own1 hg1 hv1; rw [List.nil_append] at own1; have bel1 : Below w.heap.size w w1 := bel0.grown hg1 (by simp; omega) (fun k h => by simp [Value.ownBlock] at h; omega); replace bh := bh0.grown hg1 (by simp [Value.ownBlock]; omega); clear hg1 own0 hr2 bel0 bh0)
      have q0 := bh.cell 0
      have q1 := bh.cell 1
      have q3 := bh.cell 3
      obtain ⟨g, c1, rfl, hc1, hc2, hgb, hgw⟩ := own1.formG hlen.out (by omega)
      unfold maxLen at hc2
      obtain ⟨A2, hA2⟩ : ∃ A2 : Option Addr, (if c1 = m then some ⟨g, 0, none⟩ else some ⟨g, m, none⟩) = A2 := ⟨_, rfl⟩
      go_wp2
      go_ret
      exact ⟨l, hlen.out, _, rfl, own1, bel1⟩
    have d4 : decide (((n - m : Nat) : Int) < 18) = false := by simp; omega
    go_enter Try.func32, Try.ntmps32
    go_upto_region 1 with fail
    have bh := Blk.new w 77 #[.int .i64 (m : Int), .int .i64 (n : Int), .int .i64 h2, .int .i64 6, .int .u32 h4, .int .u32 h5]
    have bel := bel_alloc w (.cells #[.int .i64 (m : Int), .int .i64 (n : Int), .int .i64 h2, .int .i64 6, .int .u32 h4, .int .u32 h5] 77)
    generalize w.alloc (.cells #[.int .i64 (m : Int), .int .i64 (n : Int), .int .i64 h2, .int .i64 6, .int .u32 h4, .int .u32 h5] 77) = W at *
    have own0 := Own.new .u8 W 5 w.heap.size bel.size [] (by simp) #[] rfl 0 rfl (by simp)
    have hr2 := ((hr.below bel).alloc bel.size (.cells #[] 5))
    have bel0 := bel.alloc bel.size (.cells #[] 5)
    have hW := bel.size
    have bh0 := bh.alloc (.cells #[] 5)
    have hgh : w.heap.size < W.heap.size := bh.lt
    go_upto_region 2 with (at_builtin; refine wpList_app _ rfl (.tmp 9) (.tmp 10) 24 rfl .u8 w.heap.size 5 i0 (.int .u8 0) 1 Try.underlying24 hi hz0 hz1 hz2 rfl (.slice (some ⟨W.heap.size, 0, none⟩) 0 0) rfl [] own0 w.heap.size _ _ _ rfl l hr2 (by simp; omega) (by decide) (by simp; omega) ?_; intro v1 w1 own1 hg1 hv1; rw [List.nil_append] at own1; have bel1 : Below w.heap.size w w1 := bel0.grown hg1 (by simp; omega) (fun k h => by simp [Value.ownBlock] at h; omega); replace bh := bh0.grown hg1 (by simp [Value.ownBlock]; omega); clear hg1 own0 hr2 bel0 bh0)
    have q0 := bh.cell 0
    have q1 := bh.cell 1
    have q3 := bh.cell 3
    obtain ⟨g, c1, rfl, hc1, hc2, hgb, hgw⟩ := own1.formG hlen.out (by omega)
    unfold maxLen at hc2
    have hcm1 : (c1 = m) = False := by simp; omega
    obtain ⟨k0, z0, _⟩ := own1.at_ hlen.out (j := m + 16) (by omega)
    obtain ⟨k1, z1, _⟩ := own1.at_ hlen.out (j := m + 16 + 1) (by omega)
    go_upto_region 16 with fail
    have hgne := own1.ne bh (by decide)
    have own2 := (own1.set hlen.out (m + 16) (x := 0) (u8_inr (by omega))).set (by rw [List.length_set]; exact hlen.out) (m + 17) (x := 0) (u8_inr (by omega))
    have bel2 := (bel1.setCell (p := ⟨g, m + 16, none⟩) hgb (.int .u8 0)).setCell (p := ⟨g, m + 17, none⟩) hgb (.int .u8 0)
    replace bh := (bh.far (p := ⟨g, m + 16, none⟩) hgne (.int .u8 0)).far (p := ⟨g, m + 17, none⟩) hgne (.int .u8 0)
    obtain ⟨L2, hL2, hLl⟩ : ∃ L2, L2 = (l.set (m + 16) 0).set (m + 17) 0 ∧ L2.length = len := ⟨_, rfl, by rw [List.length_set, List.length_set, hlen.out]⟩
    rw [← hL2] at own2
    clear hL2 own1 k0 k1 z0 z1 q0 q1 q3
    replace hLl := Lib.hid hLl
    generalize (w1.setCell ⟨g, m + 16, none⟩ (.int .u8 0)).setCell ⟨g, m + 17, none⟩ (.int .u8 0) = W2 at *
    have rd3 := (own2.rd hLl.out).sub m (n - m) (by omega)
    rw [Nat.zero_add] at rd3
    have hSb := sumOf_bd (fun x hx => inr_u8 (rd3.rng x hx))
    have q3 := bh.cell 3
    have q4 := bh.cell 4
    have q5 := bh.cell 5
    go_wp2_with fail
    refine (rOf_any (seg L2 m (n - m)) _ (n - m) (c1 - m) _ W2 (by omega) rd3).mono ?_
    rintro e W3 ⟨rfl, rfl⟩
    generalize sumOf (seg L2 m (n - m)) = S at *
    go_wp2_with fail
    refine (Pseudo_any h4 h5 6 (seg L2 m (n - m)) _ (n - m) (c1 - m) _ W2 rd3 (Nat.le_refl _) hs hd (by omega) (by omega)).mono ?_
    have hTb : 0 ≤ csum h4 h5 6 (seg L2 m (n - m)) ∧ csum h4 h5 6 (seg L2 m (n - m)) ≤ 65535 := csum_bd hs hd (by omega) (by rw [rd3.len]; omega) (fun x hx => inr_u8 (rd3.rng x hx))
    rintro e W3 ⟨rfl, hb⟩
    replace own2 := own2.below hb
    replace bel2 := bel_after bel2 hb
    clear hb rd3 q3 q4 q5 bh hSb
    generalize csum h4 h5 6 (seg L2 m (n - m)) = S at *
    have hSw : IntKind.u8.wrap S = S % 256 := IntKind.wrap_u8' _
    obtain ⟨k0, z0, _⟩ := own2.at_ hLl.out (j := m + 16) (by omega)
    obtain ⟨k1, z1, _⟩ := own2.at_ hLl.out (j := m + 17) (by omega)
    have own3 := (own2.set hLl.out (m + 16) (x := S / 256) (u8_inr (by omega))).set (by rw [List.length_set]; exact hLl.out) (m + 17) (x := S % 256) (u8_inr (by omega))
    have bel3 := (bel2.setCell (p := ⟨g, m + 16, none⟩) hgb (.int .u8 (S / 256))).setCell (p := ⟨g, m + 17, none⟩) hgb (.int .u8 (S % 256))
    go_wp2
    go_ret
    exact ⟨_, by rw [List.length_set, List.length_set, hLl.out], _, rfl, own3, bel3⟩
  by_cases h1 : h3 = 1
  · subst h1
    by_cases g4 : n - m < 4
    · have d4 : decide (((n - m : Nat) : Int) < 4) = true := by simp; omega
      go_enter Try.func32, Try.ntmps32
      go_upto_region 1 with fail
      have bh := Blk.new w 77 #[.int .i64 (m : Int), .int .i64 (n : Int), .int .i64 h2, .int .i64 1, .int .u32 h4, .int .u32 h5]
      have bel := bel_alloc w (.cells #[.int .i64 (m : Int), .int .i64 (n : Int), .int .i64 h2, .int .i64 1, .int .u32 h4, .int .u32 h5] 77)
      generalize w.alloc (.cells #[.int .i64 (m : Int), .int .i64 (n : Int), .int .i64 h2, .int .i64 1, .int .u32 h4, .int .u32 h5] 77) = W at *
      have own0 := Own.new .u8 W 5 w.heap.size bel.size [] (by simp) #[] rfl 0 rfl (by simp)
      have hr2 := ((hr.below bel).alloc bel.size (.cells #[] 5))
      have bel0 := bel.alloc bel.size (.cells #[] 5)
      have hW := bel.size
      have bh0 := bh.alloc (.cells #[] 5)
      have hgh : w.heap.size < W.heap.size := bh.lt
      go_upto_region 2 with (at_builtin; refine wpList_app _ rfl (.tmp 9) (.tmp 10) 24 rfl .u8 w.heap.size 5 i0 (.int .u8 0) 1 Try.underlying24 hi hz0 hz1 hz2 rfl (.slice (some ⟨W.heap.size, 0, none⟩) 0 0) rfl [] own0 w.heap.size _ _ _ rfl l hr2 (by simp; omega) (by decide) (by simp; omega) ?_; intro v1 w1 own1 hg1 hv1; rw [List.nil_append] at own1; have bel1 : Below w.heap.size w w1 := bel0.grown hg1 (by simp; omega) (fun k h => by simp [Value.ownBlock] at h; omega); replace bh := bh0.grown hg1 (by simp [Value.ownBlock]; omega); clear hg1 own0 hr2 bel0 bh0)
      have q0 := bh.cell 0
      have q1 := bh.cell 1
      have q3 := bh.cell 3
      obtain ⟨g, c1, rfl, hc1, hc2, hgb, hgw⟩ := own1.formG hlen.out (by omega)
      unfold maxLen at hc2
      obtain ⟨A2, hA2⟩ : ∃ A2 : Option Addr, (if c1 = m then some ⟨g, 0, none⟩ else some ⟨g, m, none⟩) = A2 := ⟨_, rfl⟩
      go_wp2
      go_ret
      exact ⟨l, hlen.out, _, rfl, own1, bel1⟩
    have d4 : decide (((n - m : Nat) : Int) < 4) = false := by simp; omega
    go_enter Try.func32, Try.ntmps32
    go_upto_region 1 with fail
    have bh := Blk.new w 77 #[.int .i64 (m : Int), .int .i64 (n : Int), .int .i64 h2, .int .i64 1, .int .u32 h4, .int .u32 h5]
    have bel := bel_alloc w (.cells #[.int .i64 (m : Int), .int .i64 (n : Int), .int .i64 h2, .int .i64 1, .int .u32 h4, .int .u32 h5] 77)
    generalize w.alloc (.cells #[.int .i64 (m : Int), .int .i64 (n : Int), .int .i64 h2, .int .i64 1, .int .u32 h4, .int .u32 h5] 77) = W at *
    have own0 := Own.new .u8 W 5 w.heap.size bel.size [] (by simp) #[] rfl 0 rfl (by simp)
    have hr2 := ((hr.below bel).alloc bel.size (.cells #[] 5))
    have bel0 := bel.alloc bel.size (.cells #[] 5)
    have hW := bel.size
    have bh0 := bh.alloc (.cells #[] 5)
    have hgh : w.heap.size < W.heap.size := bh.lt
    go_upto_region 2 with (at_builtin; refine wpList_app _ rfl (.tmp 9) (.tmp 10) 24 rfl .u8 w.heap.size 5 i0 (.int .u8 0) 1 Try.underlying24 hi hz0 hz1 hz2 rfl (.slice (some ⟨W.heap.size, 0, none⟩) 0 0) rfl [] own0 w.heap.size _ _ _ rfl l hr2 (by simp; omega) (by decide) (by simp; omega) ?_; intro v1 w1 own1 hg1 hv1; rw [List.nil_append] at own1; have bel1 : Below w.heap.size w w1 := bel0.grown hg1 (by simp; omega) (fun k h => by simp [Value.ownBlock] at h; omega); replace bh := bh0.grown hg1 (by simp [Value.ownBlock]; omega); clear hg1 own0 hr2 bel0 bh0)
    have q0 := bh.cell 0
    have q1 := bh.cell 1
    have q3 := bh.cell 3
    obtain ⟨g, c1, rfl, hc1, hc2, hgb, hgw⟩ := own1.formG hlen.out (by omega)
    unfold maxLen at hc2
    have hcm1 : (c1 = m) = False := by simp; omega
    obtain ⟨k0, z0, _⟩ := own1.at_ hlen.out (j := m + 2) (by omega)
    obtain ⟨k1, z1, _⟩ := own1.at_ hlen.out (j := m + 2 + 1) (by omega)
    go_upto_region 16 with fail
    have hgne := own1.ne bh (by decide)
    have own2 := (own1.set hlen.out (m + 2) (x := 0) (u8_inr (by omega))).set (by rw [List.length_set]; exact hlen.out) (m + 3) (x := 0) (u8_inr (by omega))
    have bel2 := (bel1.setCell (p := ⟨g, m + 2, none⟩) hgb (.int .u8 0)).setCell (p := ⟨g, m + 3, none⟩) hgb (.int .u8 0)
    replace bh := (bh.far (p := ⟨g, m + 2, none⟩) hgne (.int .u8 0)).far (p := ⟨g, m + 3, none⟩) hgne (.int .u8 0)
    obtain ⟨L2, hL2, hLl⟩ : ∃ L2, L2 = (l.set (m + 2) 0).set (m + 3) 0 ∧ L2.length = len := ⟨_, rfl, by rw [List.length_set, List.length_set, hlen.out]⟩
    rw [← hL2] at own2
    clear hL2 own1 k0 k1 z0 z1 q0 q1 q3
    replace hLl := Lib.hid hLl
    generalize (w1.setCell ⟨g, m + 2, none⟩ (.int .u8 0)).setCell ⟨g, m + 3, none⟩ (.int .u8 0) = W2 at *
    have rd3 := (own2.rd hLl.out).sub m (n - m) (by omega)
    rw [Nat.zero_add] at rd3
    have hSb := sumOf_bd (fun x hx => inr_u8 (rd3.rng x hx))
    have q3 := bh.cell 3
    have q4 := bh.cell 4
    have q5 := bh.cell 5
    go_wp2_with fail
    refine (rOf_any (seg L2 m (n - m)) _ (n - m) (c1 - m) _ W2 (by omega) rd3).mono ?_
    rintro e W3 ⟨rfl, rfl⟩
    generalize sumOf (seg L2 m (n - m)) = S at *
    have hSw : IntKind.u8.wrap S = S % 256 := IntKind.wrap_u8' _
    obtain ⟨k0, z0, _⟩ := own2.at_ hLl.out (j := m + 2) (by omega)
    obtain ⟨k1, z1, _⟩ := own2.at_ hLl.out (j := m + 3) (by omega)
    have own3 := (own2.set hLl.out (m + 2) (x := S / 256) (u8_inr (by omega))).set (by rw [List.length_set]; exact hLl.out) (m + 3) (x := S % 256) (u8_inr (by omega))
    have bel3 := (bel2.setCell (p := ⟨g, m + 2, none⟩) hgb (.int .u8 (S / 256))).setCell (p := ⟨g, m + 3, none⟩) hgb (.int .u8 (S % 256))
    go_wp2
    go_ret
    exact ⟨_, by rw [List.length_set, List.length_set, hLl.out], _, rfl, own3, bel3⟩
  have e17 : (h3 == 17) = false := by simpa using h17
  have e6 : (h3 == 6) = false := by simpa using h6
  have e1 : (h3 == 1) = false := by simpa using h1
  go_enter Try.func32, Try.ntmps32
  go_upto_region 1 with fail
  have bh := Blk.new w 77 #[.int .i64 (m : Int), .int .i64 (n : Int), .int .i64 h2, .int .i64 h3, .int .u32 h4, .int .u32 h5]
  have bel := bel_alloc w (.cells #[.int .i64 (m : Int), .int .i64 (n : Int), .int .i64 h2, .int .i64 h3, .int .u32 h4, .int .u32 h5] 77)
  generalize w.alloc (.cells #[.int .i64 (m : Int), .int .i64 (n : Int), .int .i64 h2, .int .i64 h3, .int .u32 h4, .int .u32 h5] 77) = W at *
  have own0 := Own.new .u8 W 5 w.heap.size bel.size [] (by simp) #[] rfl 0 rfl (by simp)
  have hr2 := ((hr.below bel).alloc bel.size (.cells #[] 5))
  have bel0 := bel.alloc bel.size (.cells #[] 5)
  have hW := bel.size
  have bh0 := bh.alloc (.cells #[] 5)
  have hgh : w.heap.size < W.heap.size := bh.lt
  go_upto_region 2 with (at_builtin; refine wpList_app _ rfl (.tmp 9) (.tmp 10) 24 rfl .u8 w.heap.size 5 i0 (.int .u8 0) 1 Try.underlying24 hi hz0 hz1 hz2 rfl (.slice (some ⟨W.heap.size, 0, none⟩) 0 0) rfl [] own0 w.heap.size _ _ _ rfl l hr2 (by simp; omega) (by decide) (by simp; omega) ?_; intro v1 w1 own1 hg1 hv1; rw [List.nil_append] at own1; have bel1 : Below w.heap.size w w1 := bel0.grown hg1 (by simp; omega) (fun k h => by simp [Value.ownBlock] at h; omega); replace bh := bh0.grown hg1 (by simp [Value.ownBlock]; omega); clear hg1 own0 hr2 bel0 bh0)
  have q0 := bh.cell 0
  have q1 := bh.cell 1
  have q3 := bh.cell 3
  obtain ⟨g, c1, rfl, hc1, hc2, hgb, hgw⟩ := own1.formG hlen.out (by omega)
  unfold maxLen at hc2
  obtain ⟨A2, hA2⟩ : ∃ A2 : Option Addr, (if c1 = m then some ⟨g, 0, none⟩ else some ⟨g, m, none⟩) = A2 := ⟨_, rfl⟩
  go_wp2
  go_ret
  exact ⟨l, hlen.out, _, rfl, own1, bel1⟩
end Go.Proofs.Ytjaacmecniijgaa
