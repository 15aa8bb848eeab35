/- The walks of package part: Get. -/
import Derived.Test.YtjaacmecniijgaaPart8
namespace Go.Proofs.Ytjaacmecniijgaa
set_option linter.unusedVariables false
set_option linter.unusedSimpArgs false
open Go.RowKit
theorem arg_Rd {l : List Int} {b o len c B m n : Nat} {w : World} (hr : Rd .u8 w B (some ⟨b, o, none⟩) len l) (hmn : m ≤ n) (hn : n ≤ len) (hlc : len ≤ c) :
    Rd .u8 w B (if c = m then some ⟨b, o, none⟩ else some ⟨b, o + m, none⟩) (n - m) (seg l m (n - m)) := by
  by_cases h : n - m = 0
  · have e : seg l m (n - m) = [] := by rw [h]; simp [seg]
    rw [e, h]; exact Rd.nil _ _ _ _
  · rw [if_neg (by omega)]
    exact hr.sub m (n - m) (by omega)
set_option maxRecDepth 100000 in
set_option maxHeartbeats 2000000 in
theorem PGet_any (h : Hd) (l : List Int) (A : Option Addr) (len c B : Nat) (w : World) (hr : Rd .u8 w B A len l) (hB : B ≤ w.heap.size) (hlc : len ≤ c) (hcm : c ≤ 9223372036854775807) (hl : len ≤ 60000) (hs : 0 ≤ h.src ∧ h.src ≤ 4294967295) (hd : 0 ≤ h.dst ∧ h.dst ≤ 4294967295) :
    Calls Try.prog 36 #[h.val, .slice A len c] w (Tells w (getR h l)) := by
  obtain ⟨R, hR⟩ : ∃ R, R = getR h l := ⟨_, rfl⟩
  rw [← hR]
  unfold getR at hR
  rw [hr.len] at hR
  obtain ⟨h0, h1, h2, h3, h4, h5⟩ := h
  unfold Hd.val Tells
  simp only at hs hd hR ⊢
  by_cases hbad : h0 < 20 ∨ 60 < h0 ∨ h1 < h0 ∨ (len : Int) < h1
  · rw [if_pos hbad] at hR
    subst hR
    by_cases g1 : h0 < 20
    · clear hbad
      go_enter Try.func36, Try.ntmps36
      go_upto_region 1 with fail
      have bh := (Blk.new w 82 #[.int .i64 h0, .int .i64 h1, .int .i64 h2, .int .i64 h3, .int .u32 h4, .int .u32 h5]).alloc (.cells #[.int .i64 0, .int .u16 0, .int .u16 0, .int .i64 0, .int .i64 0, .int .i64 0, .bool false, .int .i64 0, .int .i64 0, .int .i64 0, .int .i64 0, .int .u32 0, .int .u32 0, .int .i64 0, .bool false] 86)
      have bk := Blk.new (w.alloc (.cells #[.int .i64 h0, .int .i64 h1, .int .i64 h2, .int .i64 h3, .int .u32 h4, .int .u32 h5] 82)) 86 #[.int .i64 0, .int .u16 0, .int .u16 0, .int .i64 0, .int .i64 0, .int .i64 0, .bool false, .int .i64 0, .int .i64 0, .int .i64 0, .int .i64 0, .int .u32 0, .int .u32 0, .int .i64 0, .bool false]
      rw [show (w.alloc (.cells #[.int .i64 h0, .int .i64 h1, .int .i64 h2, .int .i64 h3, .int .u32 h4, .int .u32 h5] 82)).heap.size = w.heap.size + 1 by simp] at bk
      have bel : Below w.heap.size w ((w.alloc (.cells #[.int .i64 h0, .int .i64 h1, .int .i64 h2, .int .i64 h3, .int .u32 h4, .int .u32 h5] 82)).alloc (.cells #[.int .i64 0, .int .u16 0, .int .u16 0, .int .i64 0, .int .i64 0, .int .i64 0, .bool false, .int .i64 0, .int .i64 0, .int .i64 0, .int .i64 0, .int .u32 0, .int .u32 0, .int .i64 0, .bool false] 86)) := (bel_alloc _ _).alloc (by simp) _
      generalize ((w.alloc (.cells #[.int .i64 h0, .int .i64 h1, .int .i64 h2, .int .i64 h3, .int .u32 h4, .int .u32 h5] 82)).alloc (.cells #[.int .i64 0, .int .u16 0, .int .u16 0, .int .i64 0, .int .i64 0, .int .i64 0, .bool false, .int .i64 0, .int .i64 0, .int .i64 0, .int .i64 0, .int .u32 0, .int .u32 0, .int .i64 0, .bool false] 86)) = W at *
      have q0 := bh.cell 0
      have q1 := bh.cell 1
      go_wp2_with (refine wpList_stRow rfl rfl rfl rfl rfl bk pt_size rfl (by simp [Value.oneCell', Pt.z, Hd.z, portsP]) ?_)
      exact bodyPost_ret (results_row2 rfl _ rfl (bk.setRow _) Try.underlying86 pt_size) rfl ⟨rfl, below_setRow bel (by omega) _⟩
    by_cases g2 : 60 < h0
    · clear hbad
      go_enter Try.func36, Try.ntmps36
      go_upto_region 1 with fail
      have bh := (Blk.new w 82 #[.int .i64 h0, .int .i64 h1, .int .i64 h2, .int .i64 h3, .int .u32 h4, .int .u32 h5]).alloc (.cells #[.int .i64 0, .int .u16 0, .int .u16 0, .int .i64 0, .int .i64 0, .int .i64 0, .bool false, .int .i64 0, .int .i64 0, .int .i64 0, .int .i64 0, .int .u32 0, .int .u32 0, .int .i64 0, .bool false] 86)
      have bk := Blk.new (w.alloc (.cells #[.int .i64 h0, .int .i64 h1, .int .i64 h2, .int .i64 h3, .int .u32 h4, .int .u32 h5] 82)) 86 #[.int .i64 0, .int .u16 0, .int .u16 0, .int .i64 0, .int .i64 0, .int .i64 0, .bool false, .int .i64 0, .int .i64 0, .int .i64 0, .int .i64 0, .int .u32 0, .int .u32 0, .int .i64 0, .bool false]
      rw [show (w.alloc (.cells #[.int .i64 h0, .int .i64 h1, .int .i64 h2, .int .i64 h3, .int .u32 h4, .int .u32 h5] 82)).heap.size = w.heap.size + 1 by simp] at bk
      have bel : Below w.heap.size w ((w.alloc (.cells #[.int .i64 h0, .int .i64 h1, .int .i64 h2, .int .i64 h3, .int .u32 h4, .int .u32 h5] 82)).alloc (.cells #[.int .i64 0, .int .u16 0, .int .u16 0, .int .i64 0, .int .i64 0, .int .i64 0, .bool false, .int .i64 0, .int .i64 0, .int .i64 0, .int .i64 0, .int .u32 0, .int .u32 0, .int .i64 0, .bool false] 86)) := (bel_alloc _ _).alloc (by simp) _
      generalize ((w.alloc (.cells #[.int .i64 h0, .int .i64 h1, .int .i64 h2, .int .i64 h3, .int .u32 h4, .int .u32 h5] 82)).alloc (.cells #[.int .i64 0, .int .u16 0, .int .u16 0, .int .i64 0, .int .i64 0, .int .i64 0, .bool false, .int .i64 0, .int .i64 0, .int .i64 0, .int .i64 0, .int .u32 0, .int .u32 0, .int .i64 0, .bool false] 86)) = W at *
      have q0 := bh.cell 0
      have q1 := bh.cell 1
      go_wp2_with (refine wpList_stRow rfl rfl rfl rfl rfl bk pt_size rfl (by simp [Value.oneCell', Pt.z, Hd.z, portsP]) ?_)
      exact bodyPost_ret (results_row2 rfl _ rfl (bk.setRow _) Try.underlying86 pt_size) rfl ⟨rfl, below_setRow bel (by omega) _⟩
    by_cases g3 : h1 < h0
    · clear hbad
      go_enter Try.func36, Try.ntmps36
      go_upto_region 1 with fail
      have bh := (Blk.new w 82 #[.int .i64 h0, .int .i64 h1, .int .i64 h2, .int .i64 h3, .int .u32 h4, .int .u32 h5]).alloc (.cells #[.int .i64 0, .int .u16 0, .int .u16 0, .int .i64 0, .int .i64 0, .int .i64 0, .bool false, .int .i64 0, .int .i64 0, .int .i64 0, .int .i64 0, .int .u32 0, .int .u32 0, .int .i64 0, .bool false] 86)
      have bk := Blk.new (w.alloc (.cells #[.int .i64 h0, .int .i64 h1, .int .i64 h2, .int .i64 h3, .int .u32 h4, .int .u32 h5] 82)) 86 #[.int .i64 0, .int .u16 0, .int .u16 0, .int .i64 0, .int .i64 0, .int .i64 0, .bool false, .int .i64 0, .int .i64 0, .int .i64 0, .int .i64 0, .int .u32 0, .int .u32 0, .int .i64 0, .bool false]
      rw [show (w.alloc (.cells #[.int .i64 h0, .int .i64 h1, .int .i64 h2, .int .i64 h3, .int .u32 h4, .int .u32 h5] 82)).heap.size = w.heap.size + 1 by simp] at bk
      have bel : Below w.heap.size w ((w.alloc (.cells #[.int .i64 h0, .int .i64 h1, .int .i64 h2, .int .i64 h3, .int .u32 h4, .int .u32 h5] 82)).alloc (.cells #[.int .i64 0, .int .u16 0, .int .u16 0, .int .i64 0, .int .i64 0, .int .i64 0, .bool false, .int .i64 0, .int .i64 0, .int .i64 0, .int .i64 0, .int .u32 0, .int .u32 0, .int .i64 0, .bool false] 86)) := (bel_alloc _ _).alloc (by simp) _
      generalize ((w.alloc (.cells #[.int .i64 h0, .int .i64 h1, .int .i64 h2, .int .i64 h3, .int .u32 h4, .int .u32 h5] 82)).alloc (.cells #[.int .i64 0, .int .u16 0, .int .u16 0, .int .i64 0, .int .i64 0, .int .i64 0, .bool false, .int .i64 0, .int .i64 0, .int .i64 0, .int .i64 0, .int .u32 0, .int .u32 0, .int .i64 0, .bool false] 86)) = W at *
      have q0 := bh.cell 0
      have q1 := bh.cell 1
      go_wp2_with (refine wpList_stRow rfl rfl rfl rfl rfl bk pt_size rfl (by simp [Value.oneCell', Pt.z, Hd.z, portsP]) ?_)
      exact bodyPost_ret (results_row2 rfl _ rfl (bk.setRow _) Try.underlying86 pt_size) rfl ⟨rfl, below_setRow bel (by omega) _⟩
    have g4 : (len : Int) < h1 := by omega
    clear hbad
    go_enter Try.func36, Try.ntmps36
    go_upto_region 1 with fail
    have bh := (Blk.new w 82 #[.int .i64 h0, .int .i64 h1, .int .i64 h2, .int .i64 h3, .int .u32 h4, .int .u32 h5]).alloc (.cells #[.int .i64 0, .int .u16 0, .int .u16 0, .int .i64 0, .int .i64 0, .int .i64 0, .bool false, .int .i64 0, .int .i64 0, .int .i64 0, .int .i64 0, .int .u32 0, .int .u32 0, .int .i64 0, .bool false] 86)
    have bk := Blk.new (w.alloc (.cells #[.int .i64 h0, .int .i64 h1, .int .i64 h2, .int .i64 h3, .int .u32 h4, .int .u32 h5] 82)) 86 #[.int .i64 0, .int .u16 0, .int .u16 0, .int .i64 0, .int .i64 0, .int .i64 0, .bool false, .int .i64 0, .int .i64 0, .int .i64 0, .int .i64 0, .int .u32 0, .int .u32 0, .int .i64 0, .bool false]
    rw [show (w.alloc (.cells #[.int .i64 h0, .int .i64 h1, .int .i64 h2, .int .i64 h3, .int .u32 h4, .int .u32 h5] 82)).heap.size = w.heap.size + 1 by simp] at bk
    have bel : Below w.heap.size w ((w.alloc (.cells #[.int .i64 h0, .int .i64 h1, .int .i64 h2, .int .i64 h3, .int .u32 h4, .int .u32 h5] 82)).alloc (.cells #[.int .i64 0, .int .u16 0, .int .u16 0, .int .i64 0, .int .i64 0, .int .i64 0, .bool false, .int .i64 0, .int .i64 0, .int .i64 0, .int .i64 0, .int .u32 0, .int .u32 0, .int .i64 0, .bool false] 86)) := (bel_alloc _ _).alloc (by simp) _
    generalize ((w.alloc (.cells #[.int .i64 h0, .int .i64 h1, .int .i64 h2, .int .i64 h3, .int .u32 h4, .int .u32 h5] 82)).alloc (.cells #[.int .i64 0, .int .u16 0, .int .u16 0, .int .i64 0, .int .i64 0, .int .i64 0, .bool false, .int .i64 0, .int .i64 0, .int .i64 0, .int .i64 0, .int .u32 0, .int .u32 0, .int .i64 0, .bool false] 86)) = W at *
    have q0 := bh.cell 0
    have q1 := bh.cell 1
    go_wp2_with (refine wpList_stRow rfl rfl rfl rfl rfl bk pt_size rfl (by simp [Value.oneCell', Pt.z, Hd.z, portsP]) ?_)
    exact bodyPost_ret (results_row2 rfl _ rfl (bk.setRow _) Try.underlying86 pt_size) rfl ⟨rfl, below_setRow bel (by omega) _⟩
  rw [if_neg hbad] at hR
  obtain ⟨m, rfl⟩ : ∃ m : Nat, h0 = (m : Int) := ⟨h0.toNat, by omega⟩
  obtain ⟨n, rfl⟩ : ∃ n : Nat, h1 = (n : Int) := ⟨h1.toNat, by omega⟩
  obtain ⟨b, o, rfl⟩ := hr.form (by omega)
  have hm1 : 20 ≤ m := by omega
  have hm2 : m ≤ 60 := by omega
  have hm3 : m ≤ n := by omega
  have hm4 : n ≤ len := by omega
  rw [Int.toNat_natCast, show ((n : Int) - m).toNat = n - m by omega] at hR
  have hr2 := arg_Rd (hr.more hB) hm3 hm4 hlc
  obtain ⟨A2, hA2⟩ : ∃ A2 : Option Addr, (if c = m then some ⟨b, o, none⟩ else some ⟨b, o + m, none⟩) = A2 := ⟨_, rfl⟩
  rw [hA2] at hr2
  have d1 : decide ((m : Int) < 20) = false := by simp; omega
  have d2 : decide (60 < (m : Int)) = false := by simp; omega
  obtain ⟨L, hL⟩ : ∃ L, L = seg l m (n - m) := ⟨_, rfl⟩
  rw [← hL] at hR hr2
  have hu := fun w' (hb : Below w.heap.size w w') => udp_any ⟨(m : Int), (n : Int), h2, h3, h4, h5⟩ L A2 (n - m) (c - m) _ w' ((hr2.below hb).more hb.size) (Nat.le_refl _) (by omega) (by omega) (by omega) hs hd
  have ht := fun w' (hb : Below w.heap.size w w') => tcp_any ⟨(m : Int), (n : Int), h2, h3, h4, h5⟩ L A2 (n - m) (c - m) _ w' ((hr2.below hb).more hb.size) (Nat.le_refl _) (by omega) (by omega) (by omega) hs hd
  have hi := fun w' (hb : Below w.heap.size w w') => icmp_any ⟨(m : Int), (n : Int), h2, h3, h4, h5⟩ L A2 (n - m) (c - m) _ w' ((hr2.below hb).more hb.size) (Nat.le_refl _) (by omega) (by omega) (by omega) (by simp only; omega)
  simp only [Hd.val, Tells] at hu ht hi
  clear hbad hL hr hr2
  by_cases h17 : h3 = 17
  · rw [if_pos h17] at hR
    rw [← hR] at hu
    subst h17
    clear ht hi hR
    replace hu := Lib.hid hu
    go_enter Try.func36, Try.ntmps36
    go_upto_region 1 with fail
    have bh := (Blk.new w 82 #[.int .i64 (m : Int), .int .i64 (n : Int), .int .i64 h2, .int .i64 17, .int .u32 h4, .int .u32 h5]).alloc (.cells #[.int .i64 0, .int .u16 0, .int .u16 0, .int .i64 0, .int .i64 0, .int .i64 0, .bool false, .int .i64 0, .int .i64 0, .int .i64 0, .int .i64 0, .int .u32 0, .int .u32 0, .int .i64 0, .bool false] 86)
    have bk := Blk.new (w.alloc (.cells #[.int .i64 (m : Int), .int .i64 (n : Int), .int .i64 h2, .int .i64 17, .int .u32 h4, .int .u32 h5] 82)) 86 #[.int .i64 0, .int .u16 0, .int .u16 0, .int .i64 0, .int .i64 0, .int .i64 0, .bool false, .int .i64 0, .int .i64 0, .int .i64 0, .int .i64 0, .int .u32 0, .int .u32 0, .int .i64 0, .bool false]
    rw [show (w.alloc (.cells #[.int .i64 (m : Int), .int .i64 (n : Int), .int .i64 h2, .int .i64 17, .int .u32 h4, .int .u32 h5] 82)).heap.size = w.heap.size + 1 by simp] at bk
    have bel : Below w.heap.size w ((w.alloc (.cells #[.int .i64 (m : Int), .int .i64 (n : Int), .int .i64 h2, .int .i64 17, .int .u32 h4, .int .u32 h5] 82)).alloc (.cells #[.int .i64 0, .int .u16 0, .int .u16 0, .int .i64 0, .int .i64 0, .int .i64 0, .bool false, .int .i64 0, .int .i64 0, .int .i64 0, .int .i64 0, .int .u32 0, .int .u32 0, .int .i64 0, .bool false] 86)) := (bel_alloc _ _).alloc (by simp) _
    generalize ((w.alloc (.cells #[.int .i64 (m : Int), .int .i64 (n : Int), .int .i64 h2, .int .i64 17, .int .u32 h4, .int .u32 h5] 82)).alloc (.cells #[.int .i64 0, .int .u16 0, .int .u16 0, .int .i64 0, .int .i64 0, .int .i64 0, .bool false, .int .i64 0, .int .i64 0, .int .i64 0, .int .i64 0, .int .u32 0, .int .u32 0, .int .i64 0, .bool false] 86)) = W at *
    have q0 := bh.cell 0
    have q1 := bh.cell 1
    have q3 := bh.cell 3
    go_wp2_with (refine wpList_ldRow rfl rfl rfl bh Try.underlying82 hd_size ?_)
    refine (hu.out _ bel).mono ?_
    rintro e w' ⟨rfl, hb⟩
    replace bk := bk.bel hb
    replace bel := bel_after bel hb
    clear hb bh q0 q1 q3
    go_wp2_with (refine wpList_stRow rfl rfl rfl rfl rfl bk pt_size rfl (by simp [Value.oneCell', Pt.z, Hd.z, portsP]) ?_)
    exact bodyPost_ret (results_row2 rfl _ rfl (bk.setRow _) Try.underlying86 pt_size) rfl ⟨rfl, below_setRow bel (by omega) _⟩
  rw [if_neg h17] at hR
  clear hu
  by_cases h6 : h3 = 6
  · rw [if_pos h6] at hR
    rw [← hR] at ht
    subst h6
    clear hi hR
    replace ht := Lib.hid ht
    go_enter Try.func36, Try.ntmps36
    go_upto_region 1 with fail
    have bh := (Blk.new w 82 #[.int .i64 (m : Int), .int .i64 (n : Int), .int .i64 h2, .int .i64 6, .int .u32 h4, .int .u32 h5]).alloc (.cells #[.int .i64 0, .int .u16 0, .int .u16 0, .int .i64 0, .int .i64 0, .int .i64 0, .bool false, .int .i64 0, .int .i64 0, .int .i64 0, .int .i64 0, .int .u32 0, .int .u32 0, .int .i64 0, .bool false] 86)
    have bk := Blk.new (w.alloc (.cells #[.int .i64 (m : Int), .int .i64 (n : Int), .int .i64 h2, .int .i64 6, .int .u32 h4, .int .u32 h5] 82)) 86 #[.int .i64 0, .int .u16 0, .int .u16 0, .int .i64 0, .int .i64 0, .int .i64 0, .bool false, .int .i64 0, .int .i64 0, .int .i64 0, .int .i64 0, .int .u32 0, .int .u32 0, .int .i64 0, .bool false]
    rw [show (w.alloc (.cells #[.int .i64 (m : Int), .int .i64 (n : Int), .int .i64 h2, .int .i64 6, .int .u32 h4, .int .u32 h5] 82)).heap.size = w.heap.size + 1 by simp] at bk
    have bel : Below w.heap.size w ((w.alloc (.cells #[.int .i64 (m : Int), .int .i64 (n : Int), .int .i64 h2, .int .i64 6, .int .u32 h4, .int .u32 h5] 82)).alloc (.cells #[.int .i64 0, .int .u16 0, .int .u16 0, .int .i64 0, .int .i64 0, .int .i64 0, .bool false, .int .i64 0, .int .i64 0, .int .i64 0, .int .i64 0, .int .u32 0, .int .u32 0, .int .i64 0, .bool false] 86)) := (bel_alloc _ _).alloc (by simp) _
    generalize ((w.alloc (.cells #[.int .i64 (m : Int), .int .i64 (n : Int), .int .i64 h2, .int .i64 6, .int .u32 h4, .int .u32 h5] 82)).alloc (.cells #[.int .i64 0, .int .u16 0, .int .u16 0, .int .i64 0, .int .i64 0, .int .i64 0, .bool false, .int .i64 0, .int .i64 0, .int .i64 0, .int .i64 0, .int .u32 0, .int .u32 0, .int .i64 0, .bool false] 86)) = W at *
    have q0 := bh.cell 0
    have q1 := bh.cell 1
    have q3 := bh.cell 3
    go_wp2_with (refine wpList_ldRow rfl rfl rfl bh Try.underlying82 hd_size ?_)
    refine (ht.out _ bel).mono ?_
    rintro e w' ⟨rfl, hb⟩
    replace bk := bk.bel hb
    replace bel := bel_after bel hb
    clear hb bh q0 q1 q3
    go_wp2_with (refine wpList_stRow rfl rfl rfl rfl rfl bk pt_size rfl (by simp [Value.oneCell', Pt.z, Hd.z, portsP]) ?_)
    exact bodyPost_ret (results_row2 rfl _ rfl (bk.setRow _) Try.underlying86 pt_size) rfl ⟨rfl, below_setRow bel (by omega) _⟩
  rw [if_neg h6] at hR
  clear ht
  by_cases h1 : h3 = 1
  · rw [if_pos h1] at hR
    rw [← hR] at hi
    subst h1
    clear hR
    replace hi := Lib.hid hi
    go_enter Try.func36, Try.ntmps36
    go_upto_region 1 with fail
    have bh := (Blk.new w 82 #[.int .i64 (m : Int), .int .i64 (n : Int), .int .i64 h2, .int .i64 1, .int .u32 h4, .int .u32 h5]).alloc (.cells #[.int .i64 0, .int .u16 0, .int .u16 0, .int .i64 0, .int .i64 0, .int .i64 0, .bool false, .int .i64 0, .int .i64 0, .int .i64 0, .int .i64 0, .int .u32 0, .int .u32 0, .int .i64 0, .bool false] 86)
    have bk := Blk.new (w.alloc (.cells #[.int .i64 (m : Int), .int .i64 (n : Int), .int .i64 h2, .int .i64 1, .int .u32 h4, .int .u32 h5] 82)) 86 #[.int .i64 0, .int .u16 0, .int .u16 0, .int .i64 0, .int .i64 0, .int .i64 0, .bool false, .int .i64 0, .int .i64 0, .int .i64 0, .int .i64 0, .int .u32 0, .int .u32 0, .int .i64 0, .bool false]
    rw [show (w.alloc (.cells #[.int .i64 (m : Int), .int .i64 (n : Int), .int .i64 h2, .int .i64 1, .int .u32 h4, .int .u32 h5] 82)).heap.size = w.heap.size + 1 by simp] at bk
    have bel : Below w.heap.size w ((w.alloc (.cells #[.int .i64 (m : Int), .int .i64 (n : Int), .int .i64 h2, .int .i64 1, .int .u32 h4, .int .u32 h5] 82)).alloc (.cells #[.int .i64 0, .int .u16 0, .int .u16 0, .int .i64 0, .int .i64 0, .int .i64 0, .bool false, .int .i64 0, .int .i64 0, .int .i64 0, .int .i64 0, .int .u32 0, .int .u32 0, .int .i64 0, .bool false] 86)) := (bel_alloc _ _).alloc (by simp) _
    generalize ((w.alloc (.cells #[.int .i64 (m : Int), .int .i64 (n : Int), .int .i64 h2, .int .i64 1, .int .u32 h4, .int .u32 h5] 82)).alloc (.cells #[.int .i64 0, .int .u16 0, .int .u16 0, .int .i64 0, .int .i64 0, .int .i64 0, .bool false, .int .i64 0, .int .i64 0, .int .i64 0, .int .i64 0, .int .u32 0, .int .u32 0, .int .i64 0, .bool false] 86)) = W at *
    have q0 := bh.cell 0
    have q1 := bh.cell 1
    have q3 := bh.cell 3
    go_wp2_with (refine wpList_ldRow rfl rfl rfl bh Try.underlying82 hd_size ?_)
    refine (hi.out _ bel).mono ?_
    rintro e w' ⟨rfl, hb⟩
    replace bk := bk.bel hb
    replace bel := bel_after bel hb
    clear hb bh q0 q1 q3
    go_wp2_with (refine wpList_stRow rfl rfl rfl rfl rfl bk pt_size rfl (by simp [Value.oneCell', Pt.z, Hd.z, portsP]) ?_)
    exact bodyPost_ret (results_row2 rfl _ rfl (bk.setRow _) Try.underlying86 pt_size) rfl ⟨rfl, below_setRow bel (by omega) _⟩
  rw [if_neg h1] at hR
  clear hi
  subst hR
  have e1 : (h3 == 17) = false := by simpa using h17
  have e2 : (h3 == 6) = false := by simpa using h6
  have e3 : (h3 == 1) = false := by simpa using h1
  go_enter Try.func36, Try.ntmps36
  go_upto_region 1 with fail
  have bh := (Blk.new w 82 #[.int .i64 (m : Int), .int .i64 (n : Int), .int .i64 h2, .int .i64 h3, .int .u32 h4, .int .u32 h5]).alloc (.cells #[.int .i64 0, .int .u16 0, .int .u16 0, .int .i64 0, .int .i64 0, .int .i64 0, .bool false, .int .i64 0, .int .i64 0, .int .i64 0, .int .i64 0, .int .u32 0, .int .u32 0, .int .i64 0, .bool false] 86)
  have bk := Blk.new (w.alloc (.cells #[.int .i64 (m : Int), .int .i64 (n : Int), .int .i64 h2, .int .i64 h3, .int .u32 h4, .int .u32 h5] 82)) 86 #[.int .i64 0, .int .u16 0, .int .u16 0, .int .i64 0, .int .i64 0, .int .i64 0, .bool false, .int .i64 0, .int .i64 0, .int .i64 0, .int .i64 0, .int .u32 0, .int .u32 0, .int .i64 0, .bool false]
  rw [show (w.alloc (.cells #[.int .i64 (m : Int), .int .i64 (n : Int), .int .i64 h2, .int .i64 h3, .int .u32 h4, .int .u32 h5] 82)).heap.size = w.heap.size + 1 by simp] at bk
  have bel : Below w.heap.size w ((w.alloc (.cells #[.int .i64 (m : Int), .int .i64 (n : Int), .int .i64 h2, .int .i64 h3, .int .u32 h4, .int .u32 h5] 82)).alloc (.cells #[.int .i64 0, .int .u16 0, .int .u16 0, .int .i64 0, .int .i64 0, .int .i64 0, .bool false, .int .i64 0, .int .i64 0, .int .i64 0, .int .i64 0, .int .u32 0, .int .u32 0, .int .i64 0, .bool false] 86)) := (bel_alloc _ _).alloc (by simp) _
  generalize ((w.alloc (.cells #[.int .i64 (m : Int), .int .i64 (n : Int), .int .i64 h2, .int .i64 h3, .int .u32 h4, .int .u32 h5] 82)).alloc (.cells #[.int .i64 0, .int .u16 0, .int .u16 0, .int .i64 0, .int .i64 0, .int .i64 0, .bool false, .int .i64 0, .int .i64 0, .int .i64 0, .int .i64 0, .int .u32 0, .int .u32 0, .int .i64 0, .bool false] 86)) = W at *
  have q0 := bh.cell 0
  have q1 := bh.cell 1
  have q3 := bh.cell 3
  go_wp2_with (refine wpList_stRow rfl rfl rfl rfl rfl bk pt_size rfl (by simp [Value.oneCell', Pt.z, Hd.z, portsP]) ?_)
  exact bodyPost_ret (results_row2 rfl _ rfl (bk.setRow _) Try.underlying86 pt_size) rfl ⟨rfl, below_setRow bel (by omega) _⟩
end Go.Proofs.Ytjaacmecniijgaa
