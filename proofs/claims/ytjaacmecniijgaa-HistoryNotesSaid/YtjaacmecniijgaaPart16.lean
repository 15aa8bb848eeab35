/- The document's side of package part: Get of TCP, and Get. -/
import Derived.Test.YtjaacmecniijgaaPart15
namespace Go.Proofs.Ytjaacmecniijgaa
set_option linter.unusedVariables false
set_option linter.unusedSimpArgs false
open Go.RowKit
set_option maxRecDepth 100000 in
set_option maxHeartbeats 4000000 in
theorem rPGet_tcp (m n : Nat) (h2 h4 h5 : Int) (l : List Int) (A : Option Addr) (b o len c : Nat) (w : World) (hlc : len ≤ c) (hcm : c ≤ 9223372036854775807) (hl : len ≤ 60000) (hm1 : 20 ≤ m) (hm2 : m ≤ 60) (hm3 : m ≤ n) (hm4 : n ≤ len) (hA2 : (if c = m then some ⟨b, o, none⟩ else some ⟨b, o + m, none⟩) = A) (hr : Rd .u8 w w.heap.size A (n - m) l) (hs : 0 ≤ h4 ∧ h4 ≤ 4294967295) (hd : 0 ≤ h5 ∧ h5 ≤ 4294967295) :
    Calls Try.prog 56 #[(⟨(m : Int), (n : Int), h2, 6, h4, h5⟩ : Hd).val, .slice (some ⟨b, o, none⟩) len c] w (Tells w (tcpR ⟨(m : Int), (n : Int), h2, 6, h4, h5⟩ l)) := by
  have hcs := tcpR_cases ⟨(m : Int), (n : Int), h2, 6, h4, h5⟩ l
  rw [hr.len] at hcs
  generalize tcpR ⟨(m : Int), (n : Int), h2, 6, h4, h5⟩ l = R at *
  unfold Hd.val Tells
  simp only at hcs ⊢
  have d1 : decide ((m : Int) < 20) = false := by simp; omega
  have d2 : decide (60 < (m : Int)) = false := by simp; omega
  rcases hcs with ⟨hlt, rfl⟩ | hcs
  · have d3 : decide (n - m < 20) = true := by simpa using hlt
    have d4 : decide (((n - m : Nat) : Int) < 20) = true := by simp; omega
    clear hr
    go_enter Try.func56, Try.ntmps56
    go_upto_region 1 with fail
    have bh := (Blk.new w 77 #[.int .i64 (m : Int), .int .i64 (n : Int), .int .i64 h2, .int .i64 6, .int .u32 h4, .int .u32 h5]).alloc (.cells #[.int .i64 0, .int .u16 0, .int .u16 0, .int .i64 0, .int .i64 0, .int .i64 0, .bool false, .int .i64 0, .int .i64 0, .int .i64 0, .int .i64 0, .int .u32 0, .int .u32 0, .int .i64 0, .bool false] 97)
    have bk := Blk.new (w.alloc (.cells #[.int .i64 (m : Int), .int .i64 (n : Int), .int .i64 h2, .int .i64 6, .int .u32 h4, .int .u32 h5] 77)) 97 #[.int .i64 0, .int .u16 0, .int .u16 0, .int .i64 0, .int .i64 0, .int .i64 0, .bool false, .int .i64 0, .int .i64 0, .int .i64 0, .int .i64 0, .int .u32 0, .int .u32 0, .int .i64 0, .bool false]
    rw [show (w.alloc (.cells #[.int .i64 (m : Int), .int .i64 (n : Int), .int .i64 h2, .int .i64 6, .int .u32 h4, .int .u32 h5] 77)).heap.size = w.heap.size + 1 by simp] at bk
    have bel : Below w.heap.size w ((w.alloc (.cells #[.int .i64 (m : Int), .int .i64 (n : Int), .int .i64 h2, .int .i64 6, .int .u32 h4, .int .u32 h5] 77)).alloc (.cells #[.int .i64 0, .int .u16 0, .int .u16 0, .int .i64 0, .int .i64 0, .int .i64 0, .bool false, .int .i64 0, .int .i64 0, .int .i64 0, .int .i64 0, .int .u32 0, .int .u32 0, .int .i64 0, .bool false] 97)) := (bel_alloc _ _).alloc (by simp) _
    generalize ((w.alloc (.cells #[.int .i64 (m : Int), .int .i64 (n : Int), .int .i64 h2, .int .i64 6, .int .u32 h4, .int .u32 h5] 77)).alloc (.cells #[.int .i64 0, .int .u16 0, .int .u16 0, .int .i64 0, .int .i64 0, .int .i64 0, .bool false, .int .i64 0, .int .i64 0, .int .i64 0, .int .i64 0, .int .u32 0, .int .u32 0, .int .i64 0, .bool false] 97)) = W at *
    have q0 := bh.cell 0
    have q1 := bh.cell 1
    have q3 := bh.cell 3
    go_wp2_with (first | (refine wpList_stRow rfl rfl rfl rfl rfl (Blk.new _ _ _) rpt_size rfl (by simp [Value.oneCell']) ?_; have bp := (Blk.new W 97 #[.int .i64 0, .int .u16 0, .int .u16 0, .int .i64 0, .int .i64 0, .int .i64 0, .bool false, .int .i64 0, .int .i64 0, .int .i64 0, .int .i64 0, .int .u32 0, .int .u32 0, .int .i64 0, .bool false]).setRow #[.int .i64 6, .int .u16 0, .int .u16 0, .int .i64 0, .int .i64 0, .int .i64 0, .bool false, .int .i64 0, .int .i64 0, .int .i64 0, .int .i64 0, .int .u32 0, .int .u32 0, .int .i64 0, .bool false]; have hg3 : w.heap.size + 1 < W.heap.size := bk.lt; replace bk := (bk.alloc (.cells #[.int .i64 0, .int .u16 0, .int .u16 0, .int .i64 0, .int .i64 0, .int .i64 0, .bool false, .int .i64 0, .int .i64 0, .int .i64 0, .int .i64 0, .int .u32 0, .int .u32 0, .int .i64 0, .bool false] 97)).setRow_far (g' := W.heap.size) (by omega) #[.int .i64 6, .int .u16 0, .int .u16 0, .int .i64 0, .int .i64 0, .int .i64 0, .bool false, .int .i64 0, .int .i64 0, .int .i64 0, .int .i64 0, .int .u32 0, .int .u32 0, .int .i64 0, .bool false]; replace bh := (bh.alloc (.cells #[.int .i64 0, .int .u16 0, .int .u16 0, .int .i64 0, .int .i64 0, .int .i64 0, .bool false, .int .i64 0, .int .i64 0, .int .i64 0, .int .i64 0, .int .u32 0, .int .u32 0, .int .i64 0, .bool false] 97)).setRow_far (g' := W.heap.size) (by omega) #[.int .i64 6, .int .u16 0, .int .u16 0, .int .i64 0, .int .i64 0, .int .i64 0, .bool false, .int .i64 0, .int .i64 0, .int .i64 0, .int .i64 0, .int .u32 0, .int .u32 0, .int .i64 0, .bool false]; replace bel := below_setRow (bel.alloc bel.size (.cells #[.int .i64 0, .int .u16 0, .int .u16 0, .int .i64 0, .int .i64 0, .int .i64 0, .bool false, .int .i64 0, .int .i64 0, .int .i64 0, .int .i64 0, .int .u32 0, .int .u32 0, .int .i64 0, .bool false] 97)) bel.size #[.int .i64 6, .int .u16 0, .int .u16 0, .int .i64 0, .int .i64 0, .int .i64 0, .bool false, .int .i64 0, .int .i64 0, .int .i64 0, .int .i64 0, .int .u32 0, .int .u32 0, .int .i64 0, .bool false]; generalize (W.alloc (.cells #[.int .i64 0, .int .u16 0, .int .u16 0, .int .i64 0, .int .i64 0, .int .i64 0, .bool false, .int .i64 0, .int .i64 0, .int .i64 0, .int .i64 0, .int .u32 0, .int .u32 0, .int .i64 0, .bool false] 97)).setRow W.heap.size #[.int .i64 6, .int .u16 0, .int .u16 0, .int .i64 0, .int .i64 0, .int .i64 0, .bool false, .int .i64 0, .int .i64 0, .int .i64 0, .int .i64 0, .int .u32 0, .int .u32 0, .int .i64 0, .bool false] = W1 at *; generalize W.heap.size = g3 at *; have q3 := bh.cell 3) | (refine wpList_stRow rfl rfl rfl rfl rfl bk rpt_size rfl (by simp [Value.oneCell', Pt.z, Hd.z, portsP]) ?_))
    exact bodyPost_ret (results_row2 rfl _ rfl (bk.setRow _) Try.underlying97 rpt_size) rfl ⟨rfl, below_setRow bel (by omega) _⟩
  have h8 : 20 ≤ n - m := by rcases hcs with ⟨h, _⟩ | ⟨h, _⟩ | ⟨h, _⟩ | ⟨h, _⟩ <;> exact h
  have hcm1 : (c = m) = False := by simp; omega
  rw [if_neg (by omega)] at hA2
  subst hA2
  have d3 : decide (n - m < 20) = false := by simp; omega
  have d4 : decide (((n - m : Nat) : Int) < 20) = false := by simp; omega
  have hlr : ∀ x, x ∈ l → 0 ≤ x ∧ x ≤ 255 := fun x hx => inr_u8 (hr.rng x hx)
  have hll := hr.len
  have hb0 := n2_bd (i := 0) hlr (by omega)
  have hb2 := n2_bd (i := 2) hlr (by omega)
  have hrd := fun w' (hb : Below w.heap.size w w') => (hr.below hb).more hb.size
  have hn0 := fun w' (hb : Below w.heap.size w w') => Num_any (seg l 0 2) (some ⟨b, o + m, none⟩) 2 (c - m) _ w' (by omega) ((hrd _ hb).sub 0 2 (by omega))
  have hn2 := fun w' (hb : Below w.heap.size w w') => Num_any (seg l 2 2) (some ⟨b, o + m + 2, none⟩) 2 (c - m - 2) _ w' (by omega) ((hrd _ hb).sub 2 2 (by omega))
  have hps := fun w' (hb : Below w.heap.size w w') => Pseudo_any h4 h5 6 l (some ⟨b, o + m, none⟩) (n - m) (c - m) _ w' (hrd _ hb) (Nat.le_refl _) hs hd (by omega) (by omega)
  have hc12 := fun w' hb => (hrd w' hb).cell 12 (by omega)
  have hc13 := fun w' hb => (hrd w' hb).cell 13 (by omega)
  rw [show numOf (seg l 0 2) = n2 l 0 from rfl] at hn0
  rw [show numOf (seg l 2 2) = n2 l 2 from rfl] at hn2
  have hP : ∀ x, (portsP { Pt.z with proto := 6, flags := x } l 0 2).val = .agg #[.int .i64 6, .int .u16 (n2 l 0), .int .u16 (n2 l 2), .int .i64 x, .int .i64 0, .int .i64 0, .bool false, .int .i64 0, .int .i64 0, .int .i64 0, .int .i64 0, .int .u32 0, .int .u32 0, .int .i64 0, .bool false] := fun x => rfl
  obtain ⟨N0, hN0⟩ : ∃ N, N = n2 l 0 := ⟨_, rfl⟩
  obtain ⟨N2, hN2⟩ : ∃ N, N = n2 l 2 := ⟨_, rfl⟩
  obtain ⟨f12, hx6⟩ : ∃ N, N = l.getD 12 0 := ⟨_, rfl⟩
  obtain ⟨f13, hx7⟩ : ∃ N, N = l.getD 13 0 := ⟨_, rfl⟩
  obtain ⟨S, hS⟩ : ∃ N, N = csum h4 h5 6 l := ⟨_, rfl⟩
  rw [← hS] at hcs hps
  rw [← hN0] at hn0 hb0
  rw [← hN2] at hn2 hb2
  rw [← hx6, ← hx7] at hcs
  simp only [← hN0, ← hN2] at hP
  simp only [← hx6] at hc12
  simp only [← hx7] at hc13
  clear hS hN0 hN2 hx6 hx7 hlr hll hrd hr
  replace hn0 := Lib.hid hn0
  replace hn2 := Lib.hid hn2
  replace hps := Lib.hid hps
  replace hP := Lib.hid hP
  replace hc12 := Lib.hid hc12
  replace hc13 := Lib.hid hc13
  rcases hcs with ⟨_, hq, rfl⟩ | ⟨_, hq, hq2, rfl⟩ | ⟨_, hq, hq2, hc, rfl⟩ | ⟨_, hq, hq2, hc, rfl⟩
  · have e1 : decide (f12 / 16 * 4 < 20) = true := by simp; omega
    go_enter Try.func56, Try.ntmps56
    go_upto_region 1 with fail
    have bh := (Blk.new w 77 #[.int .i64 (m : Int), .int .i64 (n : Int), .int .i64 h2, .int .i64 6, .int .u32 h4, .int .u32 h5]).alloc (.cells #[.int .i64 0, .int .u16 0, .int .u16 0, .int .i64 0, .int .i64 0, .int .i64 0, .bool false, .int .i64 0, .int .i64 0, .int .i64 0, .int .i64 0, .int .u32 0, .int .u32 0, .int .i64 0, .bool false] 97)
    have bk := Blk.new (w.alloc (.cells #[.int .i64 (m : Int), .int .i64 (n : Int), .int .i64 h2, .int .i64 6, .int .u32 h4, .int .u32 h5] 77)) 97 #[.int .i64 0, .int .u16 0, .int .u16 0, .int .i64 0, .int .i64 0, .int .i64 0, .bool false, .int .i64 0, .int .i64 0, .int .i64 0, .int .i64 0, .int .u32 0, .int .u32 0, .int .i64 0, .bool false]
    rw [show (w.alloc (.cells #[.int .i64 (m : Int), .int .i64 (n : Int), .int .i64 h2, .int .i64 6, .int .u32 h4, .int .u32 h5] 77)).heap.size = w.heap.size + 1 by simp] at bk
    have bel : Below w.heap.size w ((w.alloc (.cells #[.int .i64 (m : Int), .int .i64 (n : Int), .int .i64 h2, .int .i64 6, .int .u32 h4, .int .u32 h5] 77)).alloc (.cells #[.int .i64 0, .int .u16 0, .int .u16 0, .int .i64 0, .int .i64 0, .int .i64 0, .bool false, .int .i64 0, .int .i64 0, .int .i64 0, .int .i64 0, .int .u32 0, .int .u32 0, .int .i64 0, .bool false] 97)) := (bel_alloc _ _).alloc (by simp) _
    generalize ((w.alloc (.cells #[.int .i64 (m : Int), .int .i64 (n : Int), .int .i64 h2, .int .i64 6, .int .u32 h4, .int .u32 h5] 77)).alloc (.cells #[.int .i64 0, .int .u16 0, .int .u16 0, .int .i64 0, .int .i64 0, .int .i64 0, .bool false, .int .i64 0, .int .i64 0, .int .i64 0, .int .i64 0, .int .u32 0, .int .u32 0, .int .i64 0, .bool false] 97)) = W at *
    have q0 := bh.cell 0
    have q1 := bh.cell 1
    have q3 := bh.cell 3
    go_upto_region 18 with (refine wpList_stRow rfl rfl rfl rfl rfl (Blk.new _ _ _) rpt_size rfl (by simp [Value.oneCell']) ?_; have bp := (Blk.new W 97 #[.int .i64 0, .int .u16 0, .int .u16 0, .int .i64 0, .int .i64 0, .int .i64 0, .bool false, .int .i64 0, .int .i64 0, .int .i64 0, .int .i64 0, .int .u32 0, .int .u32 0, .int .i64 0, .bool false]).setRow #[.int .i64 6, .int .u16 0, .int .u16 0, .int .i64 0, .int .i64 0, .int .i64 0, .bool false, .int .i64 0, .int .i64 0, .int .i64 0, .int .i64 0, .int .u32 0, .int .u32 0, .int .i64 0, .bool false]; have hg3 : w.heap.size + 1 < W.heap.size := bk.lt; replace bk := (bk.alloc (.cells #[.int .i64 0, .int .u16 0, .int .u16 0, .int .i64 0, .int .i64 0, .int .i64 0, .bool false, .int .i64 0, .int .i64 0, .int .i64 0, .int .i64 0, .int .u32 0, .int .u32 0, .int .i64 0, .bool false] 97)).setRow_far (g' := W.heap.size) (by omega) #[.int .i64 6, .int .u16 0, .int .u16 0, .int .i64 0, .int .i64 0, .int .i64 0, .bool false, .int .i64 0, .int .i64 0, .int .i64 0, .int .i64 0, .int .u32 0, .int .u32 0, .int .i64 0, .bool false]; replace bh := (bh.alloc (.cells #[.int .i64 0, .int .u16 0, .int .u16 0, .int .i64 0, .int .i64 0, .int .i64 0, .bool false, .int .i64 0, .int .i64 0, .int .i64 0, .int .i64 0, .int .u32 0, .int .u32 0, .int .i64 0, .bool false] 97)).setRow_far (g' := W.heap.size) (by omega) #[.int .i64 6, .int .u16 0, .int .u16 0, .int .i64 0, .int .i64 0, .int .i64 0, .bool false, .int .i64 0, .int .i64 0, .int .i64 0, .int .i64 0, .int .u32 0, .int .u32 0, .int .i64 0, .bool false]; replace bel := below_setRow (bel.alloc bel.size (.cells #[.int .i64 0, .int .u16 0, .int .u16 0, .int .i64 0, .int .i64 0, .int .i64 0, .bool false, .int .i64 0, .int .i64 0, .int .i64 0, .int .i64 0, .int .u32 0, .int .u32 0, .int .i64 0, .bool false] 97)) bel.size #[.int .i64 6, .int .u16 0, .int .u16 0, .int .i64 0, .int .i64 0, .int .i64 0, .bool false, .int .i64 0, .int .i64 0, .int .i64 0, .int .i64 0, .int .u32 0, .int .u32 0, .int .i64 0, .bool false]; generalize (W.alloc (.cells #[.int .i64 0, .int .u16 0, .int .u16 0, .int .i64 0, .int .i64 0, .int .i64 0, .bool false, .int .i64 0, .int .i64 0, .int .i64 0, .int .i64 0, .int .u32 0, .int .u32 0, .int .i64 0, .bool false] 97)).setRow W.heap.size #[.int .i64 6, .int .u16 0, .int .u16 0, .int .i64 0, .int .i64 0, .int .i64 0, .bool false, .int .i64 0, .int .i64 0, .int .i64 0, .int .i64 0, .int .u32 0, .int .u32 0, .int .i64 0, .bool false] = W1 at *; generalize W.heap.size = g3 at *; have q3 := bh.cell 3)
    obtain ⟨c12, r12⟩ := hc12.out _ bel
    replace r12 := inr_u8 r12
    have q14 := bp.cell 14
    go_upto_region 19 with fail
    clear c12
    go_wp2_with (refine wpList_stRow rfl rfl rfl rfl rfl bk rpt_size rfl (by simp [Value.oneCell', Pt.z, Hd.z, portsP]) ?_)
    exact bodyPost_ret (results_row2 rfl _ rfl (bk.setRow _) Try.underlying97 rpt_size) rfl ⟨rfl, below_setRow bel (by omega) _⟩
  · have e1 : decide (f12 / 16 * 4 < 20) = false := by simp; omega
    have e2 : decide (((n - m : Nat) : Int) < f12 / 16 * 4) = true := by simp; omega
    go_enter Try.func56, Try.ntmps56
    go_upto_region 1 with fail
    have bh := (Blk.new w 77 #[.int .i64 (m : Int), .int .i64 (n : Int), .int .i64 h2, .int .i64 6, .int .u32 h4, .int .u32 h5]).alloc (.cells #[.int .i64 0, .int .u16 0, .int .u16 0, .int .i64 0, .int .i64 0, .int .i64 0, .bool false, .int .i64 0, .int .i64 0, .int .i64 0, .int .i64 0, .int .u32 0, .int .u32 0, .int .i64 0, .bool false] 97)
    have bk := Blk.new (w.alloc (.cells #[.int .i64 (m : Int), .int .i64 (n : Int), .int .i64 h2, .int .i64 6, .int .u32 h4, .int .u32 h5] 77)) 97 #[.int .i64 0, .int .u16 0, .int .u16 0, .int .i64 0, .int .i64 0, .int .i64 0, .bool false, .int .i64 0, .int .i64 0, .int .i64 0, .int .i64 0, .int .u32 0, .int .u32 0, .int .i64 0, .bool false]
    rw [show (w.alloc (.cells #[.int .i64 (m : Int), .int .i64 (n : Int), .int .i64 h2, .int .i64 6, .int .u32 h4, .int .u32 h5] 77)).heap.size = w.heap.size + 1 by simp] at bk
    have bel : Below w.heap.size w ((w.alloc (.cells #[.int .i64 (m : Int), .int .i64 (n : Int), .int .i64 h2, .int .i64 6, .int .u32 h4, .int .u32 h5] 77)).alloc (.cells #[.int .i64 0, .int .u16 0, .int .u16 0, .int .i64 0, .int .i64 0, .int .i64 0, .bool false, .int .i64 0, .int .i64 0, .int .i64 0, .int .i64 0, .int .u32 0, .int .u32 0, .int .i64 0, .bool false] 97)) := (bel_alloc _ _).alloc (by simp) _
    generalize ((w.alloc (.cells #[.int .i64 (m : Int), .int .i64 (n : Int), .int .i64 h2, .int .i64 6, .int .u32 h4, .int .u32 h5] 77)).alloc (.cells #[.int .i64 0, .int .u16 0, .int .u16 0, .int .i64 0, .int .i64 0, .int .i64 0, .bool false, .int .i64 0, .int .i64 0, .int .i64 0, .int .i64 0, .int .u32 0, .int .u32 0, .int .i64 0, .bool false] 97)) = W at *
    have q0 := bh.cell 0
    have q1 := bh.cell 1
    have q3 := bh.cell 3
    go_upto_region 18 with (refine wpList_stRow rfl rfl rfl rfl rfl (Blk.new _ _ _) rpt_size rfl (by simp [Value.oneCell']) ?_; have bp := (Blk.new W 97 #[.int .i64 0, .int .u16 0, .int .u16 0, .int .i64 0, .int .i64 0, .int .i64 0, .bool false, .int .i64 0, .int .i64 0, .int .i64 0, .int .i64 0, .int .u32 0, .int .u32 0, .int .i64 0, .bool false]).setRow #[.int .i64 6, .int .u16 0, .int .u16 0, .int .i64 0, .int .i64 0, .int .i64 0, .bool false, .int .i64 0, .int .i64 0, .int .i64 0, .int .i64 0, .int .u32 0, .int .u32 0, .int .i64 0, .bool false]; have hg3 : w.heap.size + 1 < W.heap.size := bk.lt; replace bk := (bk.alloc (.cells #[.int .i64 0, .int .u16 0, .int .u16 0, .int .i64 0, .int .i64 0, .int .i64 0, .bool false, .int .i64 0, .int .i64 0, .int .i64 0, .int .i64 0, .int .u32 0, .int .u32 0, .int .i64 0, .bool false] 97)).setRow_far (g' := W.heap.size) (by omega) #[.int .i64 6, .int .u16 0, .int .u16 0, .int .i64 0, .int .i64 0, .int .i64 0, .bool false, .int .i64 0, .int .i64 0, .int .i64 0, .int .i64 0, .int .u32 0, .int .u32 0, .int .i64 0, .bool false]; replace bh := (bh.alloc (.cells #[.int .i64 0, .int .u16 0, .int .u16 0, .int .i64 0, .int .i64 0, .int .i64 0, .bool false, .int .i64 0, .int .i64 0, .int .i64 0, .int .i64 0, .int .u32 0, .int .u32 0, .int .i64 0, .bool false] 97)).setRow_far (g' := W.heap.size) (by omega) #[.int .i64 6, .int .u16 0, .int .u16 0, .int .i64 0, .int .i64 0, .int .i64 0, .bool false, .int .i64 0, .int .i64 0, .int .i64 0, .int .i64 0, .int .u32 0, .int .u32 0, .int .i64 0, .bool false]; replace bel := below_setRow (bel.alloc bel.size (.cells #[.int .i64 0, .int .u16 0, .int .u16 0, .int .i64 0, .int .i64 0, .int .i64 0, .bool false, .int .i64 0, .int .i64 0, .int .i64 0, .int .i64 0, .int .u32 0, .int .u32 0, .int .i64 0, .bool false] 97)) bel.size #[.int .i64 6, .int .u16 0, .int .u16 0, .int .i64 0, .int .i64 0, .int .i64 0, .bool false, .int .i64 0, .int .i64 0, .int .i64 0, .int .i64 0, .int .u32 0, .int .u32 0, .int .i64 0, .bool false]; generalize (W.alloc (.cells #[.int .i64 0, .int .u16 0, .int .u16 0, .int .i64 0, .int .i64 0, .int .i64 0, .bool false, .int .i64 0, .int .i64 0, .int .i64 0, .int .i64 0, .int .u32 0, .int .u32 0, .int .i64 0, .bool false] 97)).setRow W.heap.size #[.int .i64 6, .int .u16 0, .int .u16 0, .int .i64 0, .int .i64 0, .int .i64 0, .bool false, .int .i64 0, .int .i64 0, .int .i64 0, .int .i64 0, .int .u32 0, .int .u32 0, .int .i64 0, .bool false] = W1 at *; generalize W.heap.size = g3 at *; have q3 := bh.cell 3)
    obtain ⟨c12, r12⟩ := hc12.out _ bel
    replace r12 := inr_u8 r12
    have q14 := bp.cell 14
    go_upto_region 19 with fail
    clear c12
    go_wp2_with (refine wpList_stRow rfl rfl rfl rfl rfl bk rpt_size rfl (by simp [Value.oneCell', Pt.z, Hd.z, portsP]) ?_)
    exact bodyPost_ret (results_row2 rfl _ rfl (bk.setRow _) Try.underlying97 rpt_size) rfl ⟨rfl, below_setRow bel (by omega) _⟩
  · have e1 : decide (f12 / 16 * 4 < 20) = false := by simp; omega
    have e2 : decide (((n - m : Nat) : Int) < f12 / 16 * 4) = false := by simp; omega
    have e3 : (S != 0) = true := by simpa using hc
    go_enter Try.func56, Try.ntmps56
    go_upto_region 1 with fail
    have bh := (Blk.new w 77 #[.int .i64 (m : Int), .int .i64 (n : Int), .int .i64 h2, .int .i64 6, .int .u32 h4, .int .u32 h5]).alloc (.cells #[.int .i64 0, .int .u16 0, .int .u16 0, .int .i64 0, .int .i64 0, .int .i64 0, .bool false, .int .i64 0, .int .i64 0, .int .i64 0, .int .i64 0, .int .u32 0, .int .u32 0, .int .i64 0, .bool false] 97)
    have bk := Blk.new (w.alloc (.cells #[.int .i64 (m : Int), .int .i64 (n : Int), .int .i64 h2, .int .i64 6, .int .u32 h4, .int .u32 h5] 77)) 97 #[.int .i64 0, .int .u16 0, .int .u16 0, .int .i64 0, .int .i64 0, .int .i64 0, .bool false, .int .i64 0, .int .i64 0, .int .i64 0, .int .i64 0, .int .u32 0, .int .u32 0, .int .i64 0, .bool false]
    rw [show (w.alloc (.cells #[.int .i64 (m : Int), .int .i64 (n : Int), .int .i64 h2, .int .i64 6, .int .u32 h4, .int .u32 h5] 77)).heap.size = w.heap.size + 1 by simp] at bk
    have bel : Below w.heap.size w ((w.alloc (.cells #[.int .i64 (m : Int), .int .i64 (n : Int), .int .i64 h2, .int .i64 6, .int .u32 h4, .int .u32 h5] 77)).alloc (.cells #[.int .i64 0, .int .u16 0, .int .u16 0, .int .i64 0, .int .i64 0, .int .i64 0, .bool false, .int .i64 0, .int .i64 0, .int .i64 0, .int .i64 0, .int .u32 0, .int .u32 0, .int .i64 0, .bool false] 97)) := (bel_alloc _ _).alloc (by simp) _
    generalize ((w.alloc (.cells #[.int .i64 (m : Int), .int .i64 (n : Int), .int .i64 h2, .int .i64 6, .int .u32 h4, .int .u32 h5] 77)).alloc (.cells #[.int .i64 0, .int .u16 0, .int .u16 0, .int .i64 0, .int .i64 0, .int .i64 0, .bool false, .int .i64 0, .int .i64 0, .int .i64 0, .int .i64 0, .int .u32 0, .int .u32 0, .int .i64 0, .bool false] 97)) = W at *
    have q0 := bh.cell 0
    have q1 := bh.cell 1
    have q3 := bh.cell 3
    go_upto_region 18 with (refine wpList_stRow rfl rfl rfl rfl rfl (Blk.new _ _ _) rpt_size rfl (by simp [Value.oneCell']) ?_; have bp := (Blk.new W 97 #[.int .i64 0, .int .u16 0, .int .u16 0, .int .i64 0, .int .i64 0, .int .i64 0, .bool false, .int .i64 0, .int .i64 0, .int .i64 0, .int .i64 0, .int .u32 0, .int .u32 0, .int .i64 0, .bool false]).setRow #[.int .i64 6, .int .u16 0, .int .u16 0, .int .i64 0, .int .i64 0, .int .i64 0, .bool false, .int .i64 0, .int .i64 0, .int .i64 0, .int .i64 0, .int .u32 0, .int .u32 0, .int .i64 0, .bool false]; have hg3 : w.heap.size + 1 < W.heap.size := bk.lt; replace bk := (bk.alloc (.cells #[.int .i64 0, .int .u16 0, .int .u16 0, .int .i64 0, .int .i64 0, .int .i64 0, .bool false, .int .i64 0, .int .i64 0, .int .i64 0, .int .i64 0, .int .u32 0, .int .u32 0, .int .i64 0, .bool false] 97)).setRow_far (g' := W.heap.size) (by omega) #[.int .i64 6, .int .u16 0, .int .u16 0, .int .i64 0, .int .i64 0, .int .i64 0, .bool false, .int .i64 0, .int .i64 0, .int .i64 0, .int .i64 0, .int .u32 0, .int .u32 0, .int .i64 0, .bool false]; replace bh := (bh.alloc (.cells #[.int .i64 0, .int .u16 0, .int .u16 0, .int .i64 0, .int .i64 0, .int .i64 0, .bool false, .int .i64 0, .int .i64 0, .int .i64 0, .int .i64 0, .int .u32 0, .int .u32 0, .int .i64 0, .bool false] 97)).setRow_far (g' := W.heap.size) (by omega) #[.int .i64 6, .int .u16 0, .int .u16 0, .int .i64 0, .int .i64 0, .int .i64 0, .bool false, .int .i64 0, .int .i64 0, .int .i64 0, .int .i64 0, .int .u32 0, .int .u32 0, .int .i64 0, .bool false]; replace bel := below_setRow (bel.alloc bel.size (.cells #[.int .i64 0, .int .u16 0, .int .u16 0, .int .i64 0, .int .i64 0, .int .i64 0, .bool false, .int .i64 0, .int .i64 0, .int .i64 0, .int .i64 0, .int .u32 0, .int .u32 0, .int .i64 0, .bool false] 97)) bel.size #[.int .i64 6, .int .u16 0, .int .u16 0, .int .i64 0, .int .i64 0, .int .i64 0, .bool false, .int .i64 0, .int .i64 0, .int .i64 0, .int .i64 0, .int .u32 0, .int .u32 0, .int .i64 0, .bool false]; generalize (W.alloc (.cells #[.int .i64 0, .int .u16 0, .int .u16 0, .int .i64 0, .int .i64 0, .int .i64 0, .bool false, .int .i64 0, .int .i64 0, .int .i64 0, .int .i64 0, .int .u32 0, .int .u32 0, .int .i64 0, .bool false] 97)).setRow W.heap.size #[.int .i64 6, .int .u16 0, .int .u16 0, .int .i64 0, .int .i64 0, .int .i64 0, .bool false, .int .i64 0, .int .i64 0, .int .i64 0, .int .i64 0, .int .u32 0, .int .u32 0, .int .i64 0, .bool false] = W1 at *; generalize W.heap.size = g3 at *; have q3 := bh.cell 3)
    obtain ⟨c12, r12⟩ := hc12.out _ bel
    replace r12 := inr_u8 r12
    have q14 := bp.cell 14
    go_upto_region 19 with fail
    clear c12
    have q4 := bh.cell 4
    have q5 := bh.cell 5
    go_wp2_with fail
    refine (hps.out _ bel).mono ?_
    rintro e W3 ⟨rfl, hb⟩
    replace bp := bp.bel hb
    replace bk := bk.bel hb
    replace bh := bh.bel hb
    replace bel := bel_after bel hb
    clear hb q4 q5 q14
    go_wp2_with (refine wpList_stRow rfl rfl rfl rfl rfl bk rpt_size rfl (by simp [Value.oneCell', Pt.z, Hd.z, portsP]) ?_)
    exact bodyPost_ret (results_row2 rfl _ rfl (bk.setRow _) Try.underlying97 rpt_size) rfl ⟨rfl, below_setRow bel (by omega) _⟩
  · have e1 : decide (f12 / 16 * 4 < 20) = false := by simp; omega
    have e2 : decide (((n - m : Nat) : Int) < f12 / 16 * 4) = false := by simp; omega
    subst hc
    go_enter Try.func56, Try.ntmps56
    go_upto_region 1 with fail
    have bh := (Blk.new w 77 #[.int .i64 (m : Int), .int .i64 (n : Int), .int .i64 h2, .int .i64 6, .int .u32 h4, .int .u32 h5]).alloc (.cells #[.int .i64 0, .int .u16 0, .int .u16 0, .int .i64 0, .int .i64 0, .int .i64 0, .bool false, .int .i64 0, .int .i64 0, .int .i64 0, .int .i64 0, .int .u32 0, .int .u32 0, .int .i64 0, .bool false] 97)
    have bk := Blk.new (w.alloc (.cells #[.int .i64 (m : Int), .int .i64 (n : Int), .int .i64 h2, .int .i64 6, .int .u32 h4, .int .u32 h5] 77)) 97 #[.int .i64 0, .int .u16 0, .int .u16 0, .int .i64 0, .int .i64 0, .int .i64 0, .bool false, .int .i64 0, .int .i64 0, .int .i64 0, .int .i64 0, .int .u32 0, .int .u32 0, .int .i64 0, .bool false]
    rw [show (w.alloc (.cells #[.int .i64 (m : Int), .int .i64 (n : Int), .int .i64 h2, .int .i64 6, .int .u32 h4, .int .u32 h5] 77)).heap.size = w.heap.size + 1 by simp] at bk
    have bel : Below w.heap.size w ((w.alloc (.cells #[.int .i64 (m : Int), .int .i64 (n : Int), .int .i64 h2, .int .i64 6, .int .u32 h4, .int .u32 h5] 77)).alloc (.cells #[.int .i64 0, .int .u16 0, .int .u16 0, .int .i64 0, .int .i64 0, .int .i64 0, .bool false, .int .i64 0, .int .i64 0, .int .i64 0, .int .i64 0, .int .u32 0, .int .u32 0, .int .i64 0, .bool false] 97)) := (bel_alloc _ _).alloc (by simp) _
    generalize ((w.alloc (.cells #[.int .i64 (m : Int), .int .i64 (n : Int), .int .i64 h2, .int .i64 6, .int .u32 h4, .int .u32 h5] 77)).alloc (.cells #[.int .i64 0, .int .u16 0, .int .u16 0, .int .i64 0, .int .i64 0, .int .i64 0, .bool false, .int .i64 0, .int .i64 0, .int .i64 0, .int .i64 0, .int .u32 0, .int .u32 0, .int .i64 0, .bool false] 97)) = W at *
    have q0 := bh.cell 0
    have q1 := bh.cell 1
    have q3 := bh.cell 3
    go_upto_region 18 with (refine wpList_stRow rfl rfl rfl rfl rfl (Blk.new _ _ _) rpt_size rfl (by simp [Value.oneCell']) ?_; have bp := (Blk.new W 97 #[.int .i64 0, .int .u16 0, .int .u16 0, .int .i64 0, .int .i64 0, .int .i64 0, .bool false, .int .i64 0, .int .i64 0, .int .i64 0, .int .i64 0, .int .u32 0, .int .u32 0, .int .i64 0, .bool false]).setRow #[.int .i64 6, .int .u16 0, .int .u16 0, .int .i64 0, .int .i64 0, .int .i64 0, .bool false, .int .i64 0, .int .i64 0, .int .i64 0, .int .i64 0, .int .u32 0, .int .u32 0, .int .i64 0, .bool false]; have hg3 : w.heap.size + 1 < W.heap.size := bk.lt; replace bk := (bk.alloc (.cells #[.int .i64 0, .int .u16 0, .int .u16 0, .int .i64 0, .int .i64 0, .int .i64 0, .bool false, .int .i64 0, .int .i64 0, .int .i64 0, .int .i64 0, .int .u32 0, .int .u32 0, .int .i64 0, .bool false] 97)).setRow_far (g' := W.heap.size) (by omega) #[.int .i64 6, .int .u16 0, .int .u16 0, .int .i64 0, .int .i64 0, .int .i64 0, .bool false, .int .i64 0, .int .i64 0, .int .i64 0, .int .i64 0, .int .u32 0, .int .u32 0, .int .i64 0, .bool false]; replace bh := (bh.alloc (.cells #[.int .i64 0, .int .u16 0, .int .u16 0, .int .i64 0, .int .i64 0, .int .i64 0, .bool false, .int .i64 0, .int .i64 0, .int .i64 0, .int .i64 0, .int .u32 0, .int .u32 0, .int .i64 0, .bool false] 97)).setRow_far (g' := W.heap.size) (by omega) #[.int .i64 6, .int .u16 0, .int .u16 0, .int .i64 0, .int .i64 0, .int .i64 0, .bool false, .int .i64 0, .int .i64 0, .int .i64 0, .int .i64 0, .int .u32 0, .int .u32 0, .int .i64 0, .bool false]; replace bel := below_setRow (bel.alloc bel.size (.cells #[.int .i64 0, .int .u16 0, .int .u16 0, .int .i64 0, .int .i64 0, .int .i64 0, .bool false, .int .i64 0, .int .i64 0, .int .i64 0, .int .i64 0, .int .u32 0, .int .u32 0, .int .i64 0, .bool false] 97)) bel.size #[.int .i64 6, .int .u16 0, .int .u16 0, .int .i64 0, .int .i64 0, .int .i64 0, .bool false, .int .i64 0, .int .i64 0, .int .i64 0, .int .i64 0, .int .u32 0, .int .u32 0, .int .i64 0, .bool false]; generalize (W.alloc (.cells #[.int .i64 0, .int .u16 0, .int .u16 0, .int .i64 0, .int .i64 0, .int .i64 0, .bool false, .int .i64 0, .int .i64 0, .int .i64 0, .int .i64 0, .int .u32 0, .int .u32 0, .int .i64 0, .bool false] 97)).setRow W.heap.size #[.int .i64 6, .int .u16 0, .int .u16 0, .int .i64 0, .int .i64 0, .int .i64 0, .bool false, .int .i64 0, .int .i64 0, .int .i64 0, .int .i64 0, .int .u32 0, .int .u32 0, .int .i64 0, .bool false] = W1 at *; generalize W.heap.size = g3 at *; have q3 := bh.cell 3)
    obtain ⟨c12, r12⟩ := hc12.out _ bel
    replace r12 := inr_u8 r12
    have q14 := bp.cell 14
    go_upto_region 19 with fail
    clear c12
    have q4 := bh.cell 4
    have q5 := bh.cell 5
    go_wp2_with fail
    refine (hps.out _ bel).mono ?_
    rintro e W3 ⟨rfl, hb⟩
    replace bp := bp.bel hb
    replace bk := bk.bel hb
    replace bh := bh.bel hb
    replace bel := bel_after bel hb
    clear hb q4 q5 q14
    obtain ⟨c13, r13⟩ := hc13.out _ bel
    replace r13 := inr_u8 r13
    have q3 := bp.cell 3
    have s3 := bp.frozen 3
    go_upto_region 26 with fail
    clear q3 s3 c13
    replace bh := bh.far (p := ⟨g3, 3, none⟩) (by show w.heap.size ≠ g3; omega) (.int .i64 f13)
    replace bk := bk.far (p := ⟨g3, 3, none⟩) (by show w.heap.size + 1 ≠ g3; omega) (.int .i64 f13)
    replace bel := bel.setCell (p := ⟨g3, 3, none⟩) (by show w.heap.size ≤ g3; omega) (.int .i64 f13)
    replace bp := bp.set_ 3 (.int .i64 f13)
    simp only [List.setIfInBounds_toArray, List.set_cons_succ, List.set_cons_zero] at bp
    generalize W3.setCell ⟨g3, 3, none⟩ (.int .i64 f13) = W4 at *
    go_upto_region 26 with fail
    have : Nonempty (Tw (fun w' => Below w.heap.size w w')) := ⟨⟨_, bel⟩⟩
    refine wp_region_plan (fun w' => Below w.heap.size w w') [(0, true), (1, true), (4, true), (5, true), (2, false), (3, true), (8, true), (6, false), (7, true), (9, false), (10, true), (11, false)] (by kernel_rfl) (by kernel_rfl) (by kernel_rfl) (by kernel_rfl) bel.drew ?_
    replace bp := bp.drew
    replace bk := bk.drew
    replace bel := bel.drew
    generalize W4.drew = W8 at *
    refine wpPl_qs 4 _ _ _ (by kernel_rfl) (by kernel_rfl) (by simp) ?_
    unfold clsS
    simp only [List.take_succ_cons, List.take_zero, List.drop_succ_cons, List.drop_zero, List.filterMap_cons, List.filterMap_nil, List.getElem?_toArray, List.getElem?_cons_zero, List.getElem?_cons_succ]
    repeat (first
      | go_big_quiet_skip
      | (go_big_quiet_want; go_big_quiet_op; go_big_quiet_on)
      | (refine id (?_ : wpQuiet _ _ _ _ (_ :: _) _); first | go_big_quiet_skip | (go_big_quiet_want; go_big_quiet_op; go_big_quiet_on)))
    refine wpQuiet_nil ?_
    refine wpPl_e _ (by rfl) (by kernel_rfl) (fun K hK => ?_)
    go_simp
    refine (hn0.out _ bel).mono ?_
    rintro e w1 ⟨rfl, rfl⟩
    refine hK _ _ bel ?_
    clear hK K
    refine wpPl_qs 2 _ _ _ (by kernel_rfl) (by kernel_rfl) (by simp) ?_
    unfold clsS
    simp only [List.take_succ_cons, List.take_zero, List.drop_succ_cons, List.drop_zero, List.filterMap_cons, List.filterMap_nil, List.getElem?_toArray, List.getElem?_cons_zero, List.getElem?_cons_succ]
    repeat (first
      | go_big_quiet_skip
      | (go_big_quiet_want; go_big_quiet_op; go_big_quiet_on)
      | (refine id (?_ : wpQuiet _ _ _ _ (_ :: _) _); first | go_big_quiet_skip | (go_big_quiet_want; go_big_quiet_op; go_big_quiet_on)))
    refine wpQuiet_nil ?_
    refine wpPl_e _ (by rfl) (by kernel_rfl) (fun K hK => ?_)
    go_simp
    refine (hn2.out _ bel).mono ?_
    rintro e w1 ⟨rfl, rfl⟩
    refine hK _ _ bel ?_
    clear hK K
    refine wpPl_qs 1 _ _ _ (by kernel_rfl) (by kernel_rfl) (by simp) ?_
    unfold clsS
    simp only [List.take_succ_cons, List.take_zero, List.drop_succ_cons, List.drop_zero, List.filterMap_cons, List.filterMap_nil, List.getElem?_toArray, List.getElem?_cons_zero, List.getElem?_cons_succ]
    repeat (first
      | go_big_quiet_skip
      | (go_big_quiet_want; go_big_quiet_op; go_big_quiet_on)
      | (refine id (?_ : wpQuiet _ _ _ _ (_ :: _) _); first | go_big_quiet_skip | (go_big_quiet_want; go_big_quiet_op; go_big_quiet_on)))
    refine wpQuiet_nil ?_
    have q1 := bp.cell 1
    have r1 := bp.frozen 1
    refine wpPl_e _ (by rfl) (by kernel_rfl) (fun K hK => ?_)
    go_simp
    replace bk := bk.far (p := ⟨g3, 1, none⟩) (by show w.heap.size + 1 ≠ g3; omega) (.int .u16 N0)
    replace bel := bel.setCell (p := ⟨g3, 1, none⟩) (by show w.heap.size ≤ g3; omega) (.int .u16 N0)
    replace bp := bp.set_ 1 (.int .u16 N0)
    clear q1 r1
    refine hK _ _ bel ?_
    clear hK K
    refine wpPl_qs 1 _ _ _ (by kernel_rfl) (by kernel_rfl) (by simp) ?_
    unfold clsS
    simp only [List.take_succ_cons, List.take_zero, List.drop_succ_cons, List.drop_zero, List.filterMap_cons, List.filterMap_nil, List.getElem?_toArray, List.getElem?_cons_zero, List.getElem?_cons_succ]
    repeat (first
      | go_big_quiet_skip
      | (go_big_quiet_want; go_big_quiet_op; go_big_quiet_on)
      | (refine id (?_ : wpQuiet _ _ _ _ (_ :: _) _); first | go_big_quiet_skip | (go_big_quiet_want; go_big_quiet_op; go_big_quiet_on)))
    refine wpQuiet_nil ?_
    have q2 := bp.cell 2
    have r2 := bp.frozen 2
    refine wpPl_e _ (by rfl) (by kernel_rfl) (fun K hK => ?_)
    go_simp
    replace bk := bk.far (p := ⟨g3, 2, none⟩) (by show w.heap.size + 1 ≠ g3; omega) (.int .u16 N2)
    replace bel := bel.setCell (p := ⟨g3, 2, none⟩) (by show w.heap.size ≤ g3; omega) (.int .u16 N2)
    replace bp := bp.set_ 2 (.int .u16 N2)
    clear q2 r2
    refine hK _ _ bel ?_
    clear hK K
    unfold wpPl
    refine NoPanic.normal ?_
    simp only [List.setIfInBounds_toArray, List.set_cons_succ, List.set_cons_zero] at bp
    generalize ((W8.setCell ⟨g3, 1, none⟩ (.int .u16 N0)).setCell ⟨g3, 2, none⟩ (.int .u16 N2)) = W9 at *
    go_wp2_with (first
      | (refine wpList_ldRow rfl rfl rfl bp Try.underlying97 rpt_size ?_)
      | (refine wpList_stRow rfl rfl rfl rfl rfl bk rpt_size rfl (by simp [Value.oneCell']) ?_))
    refine bodyPost_ret (results_row2 rfl _ rfl (bk.setRow _) Try.underlying97 rpt_size) rfl ⟨?_, below_setRow bel (by omega) _⟩
    exact congrArg (fun x => Ending.returned (.tuple #[x, .int .i64 0])) (hP.out f13).symm
theorem rPGet_any (h : Hd) (l : List Int) (A : Option Addr) (len c B : Nat) (w : World) (hr : Rd .u8 w B A len l) (hB : B ≤ w.heap.size) (hlc : len ≤ c) (hcm : c ≤ 9223372036854775807) (hl : len ≤ 60000) (hs : 0 ≤ h.src ∧ h.src ≤ 4294967295) (hd : 0 ≤ h.dst ∧ h.dst ≤ 4294967295) :
    Calls Try.prog 56 #[h.val, .slice A len c] w (Tells w (getR h l)) := by
  unfold getR
  rw [hr.len]
  by_cases hbad : h.size < 20 ∨ 60 < h.size ∨ h.len < h.size ∨ (len : Int) < h.len
  · rw [if_pos hbad]; exact rPGet_bad h l A len c w hbad
  rw [if_neg hbad]
  obtain ⟨h0, h1, h2, h3, h4, h5⟩ := h
  simp only at hs hd hbad ⊢
  obtain ⟨m, rfl⟩ : ∃ m : Nat, h0 = (m : Int) := ⟨h0.toNat, by omega⟩
  obtain ⟨n, rfl⟩ : ∃ n : Nat, h1 = (n : Int) := ⟨h1.toNat, by omega⟩
  obtain ⟨b, o, rfl⟩ := hr.form (by omega)
  have hr2 := arg_Rd (m := m) (n := n) (hr.more hB) (by omega) (by omega) hlc
  rw [Int.toNat_natCast, show ((n : Int) - m).toNat = n - m by omega]
  by_cases h17 : h3 = 17
  · subst h17
    rw [if_pos rfl]
    exact rPGet_udp m n h2 h4 h5 _ _ b o len c w hlc hcm hl (by omega) (by omega) (by omega) (by omega) rfl hr2 hs hd
  rw [if_neg h17]
  by_cases h6 : h3 = 6
  · subst h6
    rw [if_pos rfl]
    exact rPGet_tcp m n h2 h4 h5 _ _ b o len c w hlc hcm hl (by omega) (by omega) (by omega) (by omega) rfl hr2 hs hd
  rw [if_neg h6]
  by_cases h1 : h3 = 1
  · subst h1
    rw [if_pos rfl]
    exact rPGet_icmp m n h2 h4 h5 _ _ b o len c w hlc hcm hl (by omega) (by omega) (by omega) (by omega) rfl hr2
  rw [if_neg h1]
  exact rPGet_else m n h2 h3 h4 h5 _ b o len c w hlc hcm (by omega) (by omega) (by omega) (by omega) rfl h17 h6 h1
end Go.Proofs.Ytjaacmecniijgaa
