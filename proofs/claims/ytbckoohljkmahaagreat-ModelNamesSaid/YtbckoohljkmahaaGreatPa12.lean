/- What the laws' proofs lean on: plain facts and contracts of the program's functions, laid together (12). -/
import Derived.Test.YtbckoohljkmahaaGreatPa11
import Derived.Test.YtbckoohljkmahaaGreatPa03
import Derived.Test.YtbckoohljkmahaaGreatPa07
namespace Go.Proofs.YtbckoohljkmahaaGreat
set_option linter.unusedVariables false
set_option linter.unusedSimpArgs false
open Go.RowKit
set_option maxRecDepth 100000 in
set_option maxHeartbeats 4000000 in
theorem rPGet_tcp (m n : Nat) (h2 h4 h5 : Int) (l : List Int) (A : Option Addr) (b o len c : Nat) (w : World) (hlc : len ≤ c) (hcm : c ≤ 9223372036854775807) (hl : len ≤ 60000) (hm1 : 20 ≤ m) (hm2 : m ≤ 60) (hm3 : m ≤ n) (hm4 : n ≤ len) (hA2 : (if c = m then some ⟨b, o, none⟩ else some ⟨b, o + m, none⟩) = A) (hr : Rd .u8 w w.heap.size A (n - m) l) (hs : 0 ≤ h4 ∧ h4 ≤ 4294967295) (hd : 0 ≤ h5 ∧ h5 ≤ 4294967295) :
    Calls Tryz.prog 43 #[(⟨(m : Int), (n : Int), h2, 6, h4, h5⟩ : Hd).val, .slice (some ⟨b, o, none⟩) len c] w (Tells w (tcpR ⟨(m : Int), (n : Int), h2, 6, h4, h5⟩ l)) := by
  have hcs := tcpR_cases ⟨(m : Int), (n : Int), h2, 6, h4, h5⟩ l
  rw [hr.len] at hcs
  generalize tcpR ⟨(m : Int), (n : Int), h2, 6, h4, h5⟩ l = R at *
  unfold Hd.val Tells
  simp only at hcs ⊢
  have d1 : decide ((m : Int) < 20) = false := by simp; omega
  have d2 : decide (60 < (m : Int)) = false := by simp; omega
  rcases hcs with ⟨hlt, rfl⟩ | hcs
  · have d3 : decide (n - m < 20) = true := by simpa using hlt
    have d4 : decide (((n - m : Nat) : Int) < 20) = true := by simp; omega
    clear hr
    go_enter Tryz.func43, Tryz.ntmps43
    go_upto_region 1 with fail
    have bh := (Blk.new w 67 #[.int .i64 (m : Int), .int .i64 (n : Int), .int .i64 h2, .int .i64 6, .int .u32 h4, .int .u32 h5]).alloc (.cells #[.int .i64 0, .int .u16 0, .int .u16 0, .int .i64 0, .int .i64 0, .int .i64 0, .bool false, .int .i64 0, .int .i64 0, .int .i64 0, .int .i64 0, .int .u32 0, .int .u32 0, .int .i64 0, .bool false] 69)
    have bk := Blk.new (w.alloc (.cells #[.int .i64 (m : Int), .int .i64 (n : Int), .int .i64 h2, .int .i64 6, .int .u32 h4, .int .u32 h5] 67)) 69 #[.int .i64 0, .int .u16 0, .int .u16 0, .int .i64 0, .int .i64 0, .int .i64 0, .bool false, .int .i64 0, .int .i64 0, .int .i64 0, .int .i64 0, .int .u32 0, .int .u32 0, .int .i64 0, .bool false]
    rw [show (w.alloc (.cells #[.int .i64 (m : Int), .int .i64 (n : Int), .int .i64 h2, .int .i64 6, .int .u32 h4, .int .u32 h5] 67)).heap.size = w.heap.size + 1 by simp] at bk
    have bel : Below w.heap.size w ((w.alloc (.cells #[.int .i64 (m : Int), .int .i64 (n : Int), .int .i64 h2, .int .i64 6, .int .u32 h4, .int .u32 h5] 67)).alloc (.cells #[.int .i64 0, .int .u16 0, .int .u16 0, .int .i64 0, .int .i64 0, .int .i64 0, .bool false, .int .i64 0, .int .i64 0, .int .i64 0, .int .i64 0, .int .u32 0, .int .u32 0, .int .i64 0, .bool false] 69)) := (bel_alloc _ _).alloc (by simp) _
    generalize ((w.alloc (.cells #[.int .i64 (m : Int), .int .i64 (n : Int), .int .i64 h2, .int .i64 6, .int .u32 h4, .int .u32 h5] 67)).alloc (.cells #[.int .i64 0, .int .u16 0, .int .u16 0, .int .i64 0, .int .i64 0, .int .i64 0, .bool false, .int .i64 0, .int .i64 0, .int .i64 0, .int .i64 0, .int .u32 0, .int .u32 0, .int .i64 0, .bool false] 69)) = W at *
    have q0 := bh.cell 0
    have q1 := bh.cell 1
    have q3 := bh.cell 3
    go_wp2_with (first | (refine wpList_stRow rfl rfl rfl rfl rfl (Blk.new _ _ _) rpt_size rfl (by simp [Value.oneCell']) ?_; have bp := (Blk.new W 69 #[.int .i64 0, .int .u16 0, .int .u16 0, .int .i64 0, .int .i64 0, .int .i64 0, .bool false, .int .i64 0, .int .i64 0, .int .i64 0, .int .i64 0, .int .u32 0, .int .u32 0, .int .i64 0, .bool false]).setRow #[.int .i64 6, .int .u16 0, .int .u16 0, .int .i64 0, .int .i64 0, .int .i64 0, .bool false, .int .i64 0, .int .i64 0, .int .i64 0, .int .i64 0, .int .u32 0, .int .u32 0, .int .i64 0, .bool false]; have hg3 : w.heap.size + 1 < W.heap.size := bk.lt; replace bk := (bk.alloc (.cells #[.int .i64 0, .int .u16 0, .int .u16 0, .int .i64 0, .int .i64 0, .int .i64 0, .bool false, .int .i64 0, .int .i64 0, .int .i64 0, .int .i64 0, .int .u32 0, .int .u32 0, .int .i64 0, .bool false] 69)).setRow_far (g' := W.heap.size) (by omega) #[.int .i64 6, .int .u16 0, .int .u16 0, .int .i64 0, .int .i64 0, .int .i64 0, .bool false, .int .i64 0, .int .i64 0, .int .i64 0, .int .i64 0, .int .u32 0, .int .u32 0, .int .i64 0, .bool false]; replace bh := (bh.alloc (.cells #[.int .i64 0, .int .u16 0, .int .u16 0, .int .i64 0, .int .i64 0, .int .i64 0, .bool false, .int .i64 0, .int .i64 0, .int .i64 0, .int .i64 0, .int .u32 0, .int .u32 0, .int .i64 0, .bool false] 69)).setRow_far (g' := W.heap.size) (by omega) #[.int .i64 6, .int .u16 0, .int .u16 0, .int .i64 0, .int .i64 0, .int .i64 0, .bool false, .int .i64 0, .int .i64 0, .int .i64 0, .int .i64 0, .int .u32 0, .int .u32 0, .int .i64 0, .bool false]; replace bel := below_setRow (bel.alloc bel.size (.cells #[.int .i64 0, .int .u16 0, .int .u16 0, .int .i64 0, .int .i64 0, .int .i64 0, .bool false, .int .i64 0, .int .i64 0, .int .i64 0, .int .i64 0, .int .u32 0, .int .u32 0, .int .i64 0, .bool false] 69)) bel.size #[.int .i64 6, .int .u16 0, .int .u16 0, .int .i64 0, .int .i64 0, .int .i64 0, .bool false, .int .i64 0, .int .i64 0, .int .i64 0, .int .i64 0, .int .u32 0, .int .u32 0, .int .i64 0, .bool false]; generalize (W.alloc (.cells #[.int .i64 0, .int .u16 0, .int .u16 0, .int .i64 0, .int .i64 0, .int .i64 0, .bool false, .int .i64 0, .int .i64 0, .int .i64 0, .int .i64 0, .int .u32 0, .int .u32 0, .int .i64 0, .bool false] 69)).setRow W.heap.size #[.int .i64 6, .int .u16 0, .int .u16 0, .int .i64 0, .int .i64 0, .int .i64 0, .bool false, .int .i64 0, .int .i64 0, .int .i64 0, .int .i64 0, .int .u32 0, .int .u32 0, .int .i64 0, .bool false] = W1 at *; generalize W.heap.size = g3 at *; have q3 := bh.cell 3) | (refine wpList_stRow rfl rfl rfl rfl rfl bk rpt_size rfl (by simp [Value.oneCell', Pt.z, Hd.z, portsP]) ?_))
    exact bodyPost_ret (results_row2 rfl _ rfl (bk.setRow _) Tryz.underlying69 rpt_size) rfl ⟨rfl, below_setRow bel (by omega) _⟩
  have h8 : 20 ≤ n - m := by rcases hcs with ⟨h, _⟩ | ⟨h, _⟩ | ⟨h, _⟩ | ⟨h, _⟩ <;> exact h
  have hcm1 : (c = m) = False := by simp; omega
  rw [if_neg (by omega)] at hA2
  subst hA2
  have d3 : decide (n - m < 20) = false := by simp; omega
  have d4 : decide (((n - m : Nat) : Int) < 20) = false := by simp; omega
  have hlr : ∀ x, x ∈ l → 0 ≤ x ∧ x ≤ 255 := fun x hx => inr_u8 (hr.rng x hx)
  have hll := hr.len
  have hb0 := n2_bd (i := 0) hlr (by omega)
  have hb2 := n2_bd (i := 2) hlr (by omega)
  have hrd := fun w' (hb : Below w.heap.size w w') => (hr.below hb).more hb.size
  have hn0 := fun w' (hb : Below w.heap.size w w') => Num_any (seg l 0 2) (some ⟨b, o + m, none⟩) 2 (c - m) _ w' (by omega) ((hrd _ hb).sub 0 2 (by omega))
  have hn2 := fun w' (hb : Below w.heap.size w w') => Num_any (seg l 2 2) (some ⟨b, o + m + 2, none⟩) 2 (c - m - 2) _ w' (by omega) ((hrd _ hb).sub 2 2 (by omega))
  have hps := fun w' (hb : Below w.heap.size w w') => Pseudo_any h4 h5 6 l (some ⟨b, o + m, none⟩) (n - m) (c - m) _ w' (hrd _ hb) (Nat.le_refl _) hs hd (by omega) (by omega)
  have hc12 := fun w' hb => (hrd w' hb).cell 12 (by omega)
  have hc13 := fun w' hb => (hrd w' hb).cell 13 (by omega)
  rw [show numOf (seg l 0 2) = n2 l 0 from rfl] at hn0
  rw [show numOf (seg l 2 2) = n2 l 2 from rfl] at hn2
  have hP : ∀ x, (portsP { Pt.z with proto := 6, flags := x } l 0 2).val = .agg #[.int .i64 6, .int .u16 (n2 l 0), .int .u16 (n2 l 2), .int .i64 x, .int .i64 0, .int .i64 0, .bool false, .int .i64 0, .int .i64 0, .int .i64 0, .int .i64 0, .int .u32 0, .int .u32 0, .int .i64 0, .bool false] := fun x => rfl
  obtain ⟨N0, hN0⟩ : ∃ N, N = n2 l 0 := ⟨_, rfl⟩
  obtain ⟨N2, hN2⟩ : ∃ N, N = n2 l 2 := ⟨_, rfl⟩
  obtain ⟨f12, hx6⟩ : ∃ N, N = l.getD 12 0 := ⟨_, rfl⟩
  obtain ⟨f13, hx7⟩ : ∃ N, N = l.getD 13 0 := ⟨_, rfl⟩
  obtain ⟨S, hS⟩ : ∃ N, N = csum h4 h5 6 l := ⟨_, rfl⟩
  rw [← hS] at hcs hps
  rw [← hN0] at hn0 hb0
  rw [← hN2] at hn2 hb2
  rw [← hx6, ← hx7] at hcs
  simp only [← hN0, ← hN2] at hP
  simp only [← hx6] at hc12
  simp only [← hx7] at hc13
  clear hS hN0 hN2 hx6 hx7 hlr hll hrd hr
  replace hn0 := Lib.hid hn0
  replace hn2 := Lib.hid hn2
  replace hps := Lib.hid hps
  replace hP := Lib.hid hP
  replace hc12 := Lib.hid hc12
  replace hc13 := Lib.hid hc13
  rcases hcs with ⟨_, hq, rfl⟩ | ⟨_, hq, hq2, rfl⟩ | ⟨_, hq, hq2, hc, rfl⟩ | ⟨_, hq, hq2, hc, rfl⟩
  · have e1 : decide (f12 / 16 * 4 < 20) = true := by simp; omega
    go_enter Tryz.func43, Tryz.ntmps43
    go_upto_region 1 with fail
    have bh := (Blk.new w 67 #[.int .i64 (m : Int), .int .i64 (n : Int), .int .i64 h2, .int .i64 6, .int .u32 h4, .int .u32 h5]).alloc (.cells #[.int .i64 0, .int .u16 0, .int .u16 0, .int .i64 0, .int .i64 0, .int .i64 0, .bool false, .int .i64 0, .int .i64 0, .int .i64 0, .int .i64 0, .int .u32 0, .int .u32 0, .int .i64 0, .bool false] 69)
    have bk := Blk.new (w.alloc (.cells #[.int .i64 (m : Int), .int .i64 (n : Int), .int .i64 h2, .int .i64 6, .int .u32 h4, .int .u32 h5] 67)) 69 #[.int .i64 0, .int .u16 0, .int .u16 0, .int .i64 0, .int .i64 0, .int .i64 0, .bool false, .int .i64 0, .int .i64 0, .int .i64 0, .int .i64 0, .int .u32 0, .int .u32 0, .int .i64 0, .bool false]
    rw [show (w.alloc (.cells #[.int .i64 (m : Int), .int .i64 (n : Int), .int .i64 h2, .int .i64 6, .int .u32 h4, .int .u32 h5] 67)).heap.size = w.heap.size + 1 by simp] at bk
    have bel : Below w.heap.size w ((w.alloc (.cells #[.int .i64 (m : Int), .int .i64 (n : Int), .int .i64 h2, .int .i64 6, .int .u32 h4, .int .u32 h5] 67)).alloc (.cells #[.int .i64 0, .int .u16 0, .int .u16 0, .int .i64 0, .int .i64 0, .int .i64 0, .bool false, .int .i64 0, .int .i64 0, .int .i64 0, .int .i64 0, .int .u32 0, .int .u32 0, .int .i64 0, .bool false] 69)) := (bel_alloc _ _).alloc (by simp) _
    generalize ((w.alloc (.cells #[.int .i64 (m : Int), .int .i64 (n : Int), .int .i64 h2, .int .i64 6, .int .u32 h4, .int .u32 h5] 67)).alloc (.cells #[.int .i64 0, .int .u16 0, .int .u16 0, .int .i64 0, .int .i64 0, .int .i64 0, .bool false, .int .i64 0, .int .i64 0, .int .i64 0, .int .i64 0, .int .u32 0, .int .u32 0, .int .i64 0, .bool false] 69)) = W at *
    have q0 := bh.cell 0
    have q1 := bh.cell 1
    have q3 := bh.cell 3
    go_upto_region 18 with (refine wpList_stRow rfl rfl rfl rfl rfl (Blk.new _ _ _) rpt_size rfl (by simp [Value.oneCell']) ?_; have bp := (Blk.new W 69 #[.int .i64 0, .int .u16 0, .int .u16 0, .int .i64 0, .int .i64 0, .int .i64 0, .bool false, .int .i64 0, .int .i64 0, .int .i64 0, .int .i64 0, .int .u32 0, .int .u32 0, .int .i64 0, .bool false]).setRow #[.int .i64 6, .int .u16 0, .int .u16 0, .int .i64 0, .int .i64 0, .int .i64 0, .bool false, .int .i64 0, .int .i64 0, .int .i64 0, .int .i64 0, .int .u32 0, .int .u32 0, .int .i64 0, .bool false]; have hg3 : w.heap.size + 1 < W.heap.size := bk.lt; replace bk := (bk.alloc (.cells #[.int .i64 0, .int .u16 0, .int .u16 0, .int .i64 0, .int .i64 0, .int .i64 0, .bool false, .int .i64 0, .int .i64 0, .int .i64 0, .int .i64 0, .int .u32 0, .int .u32 0, .int .i64 0, .bool false] 69)).setRow_far (g' := W.heap.size) (by omega) #[.int .i64 6, .int .u16 0, .int .u16 0, .int .i64 0, .int .i64 0, .int .i64 0, .bool false, .int .i64 0, .int .i64 0, .int .i64 0, .int .i64 0, .int .u32 0, .int .u32 0, .int .i64 0, .bool false]; replace bh := (bh.alloc (.cells #[.int .i64 0, .int .u16 0, .int .u16 0, .int .i64 0, .int .i64 0, .int .i64 0, .bool false, .int .i64 0, .int .i64 0, .int .i64 0, .int .i64 0, .int .u32 0, .int .u32 0, .int .i64 0, .bool false] 69)).setRow_far (g' := W.heap.size) (by omega) #[.int .i64 6, .int .u16 0, .int .u16 0, .int .i64 0, .int .i64 0, .int .i64 0, .bool false, .int .i64 0, .int .i64 0, .int .i64 0, .int .i64 0, .int .u32 0, .int .u32 0, .int .i64 0, .bool false]; replace bel := below_setRow (bel.alloc bel.size (.cells #[.int .i64 0, .int .u16 0, .int .u16 0, .int .i64 0, .int .i64 0, .int .i64 0, .bool false, .int .i64 0, .int .i64 0, .int .i64 0, .int .i64 0, .int .u32 0, .int .u32 0, .int .i64 0, .bool false] 69)) bel.size #[.int .i64 6, .int .u16 0, .int .u16 0, .int .i64 0, .int .i64 0, .int .i64 0, .bool false, .int .i64 0, .int .i64 0, .int .i64 0, .int .i64 0, .int .u32 0, .int .u32 0, .int .i64 0, .bool false]; generalize (W.alloc (.cells #[.int .i64 0, .int .u16 0, .int .u16 0, .int .i64 0, .int .i64 0, .int .i64 0, .bool false, .int .i64 0, .int .i64 0, .int .i64 0, .int .i64 0, .int .u32 0, .int .u32 0, .int .i64 0, .bool false] 69)).setRow W.heap.size #[.int .i64 6, .int .u16 0, .int .u16 0, .int .i64 0, .int .i64 0, .int .i64 0, .bool false, .int .i64 0, .int .i64 0, .int .i64 0, .int .i64 0, .int .u32 0, .int .u32 0, .int .i64 0, .bool false] = W1 at *; generalize W.heap.size = g3 at *; have q3 := bh.cell 3)
    obtain ⟨c12, r12⟩ := hc12.out _ bel
    replace r12 := inr_u8 r12
    have q14 := bp.cell 14
    go_upto_region 19 with fail
    clear c12
    go_wp2_with (refine wpList_stRow rfl rfl rfl rfl rfl bk rpt_size rfl (by simp [Value.oneCell', Pt.z, Hd.z, portsP]) ?_)
    exact bodyPost_ret (results_row2 rfl _ rfl (bk.setRow _) Tryz.underlying69 rpt_size) rfl ⟨rfl, below_setRow bel (by omega) _⟩
  · have e1 : decide (f12 / 16 * 4 < 20) = false := by simp; omega
    have e2 : decide (((n - m : Nat) : Int) < f12 / 16 * 4) = true := by simp; omega
    go_enter Tryz.func43, Tryz.ntmps43
    go_upto_region 1 with fail
    have bh := (Blk.new w 67 #[.int .i64 (m : Int), .int .i64 (n : Int), .int .i64 h2, .int .i64 6, .int .u32 h4, .int .u32 h5]).alloc (.cells #[.int .i64 0, .int .u16 0, .int .u16 0, .int .i64 0, .int .i64 0, .int .i64 0, .bool false, .int .i64 0, .int .i64 0, .int .i64 0, .int .i64 0, .int .u32 0, .int .u32 0, .int .i64 0, .bool false] 69)
    have bk := Blk.new (w.alloc (.cells #[.int .i64 (m : Int), .int .i64 (n : Int), .int .i64 h2, .int .i64 6, .int .u32 h4, .int .u32 h5] 67)) 69 #[.int .i64 0, .int .u16 0, .int .u16 0, .int .i64 0, .int .i64 0, .int .i64 0, .bool false, .int .i64 0, .int .i64 0, .int .i64 0, .int .i64 0, .int .u32 0, .int .u32 0, .int .i64 0, .bool false]
    rw [show (w.alloc (.cells #[.int .i64 (m : Int), .int .i64 (n : Int), .int .i64 h2, .int .i64 6, .int .u32 h4, .int .u32 h5] 67)).heap.size = w.heap.size + 1 by simp] at bk
    have bel : Below w.heap.size w ((w.alloc (.cells #[.int .i64 (m : Int), .int .i64 (n : Int), .int .i64 h2, .int .i64 6, .int .u32 h4, .int .u32 h5] 67)).alloc (.cells #[.int .i64 0, .int .u16 0, .int .u16 0, .int .i64 0, .int .i64 0, .int .i64 0, .bool false, .int .i64 0, .int .i64 0, .int .i64 0, .int .i64 0, .int .u32 0, .int .u32 0, .int .i64 0, .bool false] 69)) := (bel_alloc _ _).alloc (by simp) _
    generalize ((w.alloc (.cells #[.int .i64 (m : Int), .int .i64 (n : Int), .int .i64 h2, .int .i64 6, .int .u32 h4, .int .u32 h5] 67)).alloc (.cells #[.int .i64 0, .int .u16 0, .int .u16 0, .int .i64 0, .int .i64 0, .int .i64 0, .bool false, .int .i64 0, .int .i64 0, .int .i64 0, .int .i64 0, .int .u32 0, .int .u32 0, .int .i64 0, .bool false] 69)) = W at *
    have q0 := bh.cell 0
    have q1 := bh.cell 1
    have q3 := bh.cell 3
    go_upto_region 18 with (refine wpList_stRow rfl rfl rfl rfl rfl (Blk.new _ _ _) rpt_size rfl (by simp [Value.oneCell']) ?_; have bp := (Blk.new W 69 #[.int .i64 0, .int .u16 0, .int .u16 0, .int .i64 0, .int .i64 0, .int .i64 0, .bool false, .int .i64 0, .int .i64 0, .int .i64 0, .int .i64 0, .int .u32 0, .int .u32 0, .int .i64 0, .bool false]).setRow #[.int .i64 6, .int .u16 0, .int .u16 0, .int .i64 0, .int .i64 0, .int .i64 0, .bool false, .int .i64 0, .int .i64 0, .int .i64 0, .int .i64 0, .int .u32 0, .int .u32 0, .int .i64 0, .bool false]; have hg3 : w.heap.size + 1 < W.heap.size := bk.lt; replace bk := (bk.alloc (.cells #[.int .i64 0, .int .u16 0, .int .u16 0, .int .i64 0, .int .i64 0, .int .i64 0, .bool false, .int .i64 0, .int .i64 0, .int .i64 0, .int .i64 0, .int .u32 0, .int .u32 0, .int .i64 0, .bool false] 69)).setRow_far (g' := W.heap.size) (by omega) #[.int .i64 6, .int .u16 0, .int .u16 0, .int .i64 0, .int .i64 0, .int .i64 0, .bool false, .int .i64 0, .int .i64 0, .int .i64 0, .int .i64 0, .int .u32 0, .int .u32 0, .int .i64 0, .bool false]; replace bh := (bh.alloc (.cells #[.int .i64 0, .int .u16 0, .int .u16 0, .int .i64 0, .int .i64 0, .int .i64 0, .bool false, .int .i64 0, .int .i64 0, .int .i64 0, .int .i64 0, .int .u32 0, .int .u32 0, .int .i64 0, .bool false] 69)).setRow_far (g' := W.heap.size) (by omega) #[.int .i64 6, .int .u16 0, .int .u16 0, .int .i64 0, .int .i64 0, .int .i64 0, .bool false, .int .i64 0, .int .i64 0, .int .i64 0, .int .i64 0, .int .u32 0, .int .u32 0, .int .i64 0, .bool false]; replace bel := below_setRow (bel.alloc bel.size (.cells #[.int .i64 0, .int .u16 0, .int .u16 0, .int .i64 0, .int .i64 0, .int .i64 0, .bool false, .int .i64 0, .int .i64 0, .int .i64 0, .int .i64 0, .int .u32 0, .int .u32 0, .int .i64 0, .bool false] 69)) bel.size #[.int .i64 6, .int .u16 0, .int .u16 0, .int .i64 0, .int .i64 0, .int .i64 0, .bool false, .int .i64 0, .int .i64 0, .int .i64 0, .int .i64 0, .int .u32 0, .int .u32 0, .int .i64 0, .bool false]; generalize (W.alloc (.cells #[.int .i64 0, .int .u16 0, .int .u16 0, .int .i64 0, .int .i64 0, .int .i64 0, .bool false, .int .i64 0, .int .i64 0, .int .i64 0, .int .i64 0, .int .u32 0, .int .u32 0, .int .i64 0, .bool false] 69)).setRow W.heap.size #[.int .i64 6, .int .u16 0, .int .u16 0, .int .i64 0, .int .i64 0, .int .i64 0, .bool false, .int .i64 0, .int .i64 0, .int .i64 0, .int .i64 0, .int .u32 0, .int .u32 0, .int .i64 0, .bool false] = W1 at *; generalize W.heap.size = g3 at *; have q3 := bh.cell 3)
    obtain ⟨c12, r12⟩ := hc12.out _ bel
    replace r12 := inr_u8 r12
    have q14 := bp.cell 14
    go_upto_region 19 with fail
    clear c12
    go_wp2_with (refine wpList_stRow rfl rfl rfl rfl rfl bk rpt_size rfl (by simp [Value.oneCell', Pt.z, Hd.z, portsP]) ?_)
    exact bodyPost_ret (results_row2 rfl _ rfl (bk.setRow _) Tryz.underlying69 rpt_size) rfl ⟨rfl, below_setRow bel (by omega) _⟩
  · have e1 : decide (f12 / 16 * 4 < 20) = false := by simp; omega
    have e2 : decide (((n - m : Nat) : Int) < f12 / 16 * 4) = false := by simp; omega
    have e3 : (S != 0) = true := by simpa using hc
    go_enter Tryz.func43, Tryz.ntmps43
    go_upto_region 1 with fail
    have bh := (Blk.new w 67 #[.int .i64 (m : Int), .int .i64 (n : Int), .int .i64 h2, .int .i64 6, .int .u32 h4, .int .u32 h5]).alloc (.cells #[.int .i64 0, .int .u16 0, .int .u16 0, .int .i64 0, .int .i64 0, .int .i64 0, .bool false, .int .i64 0, .int .i64 0, .int .i64 0, .int .i64 0, .int .u32 0, .int .u32 0, .int .i64 0, .bool false] 69)
    have bk := Blk.new (w.alloc (.cells #[.int .i64 (m : Int), .int .i64 (n : Int), .int .i64 h2, .int .i64 6, .int .u32 h4, .int .u32 h5] 67)) 69 #[.int .i64 0, .int .u16 0, .int .u16 0, .int .i64 0, .int .i64 0, .int .i64 0, .bool false, .int .i64 0, .int .i64 0, .int .i64 0, .int .i64 0, .int .u32 0, .int .u32 0, .int .i64 0, .bool false]
    rw [show (w.alloc (.cells #[.int .i64 (m : Int), .int .i64 (n : Int), .int .i64 h2, .int .i64 6, .int .u32 h4, .int .u32 h5] 67)).heap.size = w.heap.size + 1 by simp] at bk
    have bel : Below w.heap.size w ((w.alloc (.cells #[.int .i64 (m : Int), .int .i64 (n : Int), .int .i64 h2, .int .i64 6, .int .u32 h4, .int .u32 h5] 67)).alloc (.cells #[.int .i64 0, .int .u16 0, .int .u16 0, .int .i64 0, .int .i64 0, .int .i64 0, .bool false, .int .i64 0, .int .i64 0, .int .i64 0, .int .i64 0, .int .u32 0, .int .u32 0, .int .i64 0, .bool false] 69)) := (bel_alloc _ _).alloc (by simp) _
    generalize ((w.alloc (.cells #[.int .i64 (m : Int), .int .i64 (n : Int), .int .i64 h2, .int .i64 6, .int .u32 h4, .int .u32 h5] 67)).alloc (.cells #[.int .i64 0, .int .u16 0, .int .u16 0, .int .i64 0, .int .i64 0, .int .i64 0, .bool false, .int .i64 0, .int .i64 0, .int .i64 0, .int .i64 0, .int .u32 0, .int .u32 0, .int .i64 0, .bool false] 69)) = W at *
    have q0 := bh.cell 0
    have q1 := bh.cell 1
    have q3 := bh.cell 3
    go_upto_region 18 with (refine wpList_stRow rfl rfl rfl rfl rfl (Blk.new _ _ _) rpt_size rfl (by simp [Value.oneCell']) ?_; have bp := (Blk.new W 69 #[.int .i64 0, .int .u16 0, .int .u16 0, .int .i64 0, .int .i64 0, .int .i64 0, .bool false, .int .i64 0, .int .i64 0, .int .i64 0, .int .i64 0, .int .u32 0, .int .u32 0, .int .i64 0, .bool false]).setRow #[.int .i64 6, .int .u16 0, .int .u16 0, .int .i64 0, .int .i64 0, .int .i64 0, .bool false, .int .i64 0, .int .i64 0, .int .i64 0, .int .i64 0, .int .u32 0, .int .u32 0, .int .i64 0, .bool false]; have hg3 : w.heap.size + 1 < W.heap.size := bk.lt; replace bk := (bk.alloc (.cells #[.int .i64 0, .int .u16 0, .int .u16 0, .int .i64 0, .int .i64 0, .int .i64 0, .bool false, .int .i64 0, .int .i64 0, .int .i64 0, .int .i64 0, .int .u32 0, .int .u32 0, .int .i64 0, .bool false] 69)).setRow_far (g' := W.heap.size) (by omega) #[.int .i64 6, .int .u16 0, .int .u16 0, .int .i64 0, .int .i64 0, .int .i64 0, .bool false, .int .i64 0, .int .i64 0, .int .i64 0, .int .i64 0, .int .u32 0, .int .u32 0, .int .i64 0, .bool false]; replace bh := (bh.alloc (.cells #[.int .i64 0, .int .u16 0, .int .u16 0, .int .i64 0, .int .i64 0, .int .i64 0, .bool false, .int .i64 0, .int .i64 0, .int .i64 0, .int .i64 0, .int .u32 0, .int .u32 0, .int .i64 0, .bool false] 69)).setRow_far (g' := W.heap.size) (by omega) #[.int .i64 6, .int .u16 0, .int .u16 0, .int .i64 0, .int .i64 0, .int .i64 0, .bool false, .int .i64 0, .int .i64 0, .int .i64 0, .int .i64 0, .int .u32 0, .int .u32 0, .int .i64 0, .bool false]; replace bel := below_setRow (bel.alloc bel.size (.cells #[.int .i64 0, .int .u16 0, .int .u16 0, .int .i64 0, .int .i64 0, .int .i64 0, .bool false, .int .i64 0, .int .i64 0, .int .i64 0, .int .i64 0, .int .u32 0, .int .u32 0, .int .i64 0, .bool false] 69)) bel.size #[.int .i64 6, .int .u16 0, .int .u16 0, .int .i64 0, .int .i64 0, .int .i64 0, .bool false, .int .i64 0, .int .i64 0, .int .i64 0, .int .i64 0, .int .u32 0, .int .u32 0, .int .i64 0, .bool false]; generalize (W.alloc (.cells #[.int .i64 0, .int .u16 0, .int .u16 0, .int .i64 0, .int .i64 0, .int .i64 0, .bool false, .int .i64 0, .int .i64 0, .int .i64 0, .int .i64 0, .int .u32 0, .int .u32 0, .int .i64 0, .bool false] 69)).setRow W.heap.size #[.int .i64 6, .int .u16 0, .int .u16 0, .int .i64 0, .int .i64 0, .int .i64 0, .bool false, .int .i64 0, .int .i64 0, .int .i64 0, .int .i64 0, .int .u32 0, .int .u32 0, .int .i64 0, .bool false] = W1 at *; generalize W.heap.size = g3 at *; have q3 := bh.cell 3)
    obtain ⟨c12, r12⟩ := hc12.out _ bel
    replace r12 := inr_u8 r12
    have q14 := bp.cell 14
    go_upto_region 19 with fail
    clear c12
    have q4 := bh.cell 4
    have q5 := bh.cell 5
    go_wp2_with fail
    refine (hps.out _ bel).mono ?_
    rintro e W3 ⟨rfl, hb⟩
    replace bp := bp.bel hb
    replace bk := bk.bel hb
    replace bh := bh.bel hb
    replace bel := bel_after bel hb
    clear hb q4 q5 q14
    go_wp2_with (refine wpList_stRow rfl rfl rfl rfl rfl bk rpt_size rfl (by simp [Value.oneCell', Pt.z, Hd.z, portsP]) ?_)
    exact bodyPost_ret (results_row2 rfl _ rfl (bk.setRow _) Tryz.underlying69 rpt_size) rfl ⟨rfl, below_setRow bel (by omega) _⟩
  · have e1 : decide (f12 / 16 * 4 < 20) = false := by simp; omega
    have e2 : decide (((n - m : Nat) : Int) < f12 / 16 * 4) = false := by simp; omega
    subst hc
    go_enter Tryz.func43, Tryz.ntmps43
    go_upto_region 1 with fail
    have bh := (Blk.new w 67 #[.int .i64 (m : Int), .int .i64 (n : Int), .int .i64 h2, .int .i64 6, .int .u32 h4, .int .u32 h5]).alloc (.cells #[.int .i64 0, .int .u16 0, .int .u16 0, .int .i64 0, .int .i64 0, .int .i64 0, .bool false, .int .i64 0, .int .i64 0, .int .i64 0, .int .i64 0, .int .u32 0, .int .u32 0, .int .i64 0, .bool false] 69)
    have bk := Blk.new (w.alloc (.cells #[.int .i64 (m : Int), .int .i64 (n : Int), .int .i64 h2, .int .i64 6, .int .u32 h4, .int .u32 h5] 67)) 69 #[.int .i64 0, .int .u16 0, .int .u16 0, .int .i64 0, .int .i64 0, .int .i64 0, .bool false, .int .i64 0, .int .i64 0, .int .i64 0, .int .i64 0, .int .u32 0, .int .u32 0, .int .i64 0, .bool false]
    rw [show (w.alloc (.cells #[.int .i64 (m : Int), .int .i64 (n : Int), .int .i64 h2, .int .i64 6, .int .u32 h4, .int .u32 h5] 67)).heap.size = w.heap.size + 1 by simp] at bk
    have bel : Below w.heap.size w ((w.alloc (.cells #[.int .i64 (m : Int), .int .i64 (n : Int), .int .i64 h2, .int .i64 6, .int .u32 h4, .int .u32 h5] 67)).alloc (.cells #[.int .i64 0, .int .u16 0, .int .u16 0, .int .i64 0, .int .i64 0, .int .i64 0, .bool false, .int .i64 0, .int .i64 0, .int .i64 0, .int .i64 0, .int .u32 0, .int .u32 0, .int .i64 0, .bool false] 69)) := (bel_alloc _ _).alloc (by simp) _
    generalize ((w.alloc (.cells #[.int .i64 (m : Int), .int .i64 (n : Int), .int .i64 h2, .int .i64 6, .int .u32 h4, .int .u32 h5] 67)).alloc (.cells #[.int .i64 0, .int .u16 0, .int .u16 0, .int .i64 0, .int .i64 0, .int .i64 0, .bool false, .int .i64 0, .int .i64 0, .int .i64 0, .int .i64 0, .int .u32 0, .int .u32 0, .int .i64 0, .bool false] 69)) = W at *
    have q0 := bh.cell 0
    have q1 := bh.cell 1
    have q3 := bh.cell 3
    go_upto_region 18 with (refine wpList_stRow rfl rfl rfl rfl rfl (Blk.new _ _ _) rpt_size rfl (by simp [Value.oneCell']) ?_; have bp := (Blk.new W 69 #[.int .i64 0, .int .u16 0, .int .u16 0, .int .i64 0, .int .i64 0, .int .i64 0, .bool false, .int .i64 0, .int .i64 0, .int .i64 0, .int .i64 0, .int .u32 0, .int .u32 0, .int .i64 0, .bool false]).setRow #[.int .i64 6, .int .u16 0, .int .u16 0, .int .i64 0, .int .i64 0, .int .i64 0, .bool false, .int .i64 0, .int .i64 0, .int .i64 0, .int .i64 0, .int .u32 0, .int .u32 0, .int .i64 0, .bool false]; have hg3 : w.heap.size + 1 < W.heap.size := bk.lt; replace bk := (bk.alloc (.cells #[.int .i64 0, .int .u16 0, .int .u16 0, .int .i64 0, .int .i64 0, .int .i64 0, .bool false, .int .i64 0, .int .i64 0, .int .i64 0, .int .i64 0, .int .u32 0, .int .u32 0, .int .i64 0, .bool false] 69)).setRow_far (g' := W.heap.size) (by omega) #[.int .i64 6, .int .u16 0, .int .u16 0, .int .i64 0, .int .i64 0, .int .i64 0, .bool false, .int .i64 0, .int .i64 0, .int .i64 0, .int .i64 0, .int .u32 0, .int .u32 0, .int .i64 0, .bool false]; replace bh := (bh.alloc (.cells #[.int .i64 0, .int .u16 0, .int .u16 0, .int .i64 0, .int .i64 0, .int .i64 0, .bool false, .int .i64 0, .int .i64 0, .int .i64 0, .int .i64 0, .int .u32 0, .int .u32 0, .int .i64 0, .bool false] 69)).setRow_far (g' := W.heap.size) (by omega) #[.int .i64 6, .int .u16 0, .int .u16 0, .int .i64 0, .int .i64 0, .int .i64 0, .bool false, .int .i64 0, .int .i64 0, .int .i64 0, .int .i64 0, .int .u32 0, .int .u32 0, .int .i64 0, .bool false]; replace bel := below_setRow (bel.alloc bel.size (.cells #[.int .i64 0, .int .u16 0, .int .u16 0, .int .i64 0, .int .i64 0, .int .i64 0, .bool false, .int .i64 0, .int .i64 0, .int .i64 0, .int .i64 0, .int .u32 0, .int .u32 0, .int .i64 0, .bool false] 69)) bel.size #[.int .i64 6, .int .u16 0, .int .u16 0, .int .i64 0, .int .i64 0, .int .i64 0, .bool false, .int .i64 0, .int .i64 0, .int .i64 0, .int .i64 0, .int .u32 0, .int .u32 0, .int .i64 0, .bool false]; generalize (W.alloc (.cells #[.int .i64 0, .int .u16 0, .int .u16 0, .int .i64 0, .int .i64 0, .int .i64 0, .bool false, .int .i64 0, .int .i64 0, .int .i64 0, .int .i64 0, .int .u32 0, .int .u32 0, .int .i64 0, .bool false] 69)).setRow W.heap.size #[.int .i64 6, .int .u16 0, .int .u16 0, .int .i64 0, .int .i64 0, .int .i64 0, .bool false, .int .i64 0, .int .i64 0, .int .i64 0, .int .i64 0, .int .u32 0, .int .u32 0, .int .i64 0, .bool false] = W1 at *; generalize W.heap.size = g3 at *; have q3 := bh.cell 3)
    obtain ⟨c12, r12⟩ := hc12.out _ bel
    replace r12 := inr_u8 r12
    have q14 := bp.cell 14
    go_upto_region 19 with fail
    clear c12
    have q4 := bh.cell 4
    have q5 := bh.cell 5
    go_wp2_with fail
    refine (hps.out _ bel).mono ?_
    rintro e W3 ⟨rfl, hb⟩
    replace bp := bp.bel hb
    replace bk := bk.bel hb
    replace bh := bh.bel hb
    replace bel := bel_after bel hb
    clear hb q4 q5 q14
    obtain ⟨c13, r13⟩ := hc13.out _ bel
    replace r13 := inr_u8 r13
    have q3 := bp.cell 3
    have s3 := bp.frozen 3
    go_upto_region 26 with fail
    clear q3 s3 c13
    replace bh := bh.far (p := ⟨g3, 3, none⟩) (by show w.heap.size ≠ g3; omega) (.int .i64 f13)
    replace bk := bk.far (p := ⟨g3, 3, none⟩) (by show w.heap.size + 1 ≠ g3; omega) (.int .i64 f13)
    replace bel := bel.setCell (p := ⟨g3, 3, none⟩) (by show w.heap.size ≤ g3; omega) (.int .i64 f13)
    replace bp := bp.set_ 3 (.int .i64 f13)
    simp only [List.setIfInBounds_toArray, List.set_cons_succ, List.set_cons_zero] at bp
    generalize W3.setCell ⟨g3, 3, none⟩ (.int .i64 f13) = W4 at *
    go_upto_region 26 with fail
    have : Nonempty (Tw (fun w' => Below w.heap.size w w')) := ⟨⟨_, bel⟩⟩
    refine wp_region_plan (fun w' => Below w.heap.size w w') [(0, true), (1, true), (4, true), (5, true), (2, false), (3, true), (8, true), (6, false), (7, true), (9, false), (10, true), (11, false)] (by kernel_rfl) (by kernel_rfl) (by kernel_rfl) (by kernel_rfl) bel.drew ?_
    replace bp := bp.drew
    replace bk := bk.drew
    replace bel := bel.drew
    generalize W4.drew = W8 at *
    refine wpPl_qs 4 _ _ _ (by kernel_rfl) (by kernel_rfl) (by simp) ?_
    unfold clsS
    simp only [List.take_succ_cons, List.take_zero, List.drop_succ_cons, List.drop_zero, List.filterMap_cons, List.filterMap_nil, List.getElem?_toArray, List.getElem?_cons_zero, List.getElem?_cons_succ]
    repeat (first
      | go_big_quiet_skip
      | (go_big_quiet_want; go_big_quiet_op; go_big_quiet_on)
      | (refine id (?_ : wpQuiet _ _ _ _ (_ :: _) _); first | go_big_quiet_skip | (go_big_quiet_want; go_big_quiet_op; go_big_quiet_on)))
    refine wpQuiet_nil ?_
    refine wpPl_e _ (by rfl) (by kernel_rfl) (fun K hK => ?_)
    go_simp
    refine (hn0.out _ bel).mono ?_
    rintro e w1 ⟨rfl, rfl⟩
    refine hK _ _ bel ?_
    clear hK K
    refine wpPl_qs 2 _ _ _ (by kernel_rfl) (by kernel_rfl) (by simp) ?_
    unfold clsS
    simp only [List.take_succ_cons, List.take_zero, List.drop_succ_cons, List.drop_zero, List.filterMap_cons, List.filterMap_nil, List.getElem?_toArray, List.getElem?_cons_zero, List.getElem?_cons_succ]
    repeat (first
      | go_big_quiet_skip
      | (go_big_quiet_want; go_big_quiet_op; go_big_quiet_on)
      | (refine id (?_ : wpQuiet _ _ _ _ (_ :: _) _); first | go_big_quiet_skip | (go_big_quiet_want; go_big_quiet_op; go_big_quiet_on)))
    refine wpQuiet_nil ?_
    refine wpPl_e _ (by rfl) (by kernel_rfl) (fun K hK => ?_)
    go_simp
    refine (hn2.out _ bel).mono ?_
    rintro e w1 ⟨rfl, rfl⟩
    refine hK _ _ bel ?_
    clear hK K
    refine wpPl_qs 1 _ _ _ (by kernel_rfl) (by kernel_rfl) (by simp) ?_
    unfold clsS
    simp only [List.take_succ_cons, List.take_zero, List.drop_succ_cons, List.drop_zero, List.filterMap_cons, List.filterMap_nil, List.getElem?_toArray, List.getElem?_cons_zero, List.getElem?_cons_succ]
    repeat (first
      | go_big_quiet_skip
      | (go_big_quiet_want; go_big_quiet_op; go_big_quiet_on)
      | (refine id (?_ : wpQuiet _ _ _ _ (_ :: _) _); first | go_big_quiet_skip | (go_big_quiet_want; go_big_quiet_op; go_big_quiet_on)))
    refine wpQuiet_nil ?_
    have q1 := bp.cell 1
    have r1 := bp.frozen 1
    refine wpPl_e _ (by rfl) (by kernel_rfl) (fun K hK => ?_)
    go_simp
    replace bk := bk.far (p := ⟨g3, 1, none⟩) (by show w.heap.size + 1 ≠ g3; omega) (.int .u16 N0)
    replace bel := bel.setCell (p := ⟨g3, 1, none⟩) (by show w.heap.size ≤ g3; omega) (.int .u16 N0)
    replace bp := bp.set_ 1 (.int .u16 N0)
    clear q1 r1
    refine hK _ _ bel ?_
    clear hK K
    refine wpPl_qs 1 _ _ _ (by kernel_rfl) (by kernel_rfl) (by simp) ?_
    unfold clsS
    simp only [List.take_succ_cons, List.take_zero, List.drop_succ_cons, List.drop_zero, List.filterMap_cons, List.filterMap_nil, List.getElem?_toArray, List.getElem?_cons_zero, List.getElem?_cons_succ]
    repeat (first
      | go_big_quiet_skip
      | (go_big_quiet_want; go_big_quiet_op; go_big_quiet_on)
      | (refine id (?_ : wpQuiet _ _ _ _ (_ :: _) _); first | go_big_quiet_skip | (go_big_quiet_want; go_big_quiet_op; go_big_quiet_on)))
    refine wpQuiet_nil ?_
    have q2 := bp.cell 2
    have r2 := bp.frozen 2
    refine wpPl_e _ (by rfl) (by kernel_rfl) (fun K hK => ?_)
    go_simp
    replace bk := bk.far (p := ⟨g3, 2, none⟩) (by show w.heap.size + 1 ≠ g3; omega) (.int .u16 N2)
    replace bel := bel.setCell (p := ⟨g3, 2, none⟩) (by show w.heap.size ≤ g3; omega) (.int .u16 N2)
    replace bp := bp.set_ 2 (.int .u16 N2)
    clear q2 r2
    refine hK _ _ bel ?_
    clear hK K
    unfold wpPl
    refine NoPanic.normal ?_
    simp only [List.setIfInBounds_toArray, List.set_cons_succ, List.set_cons_zero] at bp
    generalize ((W8.setCell ⟨g3, 1, none⟩ (.int .u16 N0)).setCell ⟨g3, 2, none⟩ (.int .u16 N2)) = W9 at *
    go_wp2_with (first
      | (refine wpList_ldRow rfl rfl rfl bp Tryz.underlying69 rpt_size ?_)
      | (refine wpList_stRow rfl rfl rfl rfl rfl bk rpt_size rfl (by simp [Value.oneCell']) ?_))
    refine bodyPost_ret (results_row2 rfl _ rfl (bk.setRow _) Tryz.underlying69 rpt_size) rfl ⟨?_, below_setRow bel (by omega) _⟩
    exact congrArg (fun x => Ending.returned (.tuple #[x, .int .i64 0])) (hP.out f13).symm
theorem rPGet_any (h : Hd) (l : List Int) (A : Option Addr) (len c B : Nat) (w : World) (hr : Rd .u8 w B A len l) (hB : B ≤ w.heap.size) (hlc : len ≤ c) (hcm : c ≤ 9223372036854775807) (hl : len ≤ 60000) (hs : 0 ≤ h.src ∧ h.src ≤ 4294967295) (hd : 0 ≤ h.dst ∧ h.dst ≤ 4294967295) :
    Calls Tryz.prog 43 #[h.val, .slice A len c] w (Tells w (getR h l)) := by
  unfold getR
  rw [hr.len]
  by_cases hbad : h.size < 20 ∨ 60 < h.size ∨ h.len < h.size ∨ (len : Int) < h.len
  · rw [if_pos hbad]; exact rPGet_bad h l A len c w hbad
  rw [if_neg hbad]
  obtain ⟨h0, h1, h2, h3, h4, h5⟩ := h
  simp only at hs hd hbad ⊢
  obtain ⟨m, rfl⟩ : ∃ m : Nat, h0 = (m : Int) := ⟨h0.toNat, by omega⟩
  obtain ⟨n, rfl⟩ : ∃ n : Nat, h1 = (n : Int) := ⟨h1.toNat, by omega⟩
  obtain ⟨b, o, rfl⟩ := hr.form (by omega)
  have hr2 := arg_Rd (m := m) (n := n) (hr.more hB) (by omega) (by omega) hlc
  rw [Int.toNat_natCast, show ((n : Int) - m).toNat = n - m by omega]
  by_cases h17 : h3 = 17
  · subst h17
    rw [if_pos rfl]
    exact rPGet_udp m n h2 h4 h5 _ _ b o len c w hlc hcm hl (by omega) (by omega) (by omega) (by omega) rfl hr2 hs hd
  rw [if_neg h17]
  by_cases h6 : h3 = 6
  · subst h6
    rw [if_pos rfl]
    exact rPGet_tcp m n h2 h4 h5 _ _ b o len c w hlc hcm hl (by omega) (by omega) (by omega) (by omega) rfl hr2 hs hd
  rw [if_neg h6]
  by_cases h1 : h3 = 1
  · subst h1
    rw [if_pos rfl]
    exact rPGet_icmp m n h2 h4 h5 _ _ b o len c w hlc hcm hl (by omega) (by omega) (by omega) (by omega) rfl hr2
  rw [if_neg h1]
  exact rPGet_else m n h2 h3 h4 h5 _ b o len c w hlc hcm (by omega) (by omega) (by omega) (by omega) rfl h17 h6 h1
end Go.Proofs.YtbckoohljkmahaaGreat
namespace Go.Proofs.YtbckoohljkmahaaGreat
set_option linter.unusedVariables false
set_option linter.unusedSimpArgs false
open Go.RowKit
section
variable {P : Program}
end
end Go.Proofs.YtbckoohljkmahaaGreat
namespace Go.Proofs.YtbckoohljkmahaaGreat
set_option linter.unusedVariables false
set_option linter.unusedSimpArgs false
open Go.RowKit
end Go.Proofs.YtbckoohljkmahaaGreat
namespace Go.Proofs.YtbckoohljkmahaaGreat
set_option linter.unusedVariables false
set_option linter.unusedSimpArgs false
open Go.RowKit
end Go.Proofs.YtbckoohljkmahaaGreat
namespace Go.Proofs.YtbckoohljkmahaaGreat
set_option linter.unusedVariables false
set_option linter.unusedSimpArgs false
open Go.RowKit
theorem rfew_any (l : List Int) (A : Option Addr) (len c B : Nat) (w : World) (hr : Rd .u8 w B A len l) (hlc : len ≤ c) (hcm : c ≤ 9223372036854775807) :
    Calls Tryz.prog 58 #[.slice A len c] w fun e w' => (∃ c', e = .returned (.slice A (fewL l).length c') ∧ (fewL l).length ≤ c' ∧ c' ≤ 9223372036854775807 ∧ Rd .u8 w B A (fewL l).length (fewL l)) ∧ w = w' := by
  have hm : (fewL l).length = min 1400 len := by unfold fewL; rw [List.length_take, hr.len]
  have hrd : Rd .u8 w B A (fewL l).length (fewL l) := by
    have e : l.take (min 1400 len) = l.take 1400 := List.take_eq_take_iff.2 (by rw [hr.len]; omega)
    rw [hm]; unfold fewL; rw [← e]; exact hr.take (m := min 1400 len) (by omega)
  rw [hm] at hrd ⊢
  generalize fewL l = F at *
  clear hm
  by_cases h : len ≤ 1400
  · have e : min 1400 len = len := by omega
    rw [e] at hrd ⊢
    clear e
    go_enter Tryz.func58, Tryz.ntmps58
    have hc : min (len : Int) 1400 = (len : Int) := by omega
    go_wp2
    go_ret
    refine ⟨⟨c, rfl, hlc, ?_⟩, rfl⟩
    first | exact ⟨hcm, hrd⟩ | exact hcm
  · have e : min 1400 len = 1400 := by omega
    rw [e] at hrd ⊢
    clear e
    go_enter Tryz.func58, Tryz.ntmps58
    have hc : min (len : Int) 1400 = 1400 := by omega
    go_wp2
    go_ret
    refine ⟨⟨c, rfl, by omega, ?_⟩, rfl⟩
    first | exact ⟨hcm, hrd⟩ | exact hcm
set_option maxRecDepth 100000 in
set_option maxHeartbeats 1000000 in
theorem rUdp_any (s d a b : Int) (l : List Int) (A : Option Addr) (len c B : Nat) (w : World) (hr : Rd .u8 w B A len l) (hB : B ≤ w.heap.size) (hlc : len ≤ c) (hcm : c ≤ 9223372036854775807) (hs : 0 ≤ s ∧ s ≤ 4294967295) (hd : 0 ≤ d ∧ d ≤ 4294967295) (ha : 0 ≤ a ∧ a ≤ 65535) (hb : 0 ≤ b ∧ b ≤ 65535) :
    Calls Tryz.prog 82 #[.int .u32 s, .int .u32 d, .int .u16 a, .int .u16 b, .slice A len c] w (Gives w (udpL s d a b l)) := by
  unfold udpL
  obtain ⟨i0, hi, hz0, hz1, hz2⟩ := info_parts info_u8_
  have hrB := hr.more hB
  have hfew := fun w' hr => rfew_any l A len c w.heap.size w' hr hlc hcm
  have hFl := fewL_len l
  have hFx : ∀ x, x ∈ fewL l → 0 ≤ x ∧ x ≤ 255 := fun x hx => inr_u8 (hr.rng x (fewL_mem hx))
  obtain ⟨F, hF⟩ : ∃ F, F = fewL l := ⟨_, rfl⟩
  rw [← hF] at hfew hFl hFx ⊢
  obtain ⟨m, hm⟩ : ∃ m, m = F.length := ⟨_, rfl⟩
  rw [← hm] at hfew hFl
  replace hfew := Lib.hid hfew
  replace hF := Lib.hid hF
  obtain ⟨L, hL⟩ : ∃ L, L = udpB a b F 0 := ⟨_, rfl⟩
  have hLl : L.length = 8 + m := by rw [hL, udpB_len, hm]
  rw [← hL]
  have hset := fun S => udpB_set a b F S
  rw [← hL] at hset
  have hps := fun (A' : Option Addr) (c' : Nat) (w' : World) (rd : Rd .u8 w' w'.heap.size A' (8 + m) L) => Pseudo_any s d 17 L A' (8 + m) c' _ w' rd (Nat.le_refl _) hs hd (by omega) (by omega)
  have hSb : (∀ x, x ∈ L → 0 ≤ x ∧ x ≤ 255) → 0 ≤ csum s d 17 L ∧ csum s d 17 L ≤ 65535 := fun h => csum_bd hs hd (by omega) (by omega) h
  obtain ⟨S, hS⟩ : ∃ S, S = csum s d 17 L := ⟨_, rfl⟩
  rw [← hS] at hps hSb ⊢
  obtain ⟨T, hT⟩ : ∃ T, T = nev S := ⟨_, rfl⟩
  rw [← hT]
  replace hset := Lib.hid (hset T)
  replace hT := Lib.hid hT
  replace hps := Lib.hid hps
  replace hLl := Lib.hid hLl
  replace hS := Lib.hid hS
  have eL : ((be2 a ++ be2 b) ++ be2 (8 + (m : Int)) ++ [0, 0]) ++ F = L := by rw [hL, hm]; simp [udpB]; rfl
  replace eL := Lib.hid eL
  replace hL := Lib.hid hL
  replace hm := Lib.hid hm
  go_enter Tryz.func82, Tryz.ntmps82
  go_wp2_with fail
  refine (hfew.out _ hrB).mono ?_
  rintro e w0 ⟨⟨c', rfl, hmc, hcm', rdF⟩, rfl⟩
  go_wp2_with fail
  refine (word_any a _ ha).mono ?_
  rintro e w1 ⟨rfl, hw1⟩
  have a1 := App.new_ w w.heap.size (be2 a) (be2_inr ha) #[.int .u8 (a / 256), .int .u8 (a % 256)] rfl 2 rfl (by omega) (Nat.le_refl _)
  rw [← hw1] at a1
  replace hw1 := Lib.hid hw1
  go_wp2_with fail
  refine (word_any (b) _ (by omega)).mono ?_
  rintro e w2 ⟨rfl, hw2⟩
  have x2 := Rd.new .u8 w1 5 (be2 (b)) (be2_inr (by omega)) #[.int .u8 ((b) / 256), .int .u8 ((b) % 256)] rfl 2 rfl
  have a2 := a1.alloc (.cells #[.int .u8 ((b) / 256), .int .u8 ((b) % 256)] 5)
  have hy2 : w2.heap.size = w1.heap.size + 1 := by rw [hw2]; simp
  rw [← hw2] at x2 a2
  replace hw2 := Lib.hid hw2
  have s2 := a2.bel.size
  go_wp2_with (at_builtin; (refine wpList_app _ rfl (.tmp 17) (.tmp 20) 22 rfl .u8 w.heap.size 5 i0 (.int .u8 0) 1 Tryz.underlying22 hi hz0 hz1 hz2 rfl _ (by rfl) _ a2.own (w1.heap.size + 1) _ 2 2 (by rfl) (be2 b) x2 (by simp [be2, be4]; try omega) (by decide) s2 ?_; intro v3 w3 own3 hg3 hb3; have a3 := a2.app own3 hg3 hb3; clear own3 hg3 hb3))
  refine (word_any (8 + (m : Int)) _ (by omega)).mono ?_
  rintro e w4 ⟨rfl, hw4⟩
  have x4 := Rd.new .u8 w3 5 (be2 (8 + (m : Int))) (be2_inr (by omega)) #[.int .u8 ((8 + (m : Int)) / 256), .int .u8 ((8 + (m : Int)) % 256)] rfl 2 rfl
  have a4 := a3.alloc (.cells #[.int .u8 ((8 + (m : Int)) / 256), .int .u8 ((8 + (m : Int)) % 256)] 5)
  have hy4 : w4.heap.size = w3.heap.size + 1 := by rw [hw4]; simp
  rw [← hw4] at x4 a4
  replace hw4 := Lib.hid hw4
  have s4 := a4.bel.size
  go_wp2_with (first
    | (at_builtin; (refine wpList_app _ rfl (.tmp 21) (.tmp 25) 22 rfl .u8 w.heap.size 5 i0 (.int .u8 0) 1 Tryz.underlying22 hi hz0 hz1 hz2 rfl _ (by rfl) _ a4.own (w3.heap.size + 1) _ 2 2 (by rfl) (be2 (8 + (m : Int))) x4 (by simp [be2, be4]; try omega) (by decide) s4 ?_; intro v5 w5 own5 hg5 hb5; have a5 := a4.app own5 hg5 hb5; clear own5 hg5 hb5))
    | (at_builtin; (have hx := Rd.new .u8 w5 5 [0, 0] (by intro y hy; simp at hy; subst hy; exact u8_inr (by omega)) #[.int .u8 0, .int .u8 0] rfl 2 rfl; refine wpList_app _ rfl (.tmp 26) (.tmp 27) 22 rfl .u8 w.heap.size 5 i0 (.int .u8 0) 1 Tryz.underlying22 hi hz0 hz1 hz2 rfl _ (by rfl) _ (a5.own.alloc _) (w5.heap.size + 1) _ 2 2 rfl [0, 0] hx (by simp [be2]) (by decide) (by have := a5.upd.size; simp; omega) ?_; intro v6 w6 own6 hg6 hb6; have a6 := (a5.alloc (.cells #[.int .u8 0, .int .u8 0] 5)).app own6 hg6 hb6; clear own6 hg6 hb6 hx; have rd6 := rdF.below a6.bel; have s6 := a6.bel.size))
    | (at_builtin; (refine wpList_app _ rfl (.tmp 29) (.tmp 30) 22 rfl .u8 w.heap.size 5 i0 (.int .u8 0) 1 Tryz.underlying22 hi hz0 hz1 hz2 rfl _ (by rfl) _ a6.own w.heap.size _ _ _ (by rfl) F rd6 (by simp [be2, be4]; try omega) (by decide) s6 ?_; intro v7 w7 own7 hg7 hb7; have a7 := a6.app own7 hg7 hb7; clear own7 hg7 hb7)))
  rw [eL.out] at a7
  have bel5 := a7.bel
  have own5 := a7.own
  clear a1 a2 a3 a4 a5 a6 a7 rd6 rdF eL x2 x4
  obtain ⟨g, c5, rfl, hc1, hc2, hg1, hg2⟩ := own5.formG hLl.out (by omega)
  have rd5 := own5.rd hLl.out
  have hSb := hSb (fun x hx => inr_u8 (own5.rng x hx))
  refine (hps.out _ c5 _ rd5).mono ?_
  rintro e w6 ⟨rfl, bel6⟩
  have bel8 := bel_after bel5 bel6
  have own8 := own5.below bel6
  clear bel5 bel6 rd5 own5
  by_cases hz : S = 0
  · subst hz
    have hT2 : T = 65535 := by rw [hT.out]; rfl
    have h2 : (L.set 6 ((65535 : Int) / 256)).set (6 + 1) ((65535 : Int) % 256) = udpB a b F T := by rw [← hset.out, hT2]
    replace h2 := Lib.hid h2
    clear hT2
    have hgw : w.heap.size ≤ g := hg1
    have hSw : IntKind.u8.wrap ((65535 : Int)) = ((65535 : Int)) % 256 := IntKind.wrap_u8' _
    have own9 := (own8.set hLl.out 6 (x := ((65535 : Int)) / 256) (u8_inr (by omega))).set (by rw [List.length_set]; exact hLl.out) (6 + 1) (x := ((65535 : Int)) % 256) (u8_inr (by omega))
    have up9 := (Upd.one w6 g 6 (.int .u8 (((65535 : Int)) / 256))).trans (Upd.one _ g (6 + 1) (.int .u8 (((65535 : Int)) % 256)))
    obtain ⟨c0, f0, _⟩ := own8.at_ hLl.out (j := 6) (by omega)
    obtain ⟨c1, f1, _⟩ := own8.at_ hLl.out (j := 6 + 1) (by omega)
    go_wp2_with fail
    go_ret
    refine ⟨_, rfl, ?_, bel8.trans (up9.below bel8.size (fun x hx e => by omega))⟩
    rw [h2.out] at own9
    exact own9
  · have hz2 : (S == 0) = false := by simpa using hz
    have hTS : T = S := by rw [hT.out]; unfold nev; rw [if_neg hz]
    have h2 : (L.set 6 (S / 256)).set (6 + 1) (S % 256) = udpB a b F T := by rw [← hset.out, hTS]
    replace h2 := Lib.hid h2
    clear hTS
    have hgw : w.heap.size ≤ g := hg1
    have hSw : IntKind.u8.wrap (S) = (S) % 256 := IntKind.wrap_u8' _
    have own9 := (own8.set hLl.out 6 (x := (S) / 256) (u8_inr (by omega))).set (by rw [List.length_set]; exact hLl.out) (6 + 1) (x := (S) % 256) (u8_inr (by omega))
    have up9 := (Upd.one w6 g 6 (.int .u8 ((S) / 256))).trans (Upd.one _ g (6 + 1) (.int .u8 ((S) % 256)))
    obtain ⟨c0, f0, _⟩ := own8.at_ hLl.out (j := 6) (by omega)
    obtain ⟨c1, f1, _⟩ := own8.at_ hLl.out (j := 6 + 1) (by omega)
    go_wp2_with fail
    go_ret
    refine ⟨_, rfl, ?_, bel8.trans (up9.below bel8.size (fun x hx e => by omega))⟩
    rw [h2.out] at own9
    exact own9
set_option maxRecDepth 100000 in
set_option maxHeartbeats 1000000 in
theorem rTcp_any (s d a b f : Int) (l : List Int) (A : Option Addr) (len c B : Nat) (w : World) (hr : Rd .u8 w B A len l) (hB : B ≤ w.heap.size) (hlc : len ≤ c) (hcm : c ≤ 9223372036854775807) (hs : 0 ≤ s ∧ s ≤ 4294967295) (hd : 0 ≤ d ∧ d ≤ 4294967295) (ha : 0 ≤ a ∧ a ≤ 65535) (hb : 0 ≤ b ∧ b ≤ 65535) :
    Calls Tryz.prog 83 #[.int .u32 s, .int .u32 d, .int .u16 a, .int .u16 b, .int .i64 f, .slice A len c] w (Gives w (tcpL s d a b f l)) := by
  unfold tcpL
  obtain ⟨i0, hi, hz0, hz1, hz2⟩ := info_parts info_u8_
  have hrB := hr.more hB
  have hfew := fun w' hr => rfew_any l A len c w.heap.size w' hr hlc hcm
  have hFl := fewL_len l
  have hFx : ∀ x, x ∈ fewL l → 0 ≤ x ∧ x ≤ 255 := fun x hx => inr_u8 (hr.rng x (fewL_mem hx))
  obtain ⟨F, hF⟩ : ∃ F, F = fewL l := ⟨_, rfl⟩
  rw [← hF] at hfew hFl hFx ⊢
  obtain ⟨m, hm⟩ : ∃ m, m = F.length := ⟨_, rfl⟩
  rw [← hm] at hfew hFl
  replace hfew := Lib.hid hfew
  replace hF := Lib.hid hF
  obtain ⟨L, hL⟩ : ∃ L, L = tcpB a b f F 0 := ⟨_, rfl⟩
  have hLl : L.length = 20 + m := by rw [hL, tcpB_len, hm]
  rw [← hL]
  have hset := fun S => tcpB_set a b f F S
  rw [← hL] at hset
  have hps := fun (A' : Option Addr) (c' : Nat) (w' : World) (rd : Rd .u8 w' w'.heap.size A' (20 + m) L) => Pseudo_any s d 6 L A' (20 + m) c' _ w' rd (Nat.le_refl _) hs hd (by omega) (by omega)
  have hSb : (∀ x, x ∈ L → 0 ≤ x ∧ x ≤ 255) → 0 ≤ csum s d 6 L ∧ csum s d 6 L ≤ 65535 := fun h => csum_bd hs hd (by omega) (by omega) h
  obtain ⟨S, hS⟩ : ∃ S, S = csum s d 6 L := ⟨_, rfl⟩
  rw [← hS] at hps hSb ⊢
  replace hset := Lib.hid (hset S)
  replace hps := Lib.hid hps
  replace hLl := Lib.hid hLl
  replace hS := Lib.hid hS
  have eL : ((be2 a ++ be2 b) ++ [0, 0, 0, 0, 0, 0, 0, 0, 80, f % 256, 32, 0, 0, 0, 0, 0]) ++ F = L := by rw [hL]; simp [tcpB, be2]
  replace eL := Lib.hid eL
  replace hL := Lib.hid hL
  replace hm := Lib.hid hm
  have hfw : IntKind.u8.wrap f = f % 256 := IntKind.wrap_u8' f
  have hfb : 0 ≤ f % 256 ∧ f % 256 ≤ 255 := by omega
  have h16 : ∀ y, y ∈ [0, 0, 0, 0, 0, 0, 0, 0, 80, f % 256, 32, 0, 0, 0, 0, 0] → inr .u8 y := fun y hy => u8_inr (by simp at hy; omega)
  replace h16 := Lib.hid h16
  go_enter Tryz.func83, Tryz.ntmps83
  go_wp2_with fail
  refine (word_any a _ ha).mono ?_
  rintro e w1 ⟨rfl, hw1⟩
  have a1 := App.new_ w w.heap.size (be2 a) (be2_inr ha) #[.int .u8 (a / 256), .int .u8 (a % 256)] rfl 2 rfl (by omega) (Nat.le_refl _)
  rw [← hw1] at a1
  replace hw1 := Lib.hid hw1
  go_wp2_with fail
  refine (word_any (b) _ (by omega)).mono ?_
  rintro e w2 ⟨rfl, hw2⟩
  have x2 := Rd.new .u8 w1 5 (be2 (b)) (be2_inr (by omega)) #[.int .u8 ((b) / 256), .int .u8 ((b) % 256)] rfl 2 rfl
  have a2 := a1.alloc (.cells #[.int .u8 ((b) / 256), .int .u8 ((b) % 256)] 5)
  have hy2 : w2.heap.size = w1.heap.size + 1 := by rw [hw2]; simp
  rw [← hw2] at x2 a2
  replace hw2 := Lib.hid hw2
  have s2 := a2.bel.size
  go_wp2_with (first
    | (at_builtin; (refine wpList_app _ rfl (.tmp 17) (.tmp 20) 22 rfl .u8 w.heap.size 5 i0 (.int .u8 0) 1 Tryz.underlying22 hi hz0 hz1 hz2 rfl _ (by rfl) _ a2.own (w1.heap.size + 1) _ 2 2 (by rfl) (be2 b) x2 (by simp [be2, be4]; try omega) (by decide) s2 ?_; intro v3 w3 own3 hg3 hb3; have a3 := a2.app own3 hg3 hb3; clear own3 hg3 hb3))
    | (at_builtin; (have hx := Rd.new .u8 w3 5 [0, 0, 0, 0, 0, 0, 0, 0, 80, f % 256, 32, 0, 0, 0, 0, 0] h16.out #[.int .u8 0, .int .u8 0, .int .u8 0, .int .u8 0, .int .u8 0, .int .u8 0, .int .u8 0, .int .u8 0, .int .u8 80, .int .u8 (f % 256), .int .u8 32, .int .u8 0, .int .u8 0, .int .u8 0, .int .u8 0, .int .u8 0] rfl 16 rfl; refine wpList_app _ rfl (.tmp 21) (.tmp 24) 22 rfl .u8 w.heap.size 5 i0 (.int .u8 0) 1 Tryz.underlying22 hi hz0 hz1 hz2 rfl _ (by rfl) _ (a3.own.alloc _) (w3.heap.size + 1) _ 16 16 rfl [0, 0, 0, 0, 0, 0, 0, 0, 80, f % 256, 32, 0, 0, 0, 0, 0] hx (by simp [be2]) (by decide) (by have := a3.upd.size; simp; omega) ?_; intro v6 w6 own6 hg6 hb6; have a6 := (a3.alloc (.cells #[.int .u8 0, .int .u8 0, .int .u8 0, .int .u8 0, .int .u8 0, .int .u8 0, .int .u8 0, .int .u8 0, .int .u8 80, .int .u8 (f % 256), .int .u8 32, .int .u8 0, .int .u8 0, .int .u8 0, .int .u8 0, .int .u8 0] 5)).app own6 hg6 hb6; clear own6 hg6 hb6 hx; have rd6 := hrB.below a6.bel; have s6 := a6.bel.size)))
  refine (hfew.out _ rd6).mono ?_
  rintro e w0 ⟨⟨c', rfl, hmc, hcm', rdF⟩, rfl⟩
  go_wp2_with (at_builtin; (refine wpList_app _ rfl (.tmp 26) (.tmp 28) 22 rfl .u8 w.heap.size 5 i0 (.int .u8 0) 1 Tryz.underlying22 hi hz0 hz1 hz2 rfl _ (by rfl) _ a6.own w.heap.size _ _ _ (by rfl) F rdF (by simp [be2, be4]; try omega) (by decide) s6 ?_; intro v7 w7 own7 hg7 hb7; have a7 := a6.app own7 hg7 hb7; clear own7 hg7 hb7))
  rw [eL.out] at a7
  have bel5 := a7.bel
  have own5 := a7.own
  clear a1 a2 a3 a6 a7 rd6 rdF eL x2
  obtain ⟨g, c5, rfl, hc1, hc2, hg1, hg2⟩ := own5.formG hLl.out (by omega)
  have rd5 := own5.rd hLl.out
  have hSb := hSb (fun x hx => inr_u8 (own5.rng x hx))
  refine (hps.out _ c5 _ rd5).mono ?_
  rintro e w6 ⟨rfl, bel6⟩
  have bel8 := bel_after bel5 bel6
  have own8 := own5.below bel6
  clear bel5 bel6 rd5 own5
  have hgw : w.heap.size ≤ g := hg1
  have hSw : IntKind.u8.wrap (S) = (S) % 256 := IntKind.wrap_u8' _
  have own9 := (own8.set hLl.out 16 (x := (S) / 256) (u8_inr (by omega))).set (by rw [List.length_set]; exact hLl.out) (16 + 1) (x := (S) % 256) (u8_inr (by omega))
  have up9 := (Upd.one w6 g 16 (.int .u8 ((S) / 256))).trans (Upd.one _ g (16 + 1) (.int .u8 ((S) % 256)))
  obtain ⟨c0, f0, _⟩ := own8.at_ hLl.out (j := 16) (by omega)
  obtain ⟨c1, f1, _⟩ := own8.at_ hLl.out (j := 16 + 1) (by omega)
  go_wp2_with fail
  go_ret
  refine ⟨_, rfl, ?_, bel8.trans (up9.below bel8.size (fun x hx e => by omega))⟩
  rw [hset.out] at own9
  exact own9
set_option maxRecDepth 100000 in
set_option maxHeartbeats 1000000 in
theorem rEcho_any (r : Bool) (a : Int) (l : List Int) (A : Option Addr) (len c B : Nat) (w : World) (hr : Rd .u8 w B A len l) (hB : B ≤ w.heap.size) (hlc : len ≤ c) (hcm : c ≤ 9223372036854775807) (ha : 0 ≤ a ∧ a ≤ 65535) :
    Calls Tryz.prog 84 #[.bool r, .int .u16 a, .slice A len c] w (Gives w (echoL r a l)) := by
  unfold echoL
  obtain ⟨i0, hi, hz0, hz1, hz2⟩ := info_parts info_u8_
  have hrB := hr.more hB
  have hfew := fun w' hr => rfew_any l A len c w.heap.size w' hr hlc hcm
  have hFl := fewL_len l
  have hFx : ∀ x, x ∈ fewL l → 0 ≤ x ∧ x ≤ 255 := fun x hx => inr_u8 (hr.rng x (fewL_mem hx))
  obtain ⟨F, hF⟩ : ∃ F, F = fewL l := ⟨_, rfl⟩
  rw [← hF] at hfew hFl hFx ⊢
  obtain ⟨m, hm⟩ : ∃ m, m = F.length := ⟨_, rfl⟩
  rw [← hm] at hfew hFl
  replace hfew := Lib.hid hfew
  replace hF := Lib.hid hF
  have hkc : r = true ∧ (if r then (0 : Int) else 8) = 0 ∨ r = false ∧ (if r then (0 : Int) else 8) = 8 := by cases r <;> simp
  obtain ⟨k, hk⟩ : ∃ k, k = (if r then (0 : Int) else 8) := ⟨_, rfl⟩
  rw [← hk] at hkc ⊢
  clear hk
  have hkb : 0 ≤ k ∧ k ≤ 255 := by rcases hkc with ⟨_, h⟩ | ⟨_, h⟩ <;> omega
  obtain ⟨L, hL⟩ : ∃ L, L = echoB k a F 0 := ⟨_, rfl⟩
  have hLl : L.length = 8 + m := by rw [hL, echoB_len, hm]
  rw [← hL]
  have hset := fun S => echoB_set k a F S
  rw [← hL] at hset
  have hps := fun (A' : Option Addr) (c' : Nat) (w' : World) (rd : Rd .u8 w' w'.heap.size A' (8 + m) L) => rOf_any L A' (8 + m) c' _ w' (by omega) rd
  have hSb : (∀ x, x ∈ L → 0 ≤ x ∧ x ≤ 255) → 0 ≤ sumOf L ∧ sumOf L ≤ 65535 := fun h => sumOf_bd h
  obtain ⟨S, hS⟩ : ∃ S, S = sumOf L := ⟨_, rfl⟩
  rw [← hS] at hps hSb ⊢
  replace hset := Lib.hid (hset S)
  replace hps := Lib.hid hps
  replace hLl := Lib.hid hLl
  replace hS := Lib.hid hS
  have eL : [k, 0, 0, 0, a / 256, a % 256, 0, 0] ++ F = L := by rw [hL]; simp [echoB, be2]
  have h8 : ∀ y, y ∈ [k, 0, 0, 0, a / 256, a % 256, 0, 0] → inr .u8 y := fun y hy => u8_inr (by simp at hy; omega)
  replace h8 := Lib.hid h8
  replace eL := Lib.hid eL
  replace hL := Lib.hid hL
  replace hm := Lib.hid hm
  rcases hkc with ⟨rfl, hk⟩ | ⟨rfl, hk⟩
  · subst hk
    go_enter Tryz.func84, Tryz.ntmps84
    go_wp2_with fail
    have own0 := Own.new .u8 w 5 w.heap.size (Nat.le_refl _) [0, 0, 0, 0, a / 256, a % 256, 0, 0] h8.out #[.int .u8 0, .int .u8 0, .int .u8 0, .int .u8 0, .int .u8 (a / 256), .int .u8 (a % 256), .int .u8 0, .int .u8 0] rfl 8 rfl (by show 8 ≤ maxLen; decide)
    have bel0 : Below w.heap.size w (w.alloc (.cells #[.int .u8 0, .int .u8 0, .int .u8 0, .int .u8 0, .int .u8 (a / 256), .int .u8 (a % 256), .int .u8 0, .int .u8 0] 5)) := bel_alloc _ _
    generalize w.alloc (.cells #[.int .u8 0, .int .u8 0, .int .u8 0, .int .u8 0, .int .u8 (a / 256), .int .u8 (a % 256), .int .u8 0, .int .u8 0] 5) = W0 at *
    have hW0 := bel0.size
    refine (hfew.out _ (hrB.below bel0)).mono ?_
    rintro e w0 ⟨⟨c', rfl, hmc, hcm', rdF⟩, rfl⟩
    go_wp2_with (at_builtin; (refine wpList_app _ rfl (.tmp 17) (.tmp 19) 22 rfl .u8 w.heap.size 5 i0 (.int .u8 0) 1 Tryz.underlying22 hi hz0 hz1 hz2 rfl _ (by rfl) _ own0 w.heap.size _ _ _ (by rfl) F rdF (by simp; omega) (by decide) hW0 ?_; intro v9 w6 own9 hg9 hb9; have a9 := (App.refl own0).app own9 hg9 hb9; clear own9 hg9 hb9))
    rw [eL.out] at a9
    have bel8 := a9.bel0 bel0 (Nat.le_refl _)
    have own8 := a9.own
    clear a9 rdF eL own0
    obtain ⟨g, c5, rfl, hc1, hc2, hg1, hg2⟩ := own8.formG hLl.out (by omega)
    have rd5 := own8.rd hLl.out
    have hSb := hSb (fun x hx => inr_u8 (own8.rng x hx))
    refine (hps.out _ c5 _ rd5).mono ?_
    rintro e w6' ⟨rfl, rfl⟩
    clear rd5
    have hgw : w.heap.size ≤ g := hg1
    have hSw : IntKind.u8.wrap (S) = (S) % 256 := IntKind.wrap_u8' _
    have own9 := (own8.set hLl.out 2 (x := (S) / 256) (u8_inr (by omega))).set (by rw [List.length_set]; exact hLl.out) (2 + 1) (x := (S) % 256) (u8_inr (by omega))
    have up9 := (Upd.one w6 g 2 (.int .u8 ((S) / 256))).trans (Upd.one _ g (2 + 1) (.int .u8 ((S) % 256)))
    obtain ⟨c0, f0, _⟩ := own8.at_ hLl.out (j := 2) (by omega)
    obtain ⟨c1, f1, _⟩ := own8.at_ hLl.out (j := 2 + 1) (by omega)
    go_wp2_with fail
    go_ret
    refine ⟨_, rfl, ?_, bel8.trans (up9.below bel8.size (fun x hx e => by omega))⟩
    rw [hset.out] at own9
    exact own9
  · subst hk
    go_enter Tryz.func84, Tryz.ntmps84
    go_wp2_with fail
    have own0 := Own.new .u8 w 5 w.heap.size (Nat.le_refl _) [8, 0, 0, 0, a / 256, a % 256, 0, 0] h8.out #[.int .u8 8, .int .u8 0, .int .u8 0, .int .u8 0, .int .u8 (a / 256), .int .u8 (a % 256), .int .u8 0, .int .u8 0] rfl 8 rfl (by show 8 ≤ maxLen; decide)
    have bel0 : Below w.heap.size w (w.alloc (.cells #[.int .u8 8, .int .u8 0, .int .u8 0, .int .u8 0, .int .u8 (a / 256), .int .u8 (a % 256), .int .u8 0, .int .u8 0] 5)) := bel_alloc _ _
    generalize w.alloc (.cells #[.int .u8 8, .int .u8 0, .int .u8 0, .int .u8 0, .int .u8 (a / 256), .int .u8 (a % 256), .int .u8 0, .int .u8 0] 5) = W0 at *
    have hW0 := bel0.size
    refine (hfew.out _ (hrB.below bel0)).mono ?_
    rintro e w0 ⟨⟨c', rfl, hmc, hcm', rdF⟩, rfl⟩
    go_wp2_with (at_builtin; (refine wpList_app _ rfl (.tmp 17) (.tmp 19) 22 rfl .u8 w.heap.size 5 i0 (.int .u8 0) 1 Tryz.underlying22 hi hz0 hz1 hz2 rfl _ (by rfl) _ own0 w.heap.size _ _ _ (by rfl) F rdF (by simp; omega) (by decide) hW0 ?_; intro v9 w6 own9 hg9 hb9; have a9 := (App.refl own0).app own9 hg9 hb9; clear own9 hg9 hb9))
    rw [eL.out] at a9
    have bel8 := a9.bel0 bel0 (Nat.le_refl _)
    have own8 := a9.own
    clear a9 rdF eL own0
    obtain ⟨g, c5, rfl, hc1, hc2, hg1, hg2⟩ := own8.formG hLl.out (by omega)
    have rd5 := own8.rd hLl.out
    have hSb := hSb (fun x hx => inr_u8 (own8.rng x hx))
    refine (hps.out _ c5 _ rd5).mono ?_
    rintro e w6' ⟨rfl, rfl⟩
    clear rd5
    have hgw : w.heap.size ≤ g := hg1
    have hSw : IntKind.u8.wrap (S) = (S) % 256 := IntKind.wrap_u8' _
    have own9 := (own8.set hLl.out 2 (x := (S) / 256) (u8_inr (by omega))).set (by rw [List.length_set]; exact hLl.out) (2 + 1) (x := (S) % 256) (u8_inr (by omega))
    have up9 := (Upd.one w6 g 2 (.int .u8 ((S) / 256))).trans (Upd.one _ g (2 + 1) (.int .u8 ((S) % 256)))
    obtain ⟨c0, f0, _⟩ := own8.at_ hLl.out (j := 2) (by omega)
    obtain ⟨c1, f1, _⟩ := own8.at_ hLl.out (j := 2 + 1) (by omega)
    go_wp2_with fail
    go_ret
    refine ⟨_, rfl, ?_, bel8.trans (up9.below bel8.size (fun x hx e => by omega))⟩
    rw [hset.out] at own9
    exact own9
set_option maxRecDepth 100000 in
set_option maxHeartbeats 1000000 in
theorem rFault_any (k a : Int) (l : List Int) (A : Option Addr) (len c B : Nat) (w : World) (hr : Rd .u8 w B A len l) (hB : B ≤ w.heap.size) (hlc : len ≤ c) (hcm : c ≤ 9223372036854775807) :
    Calls Tryz.prog 31 #[.int .i64 k, .int .i64 a, .slice A len c] w (Gives w (faultL k a l)) := by
  unfold faultL
  obtain ⟨i0, hi, hz0, hz1, hz2⟩ := info_parts info_u8_
  have hrB := hr.more hB
  have hfew := fun w' hr => rfew_any l A len c w.heap.size w' hr hlc hcm
  have hFl := fewL_len l
  have hFx : ∀ x, x ∈ fewL l → 0 ≤ x ∧ x ≤ 255 := fun x hx => inr_u8 (hr.rng x (fewL_mem hx))
  obtain ⟨F, hF⟩ : ∃ F, F = fewL l := ⟨_, rfl⟩
  rw [← hF] at hfew hFl hFx ⊢
  obtain ⟨m, hm⟩ : ∃ m, m = F.length := ⟨_, rfl⟩
  rw [← hm] at hfew hFl
  replace hfew := Lib.hid hfew
  replace hF := Lib.hid hF
  obtain ⟨L, hL⟩ : ∃ L, L = faultB k a F 0 := ⟨_, rfl⟩
  have hLl : L.length = 8 + m := by rw [hL, faultB_len, hm]
  rw [← hL]
  have hset := fun S => faultB_set k a F S
  rw [← hL] at hset
  have hps := fun (A' : Option Addr) (c' : Nat) (w' : World) (rd : Rd .u8 w' w'.heap.size A' (8 + m) L) => rOf_any L A' (8 + m) c' _ w' (by omega) rd
  have hSb : (∀ x, x ∈ L → 0 ≤ x ∧ x ≤ 255) → 0 ≤ sumOf L ∧ sumOf L ≤ 65535 := fun h => sumOf_bd h
  obtain ⟨S, hS⟩ : ∃ S, S = sumOf L := ⟨_, rfl⟩
  rw [← hS] at hps hSb ⊢
  replace hset := Lib.hid (hset S)
  replace hps := Lib.hid hps
  replace hLl := Lib.hid hLl
  replace hS := Lib.hid hS
  have eL : [k % 256, a % 256, 0, 0, 0, 0, 0, 0] ++ F = L := by rw [hL]; simp [faultB, be2]
  have h8 : ∀ y, y ∈ [k % 256, a % 256, 0, 0, 0, 0, 0, 0] → inr .u8 y := fun y hy => u8_inr (by simp at hy; omega)
  replace h8 := Lib.hid h8
  replace eL := Lib.hid eL
  replace hL := Lib.hid hL
  replace hm := Lib.hid hm
  have hkw : IntKind.u8.wrap k = k % 256 := IntKind.wrap_u8' k
  have haw : IntKind.u8.wrap a = a % 256 := IntKind.wrap_u8' a
  go_enter Tryz.func31, Tryz.ntmps31
  go_wp2_with fail
  have own0 := Own.new .u8 w 5 w.heap.size (Nat.le_refl _) [k % 256, a % 256, 0, 0, 0, 0, 0, 0] h8.out #[.int .u8 (k % 256), .int .u8 (a % 256), .int .u8 0, .int .u8 0, .int .u8 0, .int .u8 0, .int .u8 0, .int .u8 0] rfl 8 rfl (by show 8 ≤ maxLen; decide)
  have bel0 : Below w.heap.size w (w.alloc (.cells #[.int .u8 (k % 256), .int .u8 (a % 256), .int .u8 0, .int .u8 0, .int .u8 0, .int .u8 0, .int .u8 0, .int .u8 0] 5)) := bel_alloc _ _
  generalize w.alloc (.cells #[.int .u8 (k % 256), .int .u8 (a % 256), .int .u8 0, .int .u8 0, .int .u8 0, .int .u8 0, .int .u8 0, .int .u8 0] 5) = W0 at *
  have hW0 := bel0.size
  refine (hfew.out _ (hrB.below bel0)).mono ?_
  rintro e w0 ⟨⟨c', rfl, hmc, hcm', rdF⟩, rfl⟩
  go_wp2_with (at_builtin; (refine wpList_app _ rfl (.tmp 13) (.tmp 15) 22 rfl .u8 w.heap.size 5 i0 (.int .u8 0) 1 Tryz.underlying22 hi hz0 hz1 hz2 rfl _ (by rfl) _ own0 w.heap.size _ _ _ (by rfl) F rdF (by simp; omega) (by decide) hW0 ?_; intro v9 w6 own9 hg9 hb9; have a9 := (App.refl own0).app own9 hg9 hb9; clear own9 hg9 hb9))
  rw [eL.out] at a9
  have bel8 := a9.bel0 bel0 (Nat.le_refl _)
  have own8 := a9.own
  clear a9 rdF eL own0
  obtain ⟨g, c5, rfl, hc1, hc2, hg1, hg2⟩ := own8.formG hLl.out (by omega)
  have rd5 := own8.rd hLl.out
  have hSb := hSb (fun x hx => inr_u8 (own8.rng x hx))
  refine (hps.out _ c5 _ rd5).mono ?_
  rintro e w6' ⟨rfl, rfl⟩
  clear rd5
  have hgw : w.heap.size ≤ g := hg1
  have hSw : IntKind.u8.wrap (S) = (S) % 256 := IntKind.wrap_u8' _
  have own9 := (own8.set hLl.out 2 (x := (S) / 256) (u8_inr (by omega))).set (by rw [List.length_set]; exact hLl.out) (2 + 1) (x := (S) % 256) (u8_inr (by omega))
  have up9 := (Upd.one w6 g 2 (.int .u8 ((S) / 256))).trans (Upd.one _ g (2 + 1) (.int .u8 ((S) % 256)))
  obtain ⟨c0, f0, _⟩ := own8.at_ hLl.out (j := 2) (by omega)
  obtain ⟨c1, f1, _⟩ := own8.at_ hLl.out (j := 2 + 1) (by omega)
  go_wp2_with fail
  go_ret
  refine ⟨_, rfl, ?_, bel8.trans (up9.below bel8.size (fun x hx e => by omega))⟩
  rw [hset.out] at own9
  exact own9
end Go.Proofs.YtbckoohljkmahaaGreat
namespace Go.Proofs.YtbckoohljkmahaaGreat
set_option linter.unusedVariables false
set_option linter.unusedSimpArgs false
open Go.RowKit
/-- what is carried: bytes and protocol -/
def carL (k : Nat) (s d a b f : Int) (l : List Int) : List Int :=
  if k = 0 then udpL s d a b l else if k = 1 then tcpL s d a b f l else if k = 2 then echoL false a l else if k = 3 then echoL true a l else
  if k = 4 then faultL 3 (f.tmod 16) (putL 9 17 d s (udpL d s b a l)) else if k = 5 then faultL 11 0 ((putL 9 6 d s (tcpL d s b a 2 l)).take (28 + l.length / 2)) else faultL 3 1 (putL 9 1 d s (echoL false b l))
def carP (k : Nat) : Int := if k = 0 then 17 else if k = 1 then 6 else 1
def frameL (k : Nat) (s d a b f : Int) (l : List Int) : List Int := putL 64 (carP k) s d (carL k s d a b f l)
theorem udpL_len (s d a b : Int) (l : List Int) : (udpL s d a b l).length = 8 + (fewL l).length := udpB_len _ _ _ _
theorem tcpL_len (s d a b f : Int) (l : List Int) : (tcpL s d a b f l).length = 20 + (fewL l).length := tcpB_len _ _ _ _ _
theorem echoL_len (r : Bool) (a : Int) (l : List Int) : (echoL r a l).length = 8 + (fewL l).length := echoB_len _ _ _ _
theorem faultL_len (k c : Int) (l : List Int) : (faultL k c l).length = 8 + (fewL l).length := faultB_len _ _ _ _
theorem few_short {l : List Int} (h : l.length ≤ 1400) : fewL l = l := List.take_of_length_le h
theorem carL_len (k : Nat) (s d a b f : Int) (l : List Int) (hl : l.length ≤ 40) : 8 ≤ (carL k s d a b f l).length ∧ (carL k s d a b f l).length ≤ 110 := by
  have hf : fewL l = l := few_short (by omega)
  unfold carL
  split
  · rw [udpL_len, hf]; omega
  split
  · rw [tcpL_len, hf]; omega
  split
  · rw [echoL_len, hf]; omega
  split
  · rw [echoL_len, hf]; omega
  split
  · have : (putL 9 17 d s (udpL d s b a l)).length = 28 + l.length := by rw [put_len, udpL_len, hf]; omega
    rw [faultL_len, few_short (by omega), this]; omega
  split
  · have : ((putL 9 6 d s (tcpL d s b a 2 l)).take (28 + l.length / 2)).length = 28 + l.length / 2 := by rw [List.length_take, put_len, tcpL_len, hf]; omega
    rw [faultL_len, few_short (by omega), this]; omega
  · have : (putL 9 1 d s (echoL false b l)).length = 28 + l.length := by rw [put_len, echoL_len, hf]; omega
    rw [faultL_len, few_short (by omega), this]; omega
def CarRes (w : World) (p : Int) (l : List Int) (e : Ending) (w' : World) : Prop := ∃ v', e = .returned (.tuple #[v', .int .i64 p]) ∧ Own .u8 5 w' w.heap.size v' l ∧ Below w.heap.size w w'
theorem Own.mono_ {k : IntKind} {e : TypeId} {w : World} {base base' : Nat} {v : Value} {l : List Int} (h : Own k e w base v l) (hb : base' ≤ base) : Own k e w base' v l := by
  refine ⟨⟨h.row.1, ?_⟩, h.rng⟩
  rcases h.row.2 with h1 | ⟨g, cap, cur, h1, h2, h3⟩
  · exact .inl h1
  · exact .inr ⟨g, cap, cur, h1, Nat.le_trans hb h2, h3⟩
set_option maxRecDepth 100000 in
set_option maxHeartbeats 2000000 in
theorem Carried_any (wt s d a b f : Int) (l : List Int) (A : Option Addr) (len cap k : Nat) (w : World) (hr : Rd .u8 w w.heap.size A len l) (hlc : len ≤ cap) (hcm : cap ≤ 9223372036854775807) (hs : 0 ≤ s ∧ s ≤ 4294967295) (hd : 0 ≤ d ∧ d ≤ 4294967295) (ha : 0 ≤ a ∧ a ≤ 65535) (hb : 0 ≤ b ∧ b ≤ 65535)
    (hk : (IntKind.u64.wrap wt).tmod 7 = (k : Int)) (hk7 : k < 7) :
    Calls Tryz.prog 54 #[.agg #[.int .i64 wt, .int .u32 s, .int .u32 d, .int .u16 a, .int .u16 b, .int .i64 f, .slice A len cap]] w (CarRes w (carP k) (carL k s d a b f (l.take 40))) := by
  obtain ⟨m, hmn, hm1, hm2⟩ := minc 40 (by omega) len
  have hr2 := hr.take hm1
  have hLe : l.take m = l.take 40 := List.take_eq_take_iff.2 (by rw [hr.len]; omega)
  rw [hLe] at hr2
  obtain ⟨L, hL⟩ : ∃ L, L = l.take 40 := ⟨_, rfl⟩
  rw [← hL] at hr2 ⊢
  clear hL hr hLe
  have hv : Value.int .u64 ((IntKind.u64.wrap wt).tmod 7) = .int .u64 (k : Int) := by rw [hk]
  clear hk
  have hL40 : L.length = m := hr2.len
  have hrd := fun w' (hb : Below w.heap.size w w') => (hr2.below hb).more hb.size
  clear hr2
  replace hrd := Lib.hid hrd
  replace hL40 := Lib.hid hL40
  have hkc : k = 0 ∨ k = 1 ∨ k = 2 ∨ k = 3 ∨ k = 4 ∨ k = 5 ∨ k = 6 := by omega
  rcases hkc with rfl | rfl | rfl | rfl | rfl | rfl | rfl
  · show Calls _ _ _ _ (CarRes w 17 (udpL s d a b L))
    go_enter Tryz.func54, Tryz.ntmps54
    go_upto_region 1 with fail
    have bn := Blk.new w 73 #[.int .i64 wt, .int .u32 s, .int .u32 d, .int .u16 a, .int .u16 b, .int .i64 f, .slice A len cap]
    have bel := bel_alloc w (.cells #[.int .i64 wt, .int .u32 s, .int .u32 d, .int .u16 a, .int .u16 b, .int .i64 f, .slice A len cap] 73)
    generalize w.alloc (.cells #[.int .i64 wt, .int .u32 s, .int .u32 d, .int .u16 a, .int .u16 b, .int .i64 f, .slice A len cap] 73) = W at *
    have q0 := bn.cell 0
    have q1 := bn.cell 1
    have q2 := bn.cell 2
    have q3 := bn.cell 3
    have q4 := bn.cell 4
    have q5 := bn.cell 5
    have q6 := bn.cell 6
    go_wp2_with fail
    refine (rUdp_any s d a b L A m cap _ W (hrd.out _ bel) (Nat.le_refl _) (by omega) hcm hs hd ha hb).mono ?_
    rintro e w2 ⟨v2, rfl, own2, bel2⟩
    have own3 := own2.mono_ bel.size
    clear own2
    replace bel := bel_after bel bel2
    clear bel2 q0 q1 q2 q3 q4 q5 q6 bn
    go_wp2
    exact bodyPost_ret (v := .tuple #[v2, .int .i64 17]) (by simp [results, Tryz.results54, go_sem]) rfl ⟨_, rfl, own3, bel⟩
  · show Calls _ _ _ _ (CarRes w 6 (tcpL s d a b f L))
    go_enter Tryz.func54, Tryz.ntmps54
    go_upto_region 1 with fail
    have bn := Blk.new w 73 #[.int .i64 wt, .int .u32 s, .int .u32 d, .int .u16 a, .int .u16 b, .int .i64 f, .slice A len cap]
    have bel := bel_alloc w (.cells #[.int .i64 wt, .int .u32 s, .int .u32 d, .int .u16 a, .int .u16 b, .int .i64 f, .slice A len cap] 73)
    generalize w.alloc (.cells #[.int .i64 wt, .int .u32 s, .int .u32 d, .int .u16 a, .int .u16 b, .int .i64 f, .slice A len cap] 73) = W at *
    have q0 := bn.cell 0
    have q1 := bn.cell 1
    have q2 := bn.cell 2
    have q3 := bn.cell 3
    have q4 := bn.cell 4
    have q5 := bn.cell 5
    have q6 := bn.cell 6
    go_wp2_with fail
    refine (rTcp_any s d a b f L A m cap _ W (hrd.out _ bel) (Nat.le_refl _) (by omega) hcm hs hd ha hb).mono ?_
    rintro e w2 ⟨v2, rfl, own2, bel2⟩
    have own3 := own2.mono_ bel.size
    clear own2
    replace bel := bel_after bel bel2
    clear bel2 q0 q1 q2 q3 q4 q5 q6 bn
    go_wp2
    exact bodyPost_ret (v := .tuple #[v2, .int .i64 6]) (by simp [results, Tryz.results54, go_sem]) rfl ⟨_, rfl, own3, bel⟩
  · show Calls _ _ _ _ (CarRes w 1 (echoL false a L))
    go_enter Tryz.func54, Tryz.ntmps54
    go_upto_region 1 with fail
    have bn := Blk.new w 73 #[.int .i64 wt, .int .u32 s, .int .u32 d, .int .u16 a, .int .u16 b, .int .i64 f, .slice A len cap]
    have bel := bel_alloc w (.cells #[.int .i64 wt, .int .u32 s, .int .u32 d, .int .u16 a, .int .u16 b, .int .i64 f, .slice A len cap] 73)
    generalize w.alloc (.cells #[.int .i64 wt, .int .u32 s, .int .u32 d, .int .u16 a, .int .u16 b, .int .i64 f, .slice A len cap] 73) = W at *
    have q0 := bn.cell 0
    have q1 := bn.cell 1
    have q2 := bn.cell 2
    have q3 := bn.cell 3
    have q4 := bn.cell 4
    have q5 := bn.cell 5
    have q6 := bn.cell 6
    go_wp2_with fail
    refine (rEcho_any false a L A m cap _ W (hrd.out _ bel) (Nat.le_refl _) (by omega) hcm ha).mono ?_
    rintro e w2 ⟨v2, rfl, own2, bel2⟩
    have own3 := own2.mono_ bel.size
    clear own2
    replace bel := bel_after bel bel2
    clear bel2 q0 q1 q2 q3 q4 q5 q6 bn
    go_wp2
    exact bodyPost_ret (v := .tuple #[v2, .int .i64 1]) (by simp [results, Tryz.results54, go_sem]) rfl ⟨_, rfl, own3, bel⟩
  · show Calls _ _ _ _ (CarRes w 1 (echoL true a L))
    go_enter Tryz.func54, Tryz.ntmps54
    go_upto_region 1 with fail
    have bn := Blk.new w 73 #[.int .i64 wt, .int .u32 s, .int .u32 d, .int .u16 a, .int .u16 b, .int .i64 f, .slice A len cap]
    have bel := bel_alloc w (.cells #[.int .i64 wt, .int .u32 s, .int .u32 d, .int .u16 a, .int .u16 b, .int .i64 f, .slice A len cap] 73)
    generalize w.alloc (.cells #[.int .i64 wt, .int .u32 s, .int .u32 d, .int .u16 a, .int .u16 b, .int .i64 f, .slice A len cap] 73) = W at *
    have q0 := bn.cell 0
    have q1 := bn.cell 1
    have q2 := bn.cell 2
    have q3 := bn.cell 3
    have q4 := bn.cell 4
    have q5 := bn.cell 5
    have q6 := bn.cell 6
    go_wp2_with fail
    refine (rEcho_any true a L A m cap _ W (hrd.out _ bel) (Nat.le_refl _) (by omega) hcm ha).mono ?_
    rintro e w2 ⟨v2, rfl, own2, bel2⟩
    have own3 := own2.mono_ bel.size
    clear own2
    replace bel := bel_after bel bel2
    clear bel2 q0 q1 q2 q3 q4 q5 q6 bn
    go_wp2
    exact bodyPost_ret (v := .tuple #[v2, .int .i64 1]) (by simp [results, Tryz.results54, go_sem]) rfl ⟨_, rfl, own3, bel⟩
  · show Calls _ _ _ _ (CarRes w 1 (faultL 3 (f.tmod 16) (putL 9 17 d s (udpL d s b a L))))
    have hl1 : (udpL d s b a L).length = 8 + m := by rw [udpL_len, few_short (by rw [hL40.out]; omega), hL40.out]
    have hl2 : (putL 9 17 d s (udpL d s b a L)).length = 28 + m := by rw [put_len, hl1]; omega
    replace hl1 := Lib.hid hl1
    replace hl2 := Lib.hid hl2
    go_enter Tryz.func54, Tryz.ntmps54
    go_upto_region 1 with fail
    have bn := Blk.new w 73 #[.int .i64 wt, .int .u32 s, .int .u32 d, .int .u16 a, .int .u16 b, .int .i64 f, .slice A len cap]
    have bel := bel_alloc w (.cells #[.int .i64 wt, .int .u32 s, .int .u32 d, .int .u16 a, .int .u16 b, .int .i64 f, .slice A len cap] 73)
    generalize w.alloc (.cells #[.int .i64 wt, .int .u32 s, .int .u32 d, .int .u16 a, .int .u16 b, .int .i64 f, .slice A len cap] 73) = W at *
    have q0 := bn.cell 0
    have q1 := bn.cell 1
    have q2 := bn.cell 2
    have q3 := bn.cell 3
    have q4 := bn.cell 4
    have q5 := bn.cell 5
    have q6 := bn.cell 6
    go_upto_region 12 with fail
    clear q0 q1 q2 q3 q4 q5 q6
    have z1 : ∀ t : Tw (fun w' => Blk w' w.heap.size 73 #[.int .i64 wt, .int .u32 s, .int .u32 d, .int .u16 a, .int .u16 b, .int .i64 f, .slice A len cap]), t.w.cell? ⟨w.heap.size, 1, none⟩ = some (.int .u32 s) := fun t => t.h.cell 1
    have z2 : ∀ t : Tw (fun w' => Blk w' w.heap.size 73 #[.int .i64 wt, .int .u32 s, .int .u32 d, .int .u16 a, .int .u16 b, .int .i64 f, .slice A len cap]), t.w.cell? ⟨w.heap.size, 2, none⟩ = some (.int .u32 d) := fun t => t.h.cell 2
    have z3 : ∀ t : Tw (fun w' => Blk w' w.heap.size 73 #[.int .i64 wt, .int .u32 s, .int .u32 d, .int .u16 a, .int .u16 b, .int .i64 f, .slice A len cap]), t.w.cell? ⟨w.heap.size, 3, none⟩ = some (.int .u16 a) := fun t => t.h.cell 3
    have z4 : ∀ t : Tw (fun w' => Blk w' w.heap.size 73 #[.int .i64 wt, .int .u32 s, .int .u32 d, .int .u16 a, .int .u16 b, .int .i64 f, .slice A len cap]), t.w.cell? ⟨w.heap.size, 4, none⟩ = some (.int .u16 b) := fun t => t.h.cell 4
    have : Nonempty (Tw (fun w' => Blk w' w.heap.size 73 #[.int .i64 wt, .int .u32 s, .int .u32 d, .int .u16 a, .int .u16 b, .int .i64 f, .slice A len cap])) := ⟨⟨_, bn⟩⟩
    refine wp_region_plan (fun w' => Blk w' w.heap.size 73 #[.int .i64 wt, .int .u32 s, .int .u32 d, .int .u16 a, .int .u16 b, .int .i64 f, .slice A len cap]) [(0, true), (1, true), (2, true), (3, true), (4, true), (5, true), (6, true), (7, true), (8, true), (9, true), (10, true), (11, true), (12, true), (13, true), (14, false), (15, false), (16, true), (17, true), (18, true), (19, true), (20, true)] (by kernel_rfl) (by kernel_rfl) (by kernel_rfl) (by kernel_rfl) bn.drew ?_
    replace bn := bn.drew
    replace bel := bel.drew
    generalize W.drew = W1 at *
    refine wpPl_qs 14 _ _ _ (by kernel_rfl) (by kernel_rfl) (by simp) ?_
    unfold clsS
    simp only [List.take_succ_cons, List.take_zero, List.drop_succ_cons, List.drop_zero, List.filterMap_cons, List.filterMap_nil, List.getElem?_toArray, List.getElem?_cons_zero, List.getElem?_cons_succ]
    repeat (first
      | go_big_quiet_skip
      | (go_big_quiet_want; go_big_quiet_op; go_big_quiet_on)
      | (refine id (?_ : wpQuiet _ _ _ _ (_ :: _) _); first | go_big_quiet_skip | (go_big_quiet_want; go_big_quiet_op; go_big_quiet_on)))
    refine wpQuiet_nil ?_
    refine wpPl_e _ (by rfl) (by kernel_rfl) (fun K hK => ?_)
    go_simp
    refine (rUdp_any d s b a L A m cap _ W1 (hrd.out _ bel) (Nat.le_refl _) (by omega) hcm hd hs hb ha).mono ?_
    rintro e w2 ⟨v2, rfl, own2, bel2⟩
    replace own2 := own2.mono_ bel.size
    replace bn := bn.bel bel2
    replace bel := bel_after bel bel2
    clear bel2
    refine hK _ _ bn ?_
    clear hK K
    obtain ⟨A2, c2, rfl, hc1, hc2, rd2⟩ := own2.form hl1.out
    unfold maxLen at hc2
    clear own2
    refine wpPl_e _ (by rfl) (by kernel_rfl) (fun K hK => ?_)
    go_simp
    refine (rPut_any 0 0 9 17 d s _ A2 _ c2 _ w2 rd2 (Nat.le_refl _) (by omega) (by omega) hd hs (by omega)).mono ?_
    rintro e w3 ⟨v3, rfl, own3, bel3⟩
    replace own3 := own3.mono_ bel.size
    replace bn := bn.bel bel3
    replace bel := bel_after bel bel3
    clear bel3 rd2
    refine hK _ _ bn ?_
    clear hK K
    refine wpPl_qs 5 _ _ _ (by kernel_rfl) (by kernel_rfl) (by simp) ?_
    unfold clsS
    simp only [List.take_succ_cons, List.take_zero, List.drop_succ_cons, List.drop_zero, List.filterMap_cons, List.filterMap_nil, List.getElem?_toArray, List.getElem?_cons_zero, List.getElem?_cons_succ]
    repeat (first
      | go_big_quiet_skip
      | (go_big_quiet_want; go_big_quiet_op; go_big_quiet_on)
      | (refine id (?_ : wpQuiet _ _ _ _ (_ :: _) _); first | go_big_quiet_skip | (go_big_quiet_want; go_big_quiet_op; go_big_quiet_on)))
    refine wpQuiet_nil ?_
    unfold wpPl
    refine NoPanic.normal ?_
    clear z1 z2 z3 z4 this
    have q5 := bn.cell 5
    obtain ⟨A3, c3, rfl, hc3, hc4, rd3⟩ := own3.form hl2.out
    unfold maxLen at hc4
    clear own3
    go_wp2_with fail
    refine (rFault_any 3 (f.tmod 16) _ A3 _ c3 _ w3 rd3 (Nat.le_refl _) hc3 (by omega)).mono ?_
    rintro e w2 ⟨v2, rfl, own2, bel2⟩
    have own3 := own2.mono_ bel.size
    clear own2
    replace bel := bel_after bel bel2
    clear bel2 q5 bn
    go_wp2
    exact bodyPost_ret (v := .tuple #[v2, .int .i64 1]) (by simp [results, Tryz.results54, go_sem]) rfl ⟨_, rfl, own3, bel⟩
  · show Calls _ _ _ _ (CarRes w 1 (faultL 11 0 ((putL 9 6 d s (tcpL d s b a 2 L)).take (28 + L.length / 2))))
    have hl1 : (tcpL d s b a 2 L).length = 20 + m := by rw [tcpL_len, few_short (by rw [hL40.out]; omega), hL40.out]
    have hl2 : (putL 9 6 d s (tcpL d s b a 2 L)).length = 40 + m := by rw [put_len, hl1]; omega
    rw [hL40.out]
    replace hl1 := Lib.hid hl1
    replace hl2 := Lib.hid hl2
    obtain ⟨n, hn⟩ : ∃ n : Nat, n = 28 + m / 2 := ⟨_, rfl⟩
    rw [← hn]
    have hn1 : n ≤ 40 + m := by omega
    have hn2 : 28 + (m : Int) / 2 = (n : Int) := by omega
    have hn4 : (n : Int) ≤ 80 := by omega
    clear hn
    go_enter Tryz.func54, Tryz.ntmps54
    go_upto_region 1 with fail
    have bn := Blk.new w 73 #[.int .i64 wt, .int .u32 s, .int .u32 d, .int .u16 a, .int .u16 b, .int .i64 f, .slice A len cap]
    have bel := bel_alloc w (.cells #[.int .i64 wt, .int .u32 s, .int .u32 d, .int .u16 a, .int .u16 b, .int .i64 f, .slice A len cap] 73)
    generalize w.alloc (.cells #[.int .i64 wt, .int .u32 s, .int .u32 d, .int .u16 a, .int .u16 b, .int .i64 f, .slice A len cap] 73) = W at *
    have q0 := bn.cell 0
    have q1 := bn.cell 1
    have q2 := bn.cell 2
    have q3 := bn.cell 3
    have q4 := bn.cell 4
    have q5 := bn.cell 5
    have q6 := bn.cell 6
    go_upto_region 15 with fail
    clear q0 q1 q2 q3 q4 q5 q6
    have z1 : ∀ t : Tw (fun w' => Blk w' w.heap.size 73 #[.int .i64 wt, .int .u32 s, .int .u32 d, .int .u16 a, .int .u16 b, .int .i64 f, .slice A len cap]), t.w.cell? ⟨w.heap.size, 1, none⟩ = some (.int .u32 s) := fun t => t.h.cell 1
    have z2 : ∀ t : Tw (fun w' => Blk w' w.heap.size 73 #[.int .i64 wt, .int .u32 s, .int .u32 d, .int .u16 a, .int .u16 b, .int .i64 f, .slice A len cap]), t.w.cell? ⟨w.heap.size, 2, none⟩ = some (.int .u32 d) := fun t => t.h.cell 2
    have z3 : ∀ t : Tw (fun w' => Blk w' w.heap.size 73 #[.int .i64 wt, .int .u32 s, .int .u32 d, .int .u16 a, .int .u16 b, .int .i64 f, .slice A len cap]), t.w.cell? ⟨w.heap.size, 3, none⟩ = some (.int .u16 a) := fun t => t.h.cell 3
    have z4 : ∀ t : Tw (fun w' => Blk w' w.heap.size 73 #[.int .i64 wt, .int .u32 s, .int .u32 d, .int .u16 a, .int .u16 b, .int .i64 f, .slice A len cap]), t.w.cell? ⟨w.heap.size, 4, none⟩ = some (.int .u16 b) := fun t => t.h.cell 4
    have : Nonempty (Tw (fun w' => Blk w' w.heap.size 73 #[.int .i64 wt, .int .u32 s, .int .u32 d, .int .u16 a, .int .u16 b, .int .i64 f, .slice A len cap])) := ⟨⟨_, bn⟩⟩
    refine wp_region_plan (fun w' => Blk w' w.heap.size 73 #[.int .i64 wt, .int .u32 s, .int .u32 d, .int .u16 a, .int .u16 b, .int .i64 f, .slice A len cap]) [(0, true), (1, true), (2, true), (3, true), (4, true), (5, true), (6, true), (7, true), (8, true), (9, true), (10, true), (11, true), (12, true), (13, true), (14, false), (15, false), (16, true), (17, true), (18, true), (19, true), (20, true)] (by kernel_rfl) (by kernel_rfl) (by kernel_rfl) (by kernel_rfl) bn.drew ?_
    replace bn := bn.drew
    replace bel := bel.drew
    generalize W.drew = W1 at *
    refine wpPl_qs 14 _ _ _ (by kernel_rfl) (by kernel_rfl) (by simp) ?_
    unfold clsS
    simp only [List.take_succ_cons, List.take_zero, List.drop_succ_cons, List.drop_zero, List.filterMap_cons, List.filterMap_nil, List.getElem?_toArray, List.getElem?_cons_zero, List.getElem?_cons_succ]
    repeat (first
      | go_big_quiet_skip
      | (go_big_quiet_want; go_big_quiet_op; go_big_quiet_on)
      | (refine id (?_ : wpQuiet _ _ _ _ (_ :: _) _); first | go_big_quiet_skip | (go_big_quiet_want; go_big_quiet_op; go_big_quiet_on)))
    refine wpQuiet_nil ?_
    refine wpPl_e _ (by rfl) (by kernel_rfl) (fun K hK => ?_)
    go_simp
    refine (rTcp_any d s b a 2 L A m cap _ W1 (hrd.out _ bel) (Nat.le_refl _) (by omega) hcm hd hs hb ha).mono ?_
    rintro e w2 ⟨v2, rfl, own2, bel2⟩
    replace own2 := own2.mono_ bel.size
    replace bn := bn.bel bel2
    replace bel := bel_after bel bel2
    clear bel2
    refine hK _ _ bn ?_
    clear hK K
    obtain ⟨A2, c2, rfl, hc1, hc2, rd2⟩ := own2.form hl1.out
    unfold maxLen at hc2
    clear own2
    refine wpPl_e _ (by rfl) (by kernel_rfl) (fun K hK => ?_)
    go_simp
    refine (rPut_any 0 0 9 6 d s _ A2 _ c2 _ w2 rd2 (Nat.le_refl _) (by omega) (by omega) hd hs (by omega)).mono ?_
    rintro e w3 ⟨v3, rfl, own3, bel3⟩
    replace own3 := own3.mono_ bel.size
    replace bn := bn.bel bel3
    replace bel := bel_after bel bel3
    clear bel3 rd2
    refine hK _ _ bn ?_
    clear hK K
    refine wpPl_qs 5 _ _ _ (by kernel_rfl) (by kernel_rfl) (by simp) ?_
    unfold clsS
    simp only [List.take_succ_cons, List.take_zero, List.drop_succ_cons, List.drop_zero, List.filterMap_cons, List.filterMap_nil, List.getElem?_toArray, List.getElem?_cons_zero, List.getElem?_cons_succ]
    repeat (first
      | go_big_quiet_skip
      | (go_big_quiet_want; go_big_quiet_op; go_big_quiet_on)
      | (refine id (?_ : wpQuiet _ _ _ _ (_ :: _) _); first | go_big_quiet_skip | (go_big_quiet_want; go_big_quiet_op; go_big_quiet_on)))
    refine wpQuiet_nil ?_
    unfold wpPl
    refine NoPanic.normal ?_
    clear z1 z2 z3 z4 this
    have q5 := bn.cell 5
    obtain ⟨A3, c3, rfl, hc3, hc4, rd3⟩ := own3.form hl2.out
    unfold maxLen at hc4
    clear own3
    go_wp2_with fail
    refine (rFault_any 11 0 _ A3 _ c3 _ w3 (rd3.take hn1) (Nat.le_refl _) (by omega) (by omega)).mono ?_
    rintro e w2 ⟨v2, rfl, own2, bel2⟩
    have own3 := own2.mono_ bel.size
    clear own2
    replace bel := bel_after bel bel2
    clear bel2 q5 bn
    go_wp2
    exact bodyPost_ret (v := .tuple #[v2, .int .i64 1]) (by simp [results, Tryz.results54, go_sem]) rfl ⟨_, rfl, own3, bel⟩
  · show Calls _ _ _ _ (CarRes w 1 (faultL 3 1 (putL 9 1 d s (echoL false b L))))
    have hl1 : (echoL false b L).length = 8 + m := by rw [echoL_len, few_short (by rw [hL40.out]; omega), hL40.out]
    have hl2 : (putL 9 1 d s (echoL false b L)).length = 28 + m := by rw [put_len, hl1]; omega
    replace hl1 := Lib.hid hl1
    replace hl2 := Lib.hid hl2
    go_enter Tryz.func54, Tryz.ntmps54
    go_upto_region 1 with fail
    have bn := Blk.new w 73 #[.int .i64 wt, .int .u32 s, .int .u32 d, .int .u16 a, .int .u16 b, .int .i64 f, .slice A len cap]
    have bel := bel_alloc w (.cells #[.int .i64 wt, .int .u32 s, .int .u32 d, .int .u16 a, .int .u16 b, .int .i64 f, .slice A len cap] 73)
    generalize w.alloc (.cells #[.int .i64 wt, .int .u32 s, .int .u32 d, .int .u16 a, .int .u16 b, .int .i64 f, .slice A len cap] 73) = W at *
    have q0 := bn.cell 0
    have q1 := bn.cell 1
    have q2 := bn.cell 2
    have q3 := bn.cell 3
    have q4 := bn.cell 4
    have q5 := bn.cell 5
    have q6 := bn.cell 6
    go_upto_region 17 with fail
    clear q0 q1 q2 q3 q4 q5 q6
    have z1 : ∀ t : Tw (fun w' => Blk w' w.heap.size 73 #[.int .i64 wt, .int .u32 s, .int .u32 d, .int .u16 a, .int .u16 b, .int .i64 f, .slice A len cap]), t.w.cell? ⟨w.heap.size, 1, none⟩ = some (.int .u32 s) := fun t => t.h.cell 1
    have z2 : ∀ t : Tw (fun w' => Blk w' w.heap.size 73 #[.int .i64 wt, .int .u32 s, .int .u32 d, .int .u16 a, .int .u16 b, .int .i64 f, .slice A len cap]), t.w.cell? ⟨w.heap.size, 2, none⟩ = some (.int .u32 d) := fun t => t.h.cell 2
    have z3 : ∀ t : Tw (fun w' => Blk w' w.heap.size 73 #[.int .i64 wt, .int .u32 s, .int .u32 d, .int .u16 a, .int .u16 b, .int .i64 f, .slice A len cap]), t.w.cell? ⟨w.heap.size, 3, none⟩ = some (.int .u16 a) := fun t => t.h.cell 3
    have z4 : ∀ t : Tw (fun w' => Blk w' w.heap.size 73 #[.int .i64 wt, .int .u32 s, .int .u32 d, .int .u16 a, .int .u16 b, .int .i64 f, .slice A len cap]), t.w.cell? ⟨w.heap.size, 4, none⟩ = some (.int .u16 b) := fun t => t.h.cell 4
    have : Nonempty (Tw (fun w' => Blk w' w.heap.size 73 #[.int .i64 wt, .int .u32 s, .int .u32 d, .int .u16 a, .int .u16 b, .int .i64 f, .slice A len cap])) := ⟨⟨_, bn⟩⟩
    refine wp_region_plan (fun w' => Blk w' w.heap.size 73 #[.int .i64 wt, .int .u32 s, .int .u32 d, .int .u16 a, .int .u16 b, .int .i64 f, .slice A len cap]) [(0, true), (1, true), (2, true), (3, true), (4, true), (5, true), (6, true), (7, true), (8, false), (9, false), (10, true), (11, true), (12, true), (13, true), (14, true)] (by kernel_rfl) (by kernel_rfl) (by kernel_rfl) (by kernel_rfl) bn.drew ?_
    replace bn := bn.drew
    replace bel := bel.drew
    generalize W.drew = W1 at *
    refine wpPl_qs 8 _ _ _ (by kernel_rfl) (by kernel_rfl) (by simp) ?_
    unfold clsS
    simp only [List.take_succ_cons, List.take_zero, List.drop_succ_cons, List.drop_zero, List.filterMap_cons, List.filterMap_nil, List.getElem?_toArray, List.getElem?_cons_zero, List.getElem?_cons_succ]
    repeat (first
      | go_big_quiet_skip
      | (go_big_quiet_want; go_big_quiet_op; go_big_quiet_on)
      | (refine id (?_ : wpQuiet _ _ _ _ (_ :: _) _); first | go_big_quiet_skip | (go_big_quiet_want; go_big_quiet_op; go_big_quiet_on)))
    refine wpQuiet_nil ?_
    refine wpPl_e _ (by rfl) (by kernel_rfl) (fun K hK => ?_)
    go_simp
    refine (rEcho_any false b L A m cap _ W1 (hrd.out _ bel) (Nat.le_refl _) (by omega) hcm hb).mono ?_
    rintro e w2 ⟨v2, rfl, own2, bel2⟩
    replace own2 := own2.mono_ bel.size
    replace bn := bn.bel bel2
    replace bel := bel_after bel bel2
    clear bel2
    refine hK _ _ bn ?_
    clear hK K
    obtain ⟨A2, c2, rfl, hc1, hc2, rd2⟩ := own2.form hl1.out
    unfold maxLen at hc2
    clear own2
    refine wpPl_e _ (by rfl) (by kernel_rfl) (fun K hK => ?_)
    go_simp
    refine (rPut_any 0 0 9 1 d s _ A2 _ c2 _ w2 rd2 (Nat.le_refl _) (by omega) (by omega) hd hs (by omega)).mono ?_
    rintro e w3 ⟨v3, rfl, own3, bel3⟩
    replace own3 := own3.mono_ bel.size
    replace bn := bn.bel bel3
    replace bel := bel_after bel bel3
    clear bel3 rd2
    refine hK _ _ bn ?_
    clear hK K
    refine wpPl_qs 5 _ _ _ (by kernel_rfl) (by kernel_rfl) (by simp) ?_
    unfold clsS
    simp only [List.take_succ_cons, List.take_zero, List.drop_succ_cons, List.drop_zero, List.filterMap_cons, List.filterMap_nil, List.getElem?_toArray, List.getElem?_cons_zero, List.getElem?_cons_succ]
    repeat (first
      | go_big_quiet_skip
      | (go_big_quiet_want; go_big_quiet_op; go_big_quiet_on)
      | (refine id (?_ : wpQuiet _ _ _ _ (_ :: _) _); first | go_big_quiet_skip | (go_big_quiet_want; go_big_quiet_op; go_big_quiet_on)))
    refine wpQuiet_nil ?_
    unfold wpPl
    refine NoPanic.normal ?_
    clear z1 z2 z3 z4 this
    have q5 := bn.cell 5
    obtain ⟨A3, c3, rfl, hc3, hc4, rd3⟩ := own3.form hl2.out
    unfold maxLen at hc4
    clear own3
    go_wp2_with fail
    refine (rFault_any 3 1 _ A3 _ c3 _ w3 rd3 (Nat.le_refl _) hc3 (by omega)).mono ?_
    rintro e w2 ⟨v2, rfl, own2, bel2⟩
    have own3 := own2.mono_ bel.size
    clear own2
    replace bel := bel_after bel bel2
    clear bel2 q5 bn
    go_wp2
    exact bodyPost_ret (v := .tuple #[v2, .int .i64 1]) (by simp [results, Tryz.results54, go_sem]) rfl ⟨_, rfl, own3, bel⟩
end Go.Proofs.YtbckoohljkmahaaGreat
