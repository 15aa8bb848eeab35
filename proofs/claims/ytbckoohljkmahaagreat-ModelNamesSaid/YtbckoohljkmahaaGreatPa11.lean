/- What the laws' proofs lean on: plain facts and contracts of the program's functions, laid together (11). -/
import Derived.Test.YtbckoohljkmahaaGreatPa10
namespace Go.Proofs.YtbckoohljkmahaaGreat
set_option linter.unusedVariables false
set_option linter.unusedSimpArgs false
open Go.RowKit
theorem n2_zero {l : List Int} {i : Nat} (hl : ∀ x, x ∈ l → 0 ≤ x ∧ x ≤ 255) (h : i + 2 ≤ l.length) : n2 l i = 0 ↔ l.getD i 0 = 0 ∧ l.getD (i + 1) 0 = 0 := by
  rw [n2_eq l i h]
  have h1 := hl (l.getD i 0) (by rw [List.getD_eq_getElem?_getD, List.getElem?_eq_getElem (by omega)]; exact List.getElem_mem _)
  have h2 := hl (l.getD (i + 1) 0) (by rw [List.getD_eq_getElem?_getD, List.getElem?_eq_getElem (by omega)]; exact List.getElem_mem _)
  omega
set_option maxRecDepth 100000 in
set_option maxHeartbeats 4000000 in
theorem rPGet_udp (m n : Nat) (h2 h4 h5 : Int) (l : List Int) (A : Option Addr) (b o len c : Nat) (w : World) (hlc : len ≤ c) (hcm : c ≤ 9223372036854775807) (hl : len ≤ 60000) (hm1 : 20 ≤ m) (hm2 : m ≤ 60) (hm3 : m ≤ n) (hm4 : n ≤ len) (hA2 : (if c = m then some ⟨b, o, none⟩ else some ⟨b, o + m, none⟩) = A) (hr : Rd .u8 w w.heap.size A (n - m) l) (hs : 0 ≤ h4 ∧ h4 ≤ 4294967295) (hd : 0 ≤ h5 ∧ h5 ≤ 4294967295) :
    Calls Tryz.prog 43 #[(⟨(m : Int), (n : Int), h2, 17, h4, h5⟩ : Hd).val, .slice (some ⟨b, o, none⟩) len c] w (Tells w (udpR ⟨(m : Int), (n : Int), h2, 17, h4, h5⟩ l)) := by
  have hcs := udpR_cases ⟨(m : Int), (n : Int), h2, 17, h4, h5⟩ l
  rw [hr.len] at hcs
  generalize udpR ⟨(m : Int), (n : Int), h2, 17, h4, h5⟩ l = R at *
  unfold Hd.val Tells
  simp only at hcs ⊢
  have d1 : decide ((m : Int) < 20) = false := by simp; omega
  have d2 : decide (60 < (m : Int)) = false := by simp; omega
  rcases hcs with ⟨hlt, rfl⟩ | hcs
  · have d3 : decide (n - m < 8) = true := by simpa using hlt
    have d4 : decide (((n - m : Nat) : Int) < 8) = true := by simp; omega
    clear hr
    go_enter Tryz.func43, Tryz.ntmps43
    go_upto_region 1 with fail
    have bh := (Blk.new w 67 #[.int .i64 (m : Int), .int .i64 (n : Int), .int .i64 h2, .int .i64 17, .int .u32 h4, .int .u32 h5]).alloc (.cells #[.int .i64 0, .int .u16 0, .int .u16 0, .int .i64 0, .int .i64 0, .int .i64 0, .bool false, .int .i64 0, .int .i64 0, .int .i64 0, .int .i64 0, .int .u32 0, .int .u32 0, .int .i64 0, .bool false] 69)
    have bk := Blk.new (w.alloc (.cells #[.int .i64 (m : Int), .int .i64 (n : Int), .int .i64 h2, .int .i64 17, .int .u32 h4, .int .u32 h5] 67)) 69 #[.int .i64 0, .int .u16 0, .int .u16 0, .int .i64 0, .int .i64 0, .int .i64 0, .bool false, .int .i64 0, .int .i64 0, .int .i64 0, .int .i64 0, .int .u32 0, .int .u32 0, .int .i64 0, .bool false]
    rw [show (w.alloc (.cells #[.int .i64 (m : Int), .int .i64 (n : Int), .int .i64 h2, .int .i64 17, .int .u32 h4, .int .u32 h5] 67)).heap.size = w.heap.size + 1 by simp] at bk
    have bel : Below w.heap.size w ((w.alloc (.cells #[.int .i64 (m : Int), .int .i64 (n : Int), .int .i64 h2, .int .i64 17, .int .u32 h4, .int .u32 h5] 67)).alloc (.cells #[.int .i64 0, .int .u16 0, .int .u16 0, .int .i64 0, .int .i64 0, .int .i64 0, .bool false, .int .i64 0, .int .i64 0, .int .i64 0, .int .i64 0, .int .u32 0, .int .u32 0, .int .i64 0, .bool false] 69)) := (bel_alloc _ _).alloc (by simp) _
    generalize ((w.alloc (.cells #[.int .i64 (m : Int), .int .i64 (n : Int), .int .i64 h2, .int .i64 17, .int .u32 h4, .int .u32 h5] 67)).alloc (.cells #[.int .i64 0, .int .u16 0, .int .u16 0, .int .i64 0, .int .i64 0, .int .i64 0, .bool false, .int .i64 0, .int .i64 0, .int .i64 0, .int .i64 0, .int .u32 0, .int .u32 0, .int .i64 0, .bool false] 69)) = W at *
    have q0 := bh.cell 0
    have q1 := bh.cell 1
    have q3 := bh.cell 3
    go_wp2_with (first | (refine wpList_stRow rfl rfl rfl rfl rfl (Blk.new _ _ _) rpt_size rfl (by simp [Value.oneCell']) ?_; have bp := (Blk.new W 69 #[.int .i64 0, .int .u16 0, .int .u16 0, .int .i64 0, .int .i64 0, .int .i64 0, .bool false, .int .i64 0, .int .i64 0, .int .i64 0, .int .i64 0, .int .u32 0, .int .u32 0, .int .i64 0, .bool false]).setRow #[.int .i64 17, .int .u16 0, .int .u16 0, .int .i64 0, .int .i64 0, .int .i64 0, .bool false, .int .i64 0, .int .i64 0, .int .i64 0, .int .i64 0, .int .u32 0, .int .u32 0, .int .i64 0, .bool false]; have hg3 : w.heap.size + 1 < W.heap.size := bk.lt; replace bk := (bk.alloc (.cells #[.int .i64 0, .int .u16 0, .int .u16 0, .int .i64 0, .int .i64 0, .int .i64 0, .bool false, .int .i64 0, .int .i64 0, .int .i64 0, .int .i64 0, .int .u32 0, .int .u32 0, .int .i64 0, .bool false] 69)).setRow_far (g' := W.heap.size) (by omega) #[.int .i64 17, .int .u16 0, .int .u16 0, .int .i64 0, .int .i64 0, .int .i64 0, .bool false, .int .i64 0, .int .i64 0, .int .i64 0, .int .i64 0, .int .u32 0, .int .u32 0, .int .i64 0, .bool false]; replace bh := (bh.alloc (.cells #[.int .i64 0, .int .u16 0, .int .u16 0, .int .i64 0, .int .i64 0, .int .i64 0, .bool false, .int .i64 0, .int .i64 0, .int .i64 0, .int .i64 0, .int .u32 0, .int .u32 0, .int .i64 0, .bool false] 69)).setRow_far (g' := W.heap.size) (by omega) #[.int .i64 17, .int .u16 0, .int .u16 0, .int .i64 0, .int .i64 0, .int .i64 0, .bool false, .int .i64 0, .int .i64 0, .int .i64 0, .int .i64 0, .int .u32 0, .int .u32 0, .int .i64 0, .bool false]; replace bel := below_setRow (bel.alloc bel.size (.cells #[.int .i64 0, .int .u16 0, .int .u16 0, .int .i64 0, .int .i64 0, .int .i64 0, .bool false, .int .i64 0, .int .i64 0, .int .i64 0, .int .i64 0, .int .u32 0, .int .u32 0, .int .i64 0, .bool false] 69)) bel.size #[.int .i64 17, .int .u16 0, .int .u16 0, .int .i64 0, .int .i64 0, .int .i64 0, .bool false, .int .i64 0, .int .i64 0, .int .i64 0, .int .i64 0, .int .u32 0, .int .u32 0, .int .i64 0, .bool false]; generalize (W.alloc (.cells #[.int .i64 0, .int .u16 0, .int .u16 0, .int .i64 0, .int .i64 0, .int .i64 0, .bool false, .int .i64 0, .int .i64 0, .int .i64 0, .int .i64 0, .int .u32 0, .int .u32 0, .int .i64 0, .bool false] 69)).setRow W.heap.size #[.int .i64 17, .int .u16 0, .int .u16 0, .int .i64 0, .int .i64 0, .int .i64 0, .bool false, .int .i64 0, .int .i64 0, .int .i64 0, .int .i64 0, .int .u32 0, .int .u32 0, .int .i64 0, .bool false] = W1 at *; generalize W.heap.size = g3 at *; have q3 := bh.cell 3) | (refine wpList_stRow rfl rfl rfl rfl rfl bk rpt_size rfl (by simp [Value.oneCell', Pt.z, Hd.z, portsP]) ?_))
    exact bodyPost_ret (results_row2 rfl _ rfl (bk.setRow _) Tryz.underlying69 rpt_size) rfl ⟨rfl, below_setRow bel (by omega) _⟩
  have h8 : 8 ≤ n - m := by rcases hcs with ⟨h, _⟩ | ⟨h, _⟩ | ⟨h, _⟩ | ⟨h, _⟩ <;> exact h
  have hcm1 : (c = m) = False := by simp; omega
  rw [if_neg (by omega)] at hA2
  subst hA2
  have d3 : decide (n - m < 8) = false := by simp; omega
  have d4 : decide (((n - m : Nat) : Int) < 8) = false := by simp; omega
  have hlr : ∀ x, x ∈ l → 0 ≤ x ∧ x ≤ 255 := fun x hx => inr_u8 (hr.rng x hx)
  have hll := hr.len
  have hz6 := n2_zero hlr (i := 6) (by omega)
  have hb0 := n2_bd (i := 0) hlr (by omega)
  have hb2 := n2_bd (i := 2) hlr (by omega)
  have hb4 := n2_bd (i := 4) hlr (by omega)
  have hrd := fun w' (hb : Below w.heap.size w w') => (hr.below hb).more hb.size
  have hn0 := fun w' (hb : Below w.heap.size w w') => Num_any (seg l 0 2) (some ⟨b, o + m, none⟩) 2 (c - m) _ w' (by omega) ((hrd _ hb).sub 0 2 (by omega))
  have hn2 := fun w' (hb : Below w.heap.size w w') => Num_any (seg l 2 2) (some ⟨b, o + m + 2, none⟩) 2 (c - m - 2) _ w' (by omega) ((hrd _ hb).sub 2 2 (by omega))
  have hn4 := fun w' (hb : Below w.heap.size w w') => Num_any (seg l 4 2) (some ⟨b, o + m + 4, none⟩) 2 (c - m - 4) _ w' (by omega) ((hrd _ hb).sub 4 2 (by omega))
  have hps := fun w' (hb : Below w.heap.size w w') => Pseudo_any h4 h5 17 l (some ⟨b, o + m, none⟩) (n - m) (c - m) _ w' (hrd _ hb) (Nat.le_refl _) hs hd (by omega) (by omega)
  have hc6 := fun w' hb => (hrd w' hb).cell 6 (by omega)
  have hc7 := fun w' hb => (hrd w' hb).cell 7 (by omega)
  rw [show numOf (seg l 0 2) = n2 l 0 from rfl] at hn0
  rw [show numOf (seg l 2 2) = n2 l 2 from rfl] at hn2
  rw [show numOf (seg l 4 2) = n2 l 4 from rfl] at hn4
  have hP : ∀ x, (portsP { Pt.z with proto := 17, bare := x } l 0 2).val = .agg #[.int .i64 17, .int .u16 (n2 l 0), .int .u16 (n2 l 2), .int .i64 0, .int .i64 0, .int .i64 0, .bool false, .int .i64 0, .int .i64 0, .int .i64 0, .int .i64 0, .int .u32 0, .int .u32 0, .int .i64 0, .bool x] := fun x => rfl
  obtain ⟨N0, hN0⟩ : ∃ N, N = n2 l 0 := ⟨_, rfl⟩
  obtain ⟨N2, hN2⟩ : ∃ N, N = n2 l 2 := ⟨_, rfl⟩
  obtain ⟨N4, hN4⟩ : ∃ N, N = n2 l 4 := ⟨_, rfl⟩
  obtain ⟨N6, hN6⟩ : ∃ N, N = n2 l 6 := ⟨_, rfl⟩
  obtain ⟨x6, hx6⟩ : ∃ N, N = l.getD 6 0 := ⟨_, rfl⟩
  obtain ⟨x7, hx7⟩ : ∃ N, N = l.getD 7 0 := ⟨_, rfl⟩
  obtain ⟨S, hS⟩ : ∃ N, N = csum h4 h5 17 l := ⟨_, rfl⟩
  rw [← hS] at hcs hps
  rw [← hN0] at hn0 hb0
  rw [← hN2] at hn2 hb2
  rw [← hN4] at hn4 hb4 hcs
  rw [← hN6] at hcs hz6
  rw [← hx6, ← hx7] at hz6
  simp only [← hN0, ← hN2] at hP
  simp only [← hx6] at hc6
  simp only [← hx7] at hc7
  clear hS hN0 hN2 hN4 hN6 hx6 hx7 hlr hll hrd hr
  replace hn0 := Lib.hid hn0
  replace hn2 := Lib.hid hn2
  replace hn4 := Lib.hid hn4
  replace hps := Lib.hid hps
  replace hP := Lib.hid hP
  replace hc6 := Lib.hid hc6
  replace hc7 := Lib.hid hc7
  rcases hcs with ⟨_, hne, rfl⟩ | ⟨_, heq, h6, hc, rfl⟩ | ⟨_, heq, h6, hc, rfl⟩ | ⟨_, heq, h6, rfl⟩
  · have e1 : (N4 != ((n - m : Nat) : Int)) = true := by simpa using hne
    go_enter Tryz.func43, Tryz.ntmps43
    go_upto_region 1 with fail
    have bh := (Blk.new w 67 #[.int .i64 (m : Int), .int .i64 (n : Int), .int .i64 h2, .int .i64 17, .int .u32 h4, .int .u32 h5]).alloc (.cells #[.int .i64 0, .int .u16 0, .int .u16 0, .int .i64 0, .int .i64 0, .int .i64 0, .bool false, .int .i64 0, .int .i64 0, .int .i64 0, .int .i64 0, .int .u32 0, .int .u32 0, .int .i64 0, .bool false] 69)
    have bk := Blk.new (w.alloc (.cells #[.int .i64 (m : Int), .int .i64 (n : Int), .int .i64 h2, .int .i64 17, .int .u32 h4, .int .u32 h5] 67)) 69 #[.int .i64 0, .int .u16 0, .int .u16 0, .int .i64 0, .int .i64 0, .int .i64 0, .bool false, .int .i64 0, .int .i64 0, .int .i64 0, .int .i64 0, .int .u32 0, .int .u32 0, .int .i64 0, .bool false]
    rw [show (w.alloc (.cells #[.int .i64 (m : Int), .int .i64 (n : Int), .int .i64 h2, .int .i64 17, .int .u32 h4, .int .u32 h5] 67)).heap.size = w.heap.size + 1 by simp] at bk
    have bel : Below w.heap.size w ((w.alloc (.cells #[.int .i64 (m : Int), .int .i64 (n : Int), .int .i64 h2, .int .i64 17, .int .u32 h4, .int .u32 h5] 67)).alloc (.cells #[.int .i64 0, .int .u16 0, .int .u16 0, .int .i64 0, .int .i64 0, .int .i64 0, .bool false, .int .i64 0, .int .i64 0, .int .i64 0, .int .i64 0, .int .u32 0, .int .u32 0, .int .i64 0, .bool false] 69)) := (bel_alloc _ _).alloc (by simp) _
    generalize ((w.alloc (.cells #[.int .i64 (m : Int), .int .i64 (n : Int), .int .i64 h2, .int .i64 17, .int .u32 h4, .int .u32 h5] 67)).alloc (.cells #[.int .i64 0, .int .u16 0, .int .u16 0, .int .i64 0, .int .i64 0, .int .i64 0, .bool false, .int .i64 0, .int .i64 0, .int .i64 0, .int .i64 0, .int .u32 0, .int .u32 0, .int .i64 0, .bool false] 69)) = W at *
    have q0 := bh.cell 0
    have q1 := bh.cell 1
    have q3 := bh.cell 3
    go_wp2_with (refine wpList_stRow rfl rfl rfl rfl rfl (Blk.new _ _ _) rpt_size rfl (by simp [Value.oneCell']) ?_; have bp := (Blk.new W 69 #[.int .i64 0, .int .u16 0, .int .u16 0, .int .i64 0, .int .i64 0, .int .i64 0, .bool false, .int .i64 0, .int .i64 0, .int .i64 0, .int .i64 0, .int .u32 0, .int .u32 0, .int .i64 0, .bool false]).setRow #[.int .i64 17, .int .u16 0, .int .u16 0, .int .i64 0, .int .i64 0, .int .i64 0, .bool false, .int .i64 0, .int .i64 0, .int .i64 0, .int .i64 0, .int .u32 0, .int .u32 0, .int .i64 0, .bool false]; have hg3 : w.heap.size + 1 < W.heap.size := bk.lt; replace bk := (bk.alloc (.cells #[.int .i64 0, .int .u16 0, .int .u16 0, .int .i64 0, .int .i64 0, .int .i64 0, .bool false, .int .i64 0, .int .i64 0, .int .i64 0, .int .i64 0, .int .u32 0, .int .u32 0, .int .i64 0, .bool false] 69)).setRow_far (g' := W.heap.size) (by omega) #[.int .i64 17, .int .u16 0, .int .u16 0, .int .i64 0, .int .i64 0, .int .i64 0, .bool false, .int .i64 0, .int .i64 0, .int .i64 0, .int .i64 0, .int .u32 0, .int .u32 0, .int .i64 0, .bool false]; replace bh := (bh.alloc (.cells #[.int .i64 0, .int .u16 0, .int .u16 0, .int .i64 0, .int .i64 0, .int .i64 0, .bool false, .int .i64 0, .int .i64 0, .int .i64 0, .int .i64 0, .int .u32 0, .int .u32 0, .int .i64 0, .bool false] 69)).setRow_far (g' := W.heap.size) (by omega) #[.int .i64 17, .int .u16 0, .int .u16 0, .int .i64 0, .int .i64 0, .int .i64 0, .bool false, .int .i64 0, .int .i64 0, .int .i64 0, .int .i64 0, .int .u32 0, .int .u32 0, .int .i64 0, .bool false]; replace bel := below_setRow (bel.alloc bel.size (.cells #[.int .i64 0, .int .u16 0, .int .u16 0, .int .i64 0, .int .i64 0, .int .i64 0, .bool false, .int .i64 0, .int .i64 0, .int .i64 0, .int .i64 0, .int .u32 0, .int .u32 0, .int .i64 0, .bool false] 69)) bel.size #[.int .i64 17, .int .u16 0, .int .u16 0, .int .i64 0, .int .i64 0, .int .i64 0, .bool false, .int .i64 0, .int .i64 0, .int .i64 0, .int .i64 0, .int .u32 0, .int .u32 0, .int .i64 0, .bool false]; generalize (W.alloc (.cells #[.int .i64 0, .int .u16 0, .int .u16 0, .int .i64 0, .int .i64 0, .int .i64 0, .bool false, .int .i64 0, .int .i64 0, .int .i64 0, .int .i64 0, .int .u32 0, .int .u32 0, .int .i64 0, .bool false] 69)).setRow W.heap.size #[.int .i64 17, .int .u16 0, .int .u16 0, .int .i64 0, .int .i64 0, .int .i64 0, .bool false, .int .i64 0, .int .i64 0, .int .i64 0, .int .i64 0, .int .u32 0, .int .u32 0, .int .i64 0, .bool false] = W1 at *; generalize W.heap.size = g3 at *; have q3 := bh.cell 3)
    refine (hn4.out _ bel).mono ?_
    rintro e w' ⟨rfl, rfl⟩
    go_wp2_with (refine wpList_stRow rfl rfl rfl rfl rfl bk rpt_size rfl (by simp [Value.oneCell', Pt.z, Hd.z, portsP]) ?_)
    exact bodyPost_ret (results_row2 rfl _ rfl (bk.setRow _) Tryz.underlying69 rpt_size) rfl ⟨rfl, below_setRow bel (by omega) _⟩
  · subst heq
    have e3 : (S != 0) = true := by simpa using hc
    by_cases z6 : x6 = 0
    · have e6 : (x6 == 0) = true := by simpa using z6
      have e7 : (x7 == 0) = false := by simp; intro z7; exact h6 (hz6.2 ⟨z6, z7⟩)
      clear hz6 h6 z6
      go_enter Tryz.func43, Tryz.ntmps43
      go_upto_region 1 with fail
      have bh := (Blk.new w 67 #[.int .i64 (m : Int), .int .i64 (n : Int), .int .i64 h2, .int .i64 17, .int .u32 h4, .int .u32 h5]).alloc (.cells #[.int .i64 0, .int .u16 0, .int .u16 0, .int .i64 0, .int .i64 0, .int .i64 0, .bool false, .int .i64 0, .int .i64 0, .int .i64 0, .int .i64 0, .int .u32 0, .int .u32 0, .int .i64 0, .bool false] 69)
      have bk := Blk.new (w.alloc (.cells #[.int .i64 (m : Int), .int .i64 (n : Int), .int .i64 h2, .int .i64 17, .int .u32 h4, .int .u32 h5] 67)) 69 #[.int .i64 0, .int .u16 0, .int .u16 0, .int .i64 0, .int .i64 0, .int .i64 0, .bool false, .int .i64 0, .int .i64 0, .int .i64 0, .int .i64 0, .int .u32 0, .int .u32 0, .int .i64 0, .bool false]
      rw [show (w.alloc (.cells #[.int .i64 (m : Int), .int .i64 (n : Int), .int .i64 h2, .int .i64 17, .int .u32 h4, .int .u32 h5] 67)).heap.size = w.heap.size + 1 by simp] at bk
      have bel : Below w.heap.size w ((w.alloc (.cells #[.int .i64 (m : Int), .int .i64 (n : Int), .int .i64 h2, .int .i64 17, .int .u32 h4, .int .u32 h5] 67)).alloc (.cells #[.int .i64 0, .int .u16 0, .int .u16 0, .int .i64 0, .int .i64 0, .int .i64 0, .bool false, .int .i64 0, .int .i64 0, .int .i64 0, .int .i64 0, .int .u32 0, .int .u32 0, .int .i64 0, .bool false] 69)) := (bel_alloc _ _).alloc (by simp) _
      generalize ((w.alloc (.cells #[.int .i64 (m : Int), .int .i64 (n : Int), .int .i64 h2, .int .i64 17, .int .u32 h4, .int .u32 h5] 67)).alloc (.cells #[.int .i64 0, .int .u16 0, .int .u16 0, .int .i64 0, .int .i64 0, .int .i64 0, .bool false, .int .i64 0, .int .i64 0, .int .i64 0, .int .i64 0, .int .u32 0, .int .u32 0, .int .i64 0, .bool false] 69)) = W at *
      have q0 := bh.cell 0
      have q1 := bh.cell 1
      have q3 := bh.cell 3
      go_wp2_with (refine wpList_stRow rfl rfl rfl rfl rfl (Blk.new _ _ _) rpt_size rfl (by simp [Value.oneCell']) ?_; have bp := (Blk.new W 69 #[.int .i64 0, .int .u16 0, .int .u16 0, .int .i64 0, .int .i64 0, .int .i64 0, .bool false, .int .i64 0, .int .i64 0, .int .i64 0, .int .i64 0, .int .u32 0, .int .u32 0, .int .i64 0, .bool false]).setRow #[.int .i64 17, .int .u16 0, .int .u16 0, .int .i64 0, .int .i64 0, .int .i64 0, .bool false, .int .i64 0, .int .i64 0, .int .i64 0, .int .i64 0, .int .u32 0, .int .u32 0, .int .i64 0, .bool false]; have hg3 : w.heap.size + 1 < W.heap.size := bk.lt; replace bk := (bk.alloc (.cells #[.int .i64 0, .int .u16 0, .int .u16 0, .int .i64 0, .int .i64 0, .int .i64 0, .bool false, .int .i64 0, .int .i64 0, .int .i64 0, .int .i64 0, .int .u32 0, .int .u32 0, .int .i64 0, .bool false] 69)).setRow_far (g' := W.heap.size) (by omega) #[.int .i64 17, .int .u16 0, .int .u16 0, .int .i64 0, .int .i64 0, .int .i64 0, .bool false, .int .i64 0, .int .i64 0, .int .i64 0, .int .i64 0, .int .u32 0, .int .u32 0, .int .i64 0, .bool false]; replace bh := (bh.alloc (.cells #[.int .i64 0, .int .u16 0, .int .u16 0, .int .i64 0, .int .i64 0, .int .i64 0, .bool false, .int .i64 0, .int .i64 0, .int .i64 0, .int .i64 0, .int .u32 0, .int .u32 0, .int .i64 0, .bool false] 69)).setRow_far (g' := W.heap.size) (by omega) #[.int .i64 17, .int .u16 0, .int .u16 0, .int .i64 0, .int .i64 0, .int .i64 0, .bool false, .int .i64 0, .int .i64 0, .int .i64 0, .int .i64 0, .int .u32 0, .int .u32 0, .int .i64 0, .bool false]; replace bel := below_setRow (bel.alloc bel.size (.cells #[.int .i64 0, .int .u16 0, .int .u16 0, .int .i64 0, .int .i64 0, .int .i64 0, .bool false, .int .i64 0, .int .i64 0, .int .i64 0, .int .i64 0, .int .u32 0, .int .u32 0, .int .i64 0, .bool false] 69)) bel.size #[.int .i64 17, .int .u16 0, .int .u16 0, .int .i64 0, .int .i64 0, .int .i64 0, .bool false, .int .i64 0, .int .i64 0, .int .i64 0, .int .i64 0, .int .u32 0, .int .u32 0, .int .i64 0, .bool false]; generalize (W.alloc (.cells #[.int .i64 0, .int .u16 0, .int .u16 0, .int .i64 0, .int .i64 0, .int .i64 0, .bool false, .int .i64 0, .int .i64 0, .int .i64 0, .int .i64 0, .int .u32 0, .int .u32 0, .int .i64 0, .bool false] 69)).setRow W.heap.size #[.int .i64 17, .int .u16 0, .int .u16 0, .int .i64 0, .int .i64 0, .int .i64 0, .bool false, .int .i64 0, .int .i64 0, .int .i64 0, .int .i64 0, .int .u32 0, .int .u32 0, .int .i64 0, .bool false] = W1 at *; generalize W.heap.size = g3 at *; have q3 := bh.cell 3)
      refine (hn4.out _ bel).mono ?_
      rintro e w' ⟨rfl, rfl⟩
      obtain ⟨c6, r6⟩ := hc6.out _ bel
      obtain ⟨c7, r7⟩ := hc7.out _ bel
      replace r6 := inr_u8 r6
      replace r7 := inr_u8 r7
      have q14 := bp.cell 14
      have r14 := bp.frozen 14
      go_upto_region 13 with fail
      clear q14 r14 c6 c7 q0 q1 q3
      replace bh := bh.far (p := ⟨g3, 14, none⟩) (by show w.heap.size ≠ g3; omega) (.bool false)
      replace bk := bk.far (p := ⟨g3, 14, none⟩) (by show w.heap.size + 1 ≠ g3; omega) (.bool false)
      replace bel := bel.setCell (p := ⟨g3, 14, none⟩) (by show w.heap.size ≤ g3; omega) (.bool false)
      replace bp := bp.set_ 14 (.bool false)
      simp only [List.setIfInBounds_toArray, List.set_cons_succ, List.set_cons_zero] at bp
      generalize W1.setCell ⟨g3, 14, none⟩ (.bool false) = W2 at *
      have q14 := bp.cell 14
      have q4 := bh.cell 4
      have q5 := bh.cell 5
      go_wp2_with fail
      refine (hps.out _ bel).mono ?_
      rintro e W3 ⟨rfl, hb⟩
      replace bp := bp.bel hb
      replace bk := bk.bel hb
      replace bh := bh.bel hb
      replace bel := bel_after bel hb
      clear hb q4 q5 q14
      go_wp2_with (refine wpList_stRow rfl rfl rfl rfl rfl bk rpt_size rfl (by simp [Value.oneCell', Pt.z, Hd.z, portsP]) ?_)
      exact bodyPost_ret (results_row2 rfl _ rfl (bk.setRow _) Tryz.underlying69 rpt_size) rfl ⟨rfl, below_setRow bel (by omega) _⟩
    · have e6 : (x6 == 0) = false := by simpa using z6
      clear hz6 h6 z6
      go_enter Tryz.func43, Tryz.ntmps43
      go_upto_region 1 with fail
      have bh := (Blk.new w 67 #[.int .i64 (m : Int), .int .i64 (n : Int), .int .i64 h2, .int .i64 17, .int .u32 h4, .int .u32 h5]).alloc (.cells #[.int .i64 0, .int .u16 0, .int .u16 0, .int .i64 0, .int .i64 0, .int .i64 0, .bool false, .int .i64 0, .int .i64 0, .int .i64 0, .int .i64 0, .int .u32 0, .int .u32 0, .int .i64 0, .bool false] 69)
      have bk := Blk.new (w.alloc (.cells #[.int .i64 (m : Int), .int .i64 (n : Int), .int .i64 h2, .int .i64 17, .int .u32 h4, .int .u32 h5] 67)) 69 #[.int .i64 0, .int .u16 0, .int .u16 0, .int .i64 0, .int .i64 0, .int .i64 0, .bool false, .int .i64 0, .int .i64 0, .int .i64 0, .int .i64 0, .int .u32 0, .int .u32 0, .int .i64 0, .bool false]
      rw [show (w.alloc (.cells #[.int .i64 (m : Int), .int .i64 (n : Int), .int .i64 h2, .int .i64 17, .int .u32 h4, .int .u32 h5] 67)).heap.size = w.heap.size + 1 by simp] at bk
      have bel : Below w.heap.size w ((w.alloc (.cells #[.int .i64 (m : Int), .int .i64 (n : Int), .int .i64 h2, .int .i64 17, .int .u32 h4, .int .u32 h5] 67)).alloc (.cells #[.int .i64 0, .int .u16 0, .int .u16 0, .int .i64 0, .int .i64 0, .int .i64 0, .bool false, .int .i64 0, .int .i64 0, .int .i64 0, .int .i64 0, .int .u32 0, .int .u32 0, .int .i64 0, .bool false] 69)) := (bel_alloc _ _).alloc (by simp) _
      generalize ((w.alloc (.cells #[.int .i64 (m : Int), .int .i64 (n : Int), .int .i64 h2, .int .i64 17, .int .u32 h4, .int .u32 h5] 67)).alloc (.cells #[.int .i64 0, .int .u16 0, .int .u16 0, .int .i64 0, .int .i64 0, .int .i64 0, .bool false, .int .i64 0, .int .i64 0, .int .i64 0, .int .i64 0, .int .u32 0, .int .u32 0, .int .i64 0, .bool false] 69)) = W at *
      have q0 := bh.cell 0
      have q1 := bh.cell 1
      have q3 := bh.cell 3
      go_wp2_with (refine wpList_stRow rfl rfl rfl rfl rfl (Blk.new _ _ _) rpt_size rfl (by simp [Value.oneCell']) ?_; have bp := (Blk.new W 69 #[.int .i64 0, .int .u16 0, .int .u16 0, .int .i64 0, .int .i64 0, .int .i64 0, .bool false, .int .i64 0, .int .i64 0, .int .i64 0, .int .i64 0, .int .u32 0, .int .u32 0, .int .i64 0, .bool false]).setRow #[.int .i64 17, .int .u16 0, .int .u16 0, .int .i64 0, .int .i64 0, .int .i64 0, .bool false, .int .i64 0, .int .i64 0, .int .i64 0, .int .i64 0, .int .u32 0, .int .u32 0, .int .i64 0, .bool false]; have hg3 : w.heap.size + 1 < W.heap.size := bk.lt; replace bk := (bk.alloc (.cells #[.int .i64 0, .int .u16 0, .int .u16 0, .int .i64 0, .int .i64 0, .int .i64 0, .bool false, .int .i64 0, .int .i64 0, .int .i64 0, .int .i64 0, .int .u32 0, .int .u32 0, .int .i64 0, .bool false] 69)).setRow_far (g' := W.heap.size) (by omega) #[.int .i64 17, .int .u16 0, .int .u16 0, .int .i64 0, .int .i64 0, .int .i64 0, .bool false, .int .i64 0, .int .i64 0, .int .i64 0, .int .i64 0, .int .u32 0, .int .u32 0, .int .i64 0, .bool false]; replace bh := (bh.alloc (.cells #[.int .i64 0, .int .u16 0, .int .u16 0, .int .i64 0, .int .i64 0, .int .i64 0, .bool false, .int .i64 0, .int .i64 0, .int .i64 0, .int .i64 0, .int .u32 0, .int .u32 0, .int .i64 0, .bool false] 69)).setRow_far (g' := W.heap.size) (by omega) #[.int .i64 17, .int .u16 0, .int .u16 0, .int .i64 0, .int .i64 0, .int .i64 0, .bool false, .int .i64 0, .int .i64 0, .int .i64 0, .int .i64 0, .int .u32 0, .int .u32 0, .int .i64 0, .bool false]; replace bel := below_setRow (bel.alloc bel.size (.cells #[.int .i64 0, .int .u16 0, .int .u16 0, .int .i64 0, .int .i64 0, .int .i64 0, .bool false, .int .i64 0, .int .i64 0, .int .i64 0, .int .i64 0, .int .u32 0, .int .u32 0, .int .i64 0, .bool false] 69)) bel.size #[.int .i64 17, .int .u16 0, .int .u16 0, .int .i64 0, .int .i64 0, .int .i64 0, .bool false, .int .i64 0, .int .i64 0, .int .i64 0, .int .i64 0, .int .u32 0, .int .u32 0, .int .i64 0, .bool false]; generalize (W.alloc (.cells #[.int .i64 0, .int .u16 0, .int .u16 0, .int .i64 0, .int .i64 0, .int .i64 0, .bool false, .int .i64 0, .int .i64 0, .int .i64 0, .int .i64 0, .int .u32 0, .int .u32 0, .int .i64 0, .bool false] 69)).setRow W.heap.size #[.int .i64 17, .int .u16 0, .int .u16 0, .int .i64 0, .int .i64 0, .int .i64 0, .bool false, .int .i64 0, .int .i64 0, .int .i64 0, .int .i64 0, .int .u32 0, .int .u32 0, .int .i64 0, .bool false] = W1 at *; generalize W.heap.size = g3 at *; have q3 := bh.cell 3)
      refine (hn4.out _ bel).mono ?_
      rintro e w' ⟨rfl, rfl⟩
      obtain ⟨c6, r6⟩ := hc6.out _ bel
      obtain ⟨c7, r7⟩ := hc7.out _ bel
      replace r6 := inr_u8 r6
      replace r7 := inr_u8 r7
      have q14 := bp.cell 14
      have r14 := bp.frozen 14
      go_upto_region 13 with fail
      clear q14 r14 c6 c7 q0 q1 q3
      replace bh := bh.far (p := ⟨g3, 14, none⟩) (by show w.heap.size ≠ g3; omega) (.bool false)
      replace bk := bk.far (p := ⟨g3, 14, none⟩) (by show w.heap.size + 1 ≠ g3; omega) (.bool false)
      replace bel := bel.setCell (p := ⟨g3, 14, none⟩) (by show w.heap.size ≤ g3; omega) (.bool false)
      replace bp := bp.set_ 14 (.bool false)
      simp only [List.setIfInBounds_toArray, List.set_cons_succ, List.set_cons_zero] at bp
      generalize W1.setCell ⟨g3, 14, none⟩ (.bool false) = W2 at *
      have q14 := bp.cell 14
      have q4 := bh.cell 4
      have q5 := bh.cell 5
      go_wp2_with fail
      refine (hps.out _ bel).mono ?_
      rintro e W3 ⟨rfl, hb⟩
      replace bp := bp.bel hb
      replace bk := bk.bel hb
      replace bh := bh.bel hb
      replace bel := bel_after bel hb
      clear hb q4 q5 q14
      go_wp2_with (refine wpList_stRow rfl rfl rfl rfl rfl bk rpt_size rfl (by simp [Value.oneCell', Pt.z, Hd.z, portsP]) ?_)
      exact bodyPost_ret (results_row2 rfl _ rfl (bk.setRow _) Tryz.underlying69 rpt_size) rfl ⟨rfl, below_setRow bel (by omega) _⟩
  · subst heq
    subst hc
    by_cases z6 : x6 = 0
    · have e6 : (x6 == 0) = true := by simpa using z6
      have e7 : (x7 == 0) = false := by simp; intro z7; exact h6 (hz6.2 ⟨z6, z7⟩)
      clear hz6 h6 z6
      go_enter Tryz.func43, Tryz.ntmps43
      go_upto_region 1 with fail
      have bh := (Blk.new w 67 #[.int .i64 (m : Int), .int .i64 (n : Int), .int .i64 h2, .int .i64 17, .int .u32 h4, .int .u32 h5]).alloc (.cells #[.int .i64 0, .int .u16 0, .int .u16 0, .int .i64 0, .int .i64 0, .int .i64 0, .bool false, .int .i64 0, .int .i64 0, .int .i64 0, .int .i64 0, .int .u32 0, .int .u32 0, .int .i64 0, .bool false] 69)
      have bk := Blk.new (w.alloc (.cells #[.int .i64 (m : Int), .int .i64 (n : Int), .int .i64 h2, .int .i64 17, .int .u32 h4, .int .u32 h5] 67)) 69 #[.int .i64 0, .int .u16 0, .int .u16 0, .int .i64 0, .int .i64 0, .int .i64 0, .bool false, .int .i64 0, .int .i64 0, .int .i64 0, .int .i64 0, .int .u32 0, .int .u32 0, .int .i64 0, .bool false]
      rw [show (w.alloc (.cells #[.int .i64 (m : Int), .int .i64 (n : Int), .int .i64 h2, .int .i64 17, .int .u32 h4, .int .u32 h5] 67)).heap.size = w.heap.size + 1 by simp] at bk
      have bel : Below w.heap.size w ((w.alloc (.cells #[.int .i64 (m : Int), .int .i64 (n : Int), .int .i64 h2, .int .i64 17, .int .u32 h4, .int .u32 h5] 67)).alloc (.cells #[.int .i64 0, .int .u16 0, .int .u16 0, .int .i64 0, .int .i64 0, .int .i64 0, .bool false, .int .i64 0, .int .i64 0, .int .i64 0, .int .i64 0, .int .u32 0, .int .u32 0, .int .i64 0, .bool false] 69)) := (bel_alloc _ _).alloc (by simp) _
      generalize ((w.alloc (.cells #[.int .i64 (m : Int), .int .i64 (n : Int), .int .i64 h2, .int .i64 17, .int .u32 h4, .int .u32 h5] 67)).alloc (.cells #[.int .i64 0, .int .u16 0, .int .u16 0, .int .i64 0, .int .i64 0, .int .i64 0, .bool false, .int .i64 0, .int .i64 0, .int .i64 0, .int .i64 0, .int .u32 0, .int .u32 0, .int .i64 0, .bool false] 69)) = W at *
      have q0 := bh.cell 0
      have q1 := bh.cell 1
      have q3 := bh.cell 3
      go_wp2_with (refine wpList_stRow rfl rfl rfl rfl rfl (Blk.new _ _ _) rpt_size rfl (by simp [Value.oneCell']) ?_; have bp := (Blk.new W 69 #[.int .i64 0, .int .u16 0, .int .u16 0, .int .i64 0, .int .i64 0, .int .i64 0, .bool false, .int .i64 0, .int .i64 0, .int .i64 0, .int .i64 0, .int .u32 0, .int .u32 0, .int .i64 0, .bool false]).setRow #[.int .i64 17, .int .u16 0, .int .u16 0, .int .i64 0, .int .i64 0, .int .i64 0, .bool false, .int .i64 0, .int .i64 0, .int .i64 0, .int .i64 0, .int .u32 0, .int .u32 0, .int .i64 0, .bool false]; have hg3 : w.heap.size + 1 < W.heap.size := bk.lt; replace bk := (bk.alloc (.cells #[.int .i64 0, .int .u16 0, .int .u16 0, .int .i64 0, .int .i64 0, .int .i64 0, .bool false, .int .i64 0, .int .i64 0, .int .i64 0, .int .i64 0, .int .u32 0, .int .u32 0, .int .i64 0, .bool false] 69)).setRow_far (g' := W.heap.size) (by omega) #[.int .i64 17, .int .u16 0, .int .u16 0, .int .i64 0, .int .i64 0, .int .i64 0, .bool false, .int .i64 0, .int .i64 0, .int .i64 0, .int .i64 0, .int .u32 0, .int .u32 0, .int .i64 0, .bool false]; replace bh := (bh.alloc (.cells #[.int .i64 0, .int .u16 0, .int .u16 0, .int .i64 0, .int .i64 0, .int .i64 0, .bool false, .int .i64 0, .int .i64 0, .int .i64 0, .int .i64 0, .int .u32 0, .int .u32 0, .int .i64 0, .bool false] 69)).setRow_far (g' := W.heap.size) (by omega) #[.int .i64 17, .int .u16 0, .int .u16 0, .int .i64 0, .int .i64 0, .int .i64 0, .bool false, .int .i64 0, .int .i64 0, .int .i64 0, .int .i64 0, .int .u32 0, .int .u32 0, .int .i64 0, .bool false]; replace bel := below_setRow (bel.alloc bel.size (.cells #[.int .i64 0, .int .u16 0, .int .u16 0, .int .i64 0, .int .i64 0, .int .i64 0, .bool false, .int .i64 0, .int .i64 0, .int .i64 0, .int .i64 0, .int .u32 0, .int .u32 0, .int .i64 0, .bool false] 69)) bel.size #[.int .i64 17, .int .u16 0, .int .u16 0, .int .i64 0, .int .i64 0, .int .i64 0, .bool false, .int .i64 0, .int .i64 0, .int .i64 0, .int .i64 0, .int .u32 0, .int .u32 0, .int .i64 0, .bool false]; generalize (W.alloc (.cells #[.int .i64 0, .int .u16 0, .int .u16 0, .int .i64 0, .int .i64 0, .int .i64 0, .bool false, .int .i64 0, .int .i64 0, .int .i64 0, .int .i64 0, .int .u32 0, .int .u32 0, .int .i64 0, .bool false] 69)).setRow W.heap.size #[.int .i64 17, .int .u16 0, .int .u16 0, .int .i64 0, .int .i64 0, .int .i64 0, .bool false, .int .i64 0, .int .i64 0, .int .i64 0, .int .i64 0, .int .u32 0, .int .u32 0, .int .i64 0, .bool false] = W1 at *; generalize W.heap.size = g3 at *; have q3 := bh.cell 3)
      refine (hn4.out _ bel).mono ?_
      rintro e w' ⟨rfl, rfl⟩
      obtain ⟨c6, r6⟩ := hc6.out _ bel
      obtain ⟨c7, r7⟩ := hc7.out _ bel
      replace r6 := inr_u8 r6
      replace r7 := inr_u8 r7
      have q14 := bp.cell 14
      have r14 := bp.frozen 14
      go_upto_region 13 with fail
      clear q14 r14 c6 c7 q0 q1 q3
      replace bh := bh.far (p := ⟨g3, 14, none⟩) (by show w.heap.size ≠ g3; omega) (.bool false)
      replace bk := bk.far (p := ⟨g3, 14, none⟩) (by show w.heap.size + 1 ≠ g3; omega) (.bool false)
      replace bel := bel.setCell (p := ⟨g3, 14, none⟩) (by show w.heap.size ≤ g3; omega) (.bool false)
      replace bp := bp.set_ 14 (.bool false)
      simp only [List.setIfInBounds_toArray, List.set_cons_succ, List.set_cons_zero] at bp
      generalize W1.setCell ⟨g3, 14, none⟩ (.bool false) = W2 at *
      have q14 := bp.cell 14
      have q4 := bh.cell 4
      have q5 := bh.cell 5
      go_wp2_with fail
      refine (hps.out _ bel).mono ?_
      rintro e W3 ⟨rfl, hb⟩
      replace bp := bp.bel hb
      replace bk := bk.bel hb
      replace bh := bh.bel hb
      replace bel := bel_after bel hb
      clear hb q4 q5 q14
      go_upto_region 26 with fail
      have : Nonempty (Tw (fun w' => Below w.heap.size w w')) := ⟨⟨_, bel⟩⟩
      refine wp_region_plan (fun w' => Below w.heap.size w w') [(0, true), (1, true), (4, true), (5, true), (2, false), (3, true), (8, true), (6, false), (7, true), (9, false), (10, true), (11, false)] (by kernel_rfl) (by kernel_rfl) (by kernel_rfl) (by kernel_rfl) bel.drew ?_
      replace bp := bp.drew
      replace bk := bk.drew
      replace bel := bel.drew
      generalize W3.drew = W8 at *
      refine wpPl_qs 4 _ _ _ (by kernel_rfl) (by kernel_rfl) (by simp) ?_
      unfold clsS
      simp only [List.take_succ_cons, List.take_zero, List.drop_succ_cons, List.drop_zero, List.filterMap_cons, List.filterMap_nil, List.getElem?_toArray, List.getElem?_cons_zero, List.getElem?_cons_succ]
      repeat (first
        | go_big_quiet_skip
        | (go_big_quiet_want; go_big_quiet_op; go_big_quiet_on)
        | (refine id (?_ : wpQuiet _ _ _ _ (_ :: _) _); first | go_big_quiet_skip | (go_big_quiet_want; go_big_quiet_op; go_big_quiet_on)))
      refine wpQuiet_nil ?_
      refine wpPl_e _ (by rfl) (by kernel_rfl) (fun K hK => ?_)
      go_simp
      refine (hn0.out _ bel).mono ?_
      rintro e w1 ⟨rfl, rfl⟩
      refine hK _ _ bel ?_
      clear hK K
      refine wpPl_qs 2 _ _ _ (by kernel_rfl) (by kernel_rfl) (by simp) ?_
      unfold clsS
      simp only [List.take_succ_cons, List.take_zero, List.drop_succ_cons, List.drop_zero, List.filterMap_cons, List.filterMap_nil, List.getElem?_toArray, List.getElem?_cons_zero, List.getElem?_cons_succ]
      repeat (first
        | go_big_quiet_skip
        | (go_big_quiet_want; go_big_quiet_op; go_big_quiet_on)
        | (refine id (?_ : wpQuiet _ _ _ _ (_ :: _) _); first | go_big_quiet_skip | (go_big_quiet_want; go_big_quiet_op; go_big_quiet_on)))
      refine wpQuiet_nil ?_
      refine wpPl_e _ (by rfl) (by kernel_rfl) (fun K hK => ?_)
      go_simp
      refine (hn2.out _ bel).mono ?_
      rintro e w1 ⟨rfl, rfl⟩
      refine hK _ _ bel ?_
      clear hK K
      refine wpPl_qs 1 _ _ _ (by kernel_rfl) (by kernel_rfl) (by simp) ?_
      unfold clsS
      simp only [List.take_succ_cons, List.take_zero, List.drop_succ_cons, List.drop_zero, List.filterMap_cons, List.filterMap_nil, List.getElem?_toArray, List.getElem?_cons_zero, List.getElem?_cons_succ]
      repeat (first
        | go_big_quiet_skip
        | (go_big_quiet_want; go_big_quiet_op; go_big_quiet_on)
        | (refine id (?_ : wpQuiet _ _ _ _ (_ :: _) _); first | go_big_quiet_skip | (go_big_quiet_want; go_big_quiet_op; go_big_quiet_on)))
      refine wpQuiet_nil ?_
      have q1 := bp.cell 1
      have r1 := bp.frozen 1
      refine wpPl_e _ (by rfl) (by kernel_rfl) (fun K hK => ?_)
      go_simp
      replace bk := bk.far (p := ⟨g3, 1, none⟩) (by show w.heap.size + 1 ≠ g3; omega) (.int .u16 N0)
      replace bel := bel.setCell (p := ⟨g3, 1, none⟩) (by show w.heap.size ≤ g3; omega) (.int .u16 N0)
      replace bp := bp.set_ 1 (.int .u16 N0)
      clear q1 r1
      refine hK _ _ bel ?_
      clear hK K
      refine wpPl_qs 1 _ _ _ (by kernel_rfl) (by kernel_rfl) (by simp) ?_
      unfold clsS
      simp only [List.take_succ_cons, List.take_zero, List.drop_succ_cons, List.drop_zero, List.filterMap_cons, List.filterMap_nil, List.getElem?_toArray, List.getElem?_cons_zero, List.getElem?_cons_succ]
      repeat (first
        | go_big_quiet_skip
        | (go_big_quiet_want; go_big_quiet_op; go_big_quiet_on)
        | (refine id (?_ : wpQuiet _ _ _ _ (_ :: _) _); first | go_big_quiet_skip | (go_big_quiet_want; go_big_quiet_op; go_big_quiet_on)))
      refine wpQuiet_nil ?_
      have q2 := bp.cell 2
      have r2 := bp.frozen 2
      refine wpPl_e _ (by rfl) (by kernel_rfl) (fun K hK => ?_)
      go_simp
      replace bk := bk.far (p := ⟨g3, 2, none⟩) (by show w.heap.size + 1 ≠ g3; omega) (.int .u16 N2)
      replace bel := bel.setCell (p := ⟨g3, 2, none⟩) (by show w.heap.size ≤ g3; omega) (.int .u16 N2)
      replace bp := bp.set_ 2 (.int .u16 N2)
      clear q2 r2
      refine hK _ _ bel ?_
      clear hK K
      unfold wpPl
      refine NoPanic.normal ?_
      simp only [List.setIfInBounds_toArray, List.set_cons_succ, List.set_cons_zero] at bp
      generalize ((W8.setCell ⟨g3, 1, none⟩ (.int .u16 N0)).setCell ⟨g3, 2, none⟩ (.int .u16 N2)) = W9 at *
      go_wp2_with (first
        | (refine wpList_ldRow rfl rfl rfl bp Tryz.underlying69 rpt_size ?_)
        | (refine wpList_stRow rfl rfl rfl rfl rfl bk rpt_size rfl (by simp [Value.oneCell']) ?_))
      refine bodyPost_ret (results_row2 rfl _ rfl (bk.setRow _) Tryz.underlying69 rpt_size) rfl ⟨?_, below_setRow bel (by omega) _⟩
      exact congrArg (fun x => Ending.returned (.tuple #[x, .int .i64 0])) (hP.out false).symm
    · have e6 : (x6 == 0) = false := by simpa using z6
      clear hz6 h6 z6
      go_enter Tryz.func43, Tryz.ntmps43
      go_upto_region 1 with fail
      have bh := (Blk.new w 67 #[.int .i64 (m : Int), .int .i64 (n : Int), .int .i64 h2, .int .i64 17, .int .u32 h4, .int .u32 h5]).alloc (.cells #[.int .i64 0, .int .u16 0, .int .u16 0, .int .i64 0, .int .i64 0, .int .i64 0, .bool false, .int .i64 0, .int .i64 0, .int .i64 0, .int .i64 0, .int .u32 0, .int .u32 0, .int .i64 0, .bool false] 69)
      have bk := Blk.new (w.alloc (.cells #[.int .i64 (m : Int), .int .i64 (n : Int), .int .i64 h2, .int .i64 17, .int .u32 h4, .int .u32 h5] 67)) 69 #[.int .i64 0, .int .u16 0, .int .u16 0, .int .i64 0, .int .i64 0, .int .i64 0, .bool false, .int .i64 0, .int .i64 0, .int .i64 0, .int .i64 0, .int .u32 0, .int .u32 0, .int .i64 0, .bool false]
      rw [show (w.alloc (.cells #[.int .i64 (m : Int), .int .i64 (n : Int), .int .i64 h2, .int .i64 17, .int .u32 h4, .int .u32 h5] 67)).heap.size = w.heap.size + 1 by simp] at bk
      have bel : Below w.heap.size w ((w.alloc (.cells #[.int .i64 (m : Int), .int .i64 (n : Int), .int .i64 h2, .int .i64 17, .int .u32 h4, .int .u32 h5] 67)).alloc (.cells #[.int .i64 0, .int .u16 0, .int .u16 0, .int .i64 0, .int .i64 0, .int .i64 0, .bool false, .int .i64 0, .int .i64 0, .int .i64 0, .int .i64 0, .int .u32 0, .int .u32 0, .int .i64 0, .bool false] 69)) := (bel_alloc _ _).alloc (by simp) _
      generalize ((w.alloc (.cells #[.int .i64 (m : Int), .int .i64 (n : Int), .int .i64 h2, .int .i64 17, .int .u32 h4, .int .u32 h5] 67)).alloc (.cells #[.int .i64 0, .int .u16 0, .int .u16 0, .int .i64 0, .int .i64 0, .int .i64 0, .bool false, .int .i64 0, .int .i64 0, .int .i64 0, .int .i64 0, .int .u32 0, .int .u32 0, .int .i64 0, .bool false] 69)) = W at *
      have q0 := bh.cell 0
      have q1 := bh.cell 1
      have q3 := bh.cell 3
      go_wp2_with (refine wpList_stRow rfl rfl rfl rfl rfl (Blk.new _ _ _) rpt_size rfl (by simp [Value.oneCell']) ?_; have bp := (Blk.new W 69 #[.int .i64 0, .int .u16 0, .int .u16 0, .int .i64 0, .int .i64 0, .int .i64 0, .bool false, .int .i64 0, .int .i64 0, .int .i64 0, .int .i64 0, .int .u32 0, .int .u32 0, .int .i64 0, .bool false]).setRow #[.int .i64 17, .int .u16 0, .int .u16 0, .int .i64 0, .int .i64 0, .int .i64 0, .bool false, .int .i64 0, .int .i64 0, .int .i64 0, .int .i64 0, .int .u32 0, .int .u32 0, .int .i64 0, .bool false]; have hg3 : w.heap.size + 1 < W.heap.size := bk.lt; replace bk := (bk.alloc (.cells #[.int .i64 0, .int .u16 0, .int .u16 0, .int .i64 0, .int .i64 0, .int .i64 0, .bool false, .int .i64 0, .int .i64 0, .int .i64 0, .int .i64 0, .int .u32 0, .int .u32 0, .int .i64 0, .bool false] 69)).setRow_far (g' := W.heap.size) (by omega) #[.int .i64 17, .int .u16 0, .int .u16 0, .int .i64 0, .int .i64 0, .int .i64 0, .bool false, .int .i64 0, .int .i64 0, .int .i64 0, .int .i64 0, .int .u32 0, .int .u32 0, .int .i64 0, .bool false]; replace bh := (bh.alloc (.cells #[.int .i64 0, .int .u16 0, .int .u16 0, .int .i64 0, .int .i64 0, .int .i64 0, .bool false, .int .i64 0, .int .i64 0, .int .i64 0, .int .i64 0, .int .u32 0, .int .u32 0, .int .i64 0, .bool false] 69)).setRow_far (g' := W.heap.size) (by omega) #[.int .i64 17, .int .u16 0, .int .u16 0, .int .i64 0, .int .i64 0, .int .i64 0, .bool false, .int .i64 0, .int .i64 0, .int .i64 0, .int .i64 0, .int .u32 0, .int .u32 0, .int .i64 0, .bool false]; replace bel := below_setRow (bel.alloc bel.size (.cells #[.int .i64 0, .int .u16 0, .int .u16 0, .int .i64 0, .int .i64 0, .int .i64 0, .bool false, .int .i64 0, .int .i64 0, .int .i64 0, .int .i64 0, .int .u32 0, .int .u32 0, .int .i64 0, .bool false] 69)) bel.size #[.int .i64 17, .int .u16 0, .int .u16 0, .int .i64 0, .int .i64 0, .int .i64 0, .bool false, .int .i64 0, .int .i64 0, .int .i64 0, .int .i64 0, .int .u32 0, .int .u32 0, .int .i64 0, .bool false]; generalize (W.alloc (.cells #[.int .i64 0, .int .u16 0, .int .u16 0, .int .i64 0, .int .i64 0, .int .i64 0, .bool false, .int .i64 0, .int .i64 0, .int .i64 0, .int .i64 0, .int .u32 0, .int .u32 0, .int .i64 0, .bool false] 69)).setRow W.heap.size #[.int .i64 17, .int .u16 0, .int .u16 0, .int .i64 0, .int .i64 0, .int .i64 0, .bool false, .int .i64 0, .int .i64 0, .int .i64 0, .int .i64 0, .int .u32 0, .int .u32 0, .int .i64 0, .bool false] = W1 at *; generalize W.heap.size = g3 at *; have q3 := bh.cell 3)
      refine (hn4.out _ bel).mono ?_
      rintro e w' ⟨rfl, rfl⟩
      obtain ⟨c6, r6⟩ := hc6.out _ bel
      obtain ⟨c7, r7⟩ := hc7.out _ bel
      replace r6 := inr_u8 r6
      replace r7 := inr_u8 r7
      have q14 := bp.cell 14
      have r14 := bp.frozen 14
      go_upto_region 13 with fail
      clear q14 r14 c6 c7 q0 q1 q3
      replace bh := bh.far (p := ⟨g3, 14, none⟩) (by show w.heap.size ≠ g3; omega) (.bool false)
      replace bk := bk.far (p := ⟨g3, 14, none⟩) (by show w.heap.size + 1 ≠ g3; omega) (.bool false)
      replace bel := bel.setCell (p := ⟨g3, 14, none⟩) (by show w.heap.size ≤ g3; omega) (.bool false)
      replace bp := bp.set_ 14 (.bool false)
      simp only [List.setIfInBounds_toArray, List.set_cons_succ, List.set_cons_zero] at bp
      generalize W1.setCell ⟨g3, 14, none⟩ (.bool false) = W2 at *
      have q14 := bp.cell 14
      have q4 := bh.cell 4
      have q5 := bh.cell 5
      go_wp2_with fail
      refine (hps.out _ bel).mono ?_
      rintro e W3 ⟨rfl, hb⟩
      replace bp := bp.bel hb
      replace bk := bk.bel hb
      replace bh := bh.bel hb
      replace bel := bel_after bel hb
      clear hb q4 q5 q14
      go_upto_region 26 with fail
      have : Nonempty (Tw (fun w' => Below w.heap.size w w')) := ⟨⟨_, bel⟩⟩
      refine wp_region_plan (fun w' => Below w.heap.size w w') [(0, true), (1, true), (4, true), (5, true), (2, false), (3, true), (8, true), (6, false), (7, true), (9, false), (10, true), (11, false)] (by kernel_rfl) (by kernel_rfl) (by kernel_rfl) (by kernel_rfl) bel.drew ?_
      replace bp := bp.drew
      replace bk := bk.drew
      replace bel := bel.drew
      generalize W3.drew = W8 at *
      refine wpPl_qs 4 _ _ _ (by kernel_rfl) (by kernel_rfl) (by simp) ?_
      unfold clsS
      simp only [List.take_succ_cons, List.take_zero, List.drop_succ_cons, List.drop_zero, List.filterMap_cons, List.filterMap_nil, List.getElem?_toArray, List.getElem?_cons_zero, List.getElem?_cons_succ]
      repeat (first
        | go_big_quiet_skip
        | (go_big_quiet_want; go_big_quiet_op; go_big_quiet_on)
        | (refine id (?_ : wpQuiet _ _ _ _ (_ :: _) _); first | go_big_quiet_skip | (go_big_quiet_want; go_big_quiet_op; go_big_quiet_on)))
      refine wpQuiet_nil ?_
      refine wpPl_e _ (by rfl) (by kernel_rfl) (fun K hK => ?_)
      go_simp
      refine (hn0.out _ bel).mono ?_
      rintro e w1 ⟨rfl, rfl⟩
      refine hK _ _ bel ?_
      clear hK K
      refine wpPl_qs 2 _ _ _ (by kernel_rfl) (by kernel_rfl) (by simp) ?_
      unfold clsS
      simp only [List.take_succ_cons, List.take_zero, List.drop_succ_cons, List.drop_zero, List.filterMap_cons, List.filterMap_nil, List.getElem?_toArray, List.getElem?_cons_zero, List.getElem?_cons_succ]
      repeat (first
        | go_big_quiet_skip
        | (go_big_quiet_want; go_big_quiet_op; go_big_quiet_on)
        | (refine id (?_ : wpQuiet _ _ _ _ (_ :: _) _); first | go_big_quiet_skip | (go_big_quiet_want; go_big_quiet_op; go_big_quiet_on)))
      refine wpQuiet_nil ?_
      refine wpPl_e _ (by rfl) (by kernel_rfl) (fun K hK => ?_)
      go_simp
      refine (hn2.out _ bel).mono ?_
      rintro e w1 ⟨rfl, rfl⟩
      refine hK _ _ bel ?_
      clear hK K
      refine wpPl_qs 1 _ _ _ (by kernel_rfl) (by kernel_rfl) (by simp) ?_
      unfold clsS
      simp only [List.take_succ_cons, List.take_zero, List.drop_succ_cons, List.drop_zero, List.filterMap_cons, List.filterMap_nil, List.getElem?_toArray, List.getElem?_cons_zero, List.getElem?_cons_succ]
      repeat (first
        | go_big_quiet_skip
        | (go_big_quiet_want; go_big_quiet_op; go_big_quiet_on)
        | (refine id (?_ : wpQuiet _ _ _ _ (_ :: _) _); first | go_big_quiet_skip | (go_big_quiet_want; go_big_quiet_op; go_big_quiet_on)))
      refine wpQuiet_nil ?_
      have q1 := bp.cell 1
      have r1 := bp.frozen 1
      refine wpPl_e _ (by rfl) (by kernel_rfl) (fun K hK => ?_)
      go_simp
      replace bk := bk.far (p := ⟨g3, 1, none⟩) (by show w.heap.size + 1 ≠ g3; omega) (.int .u16 N0)
      replace bel := bel.setCell (p := ⟨g3, 1, none⟩) (by show w.heap.size ≤ g3; omega) (.int .u16 N0)
      replace bp := bp.set_ 1 (.int .u16 N0)
      clear q1 r1
      refine hK _ _ bel ?_
      clear hK K
      refine wpPl_qs 1 _ _ _ (by kernel_rfl) (by kernel_rfl) (by simp) ?_
      unfold clsS
      simp only [List.take_succ_cons, List.take_zero, List.drop_succ_cons, List.drop_zero, List.filterMap_cons, List.filterMap_nil, List.getElem?_toArray, List.getElem?_cons_zero, List.getElem?_cons_succ]
      repeat (first
        | go_big_quiet_skip
        | (go_big_quiet_want; go_big_quiet_op; go_big_quiet_on)
        | (refine id (?_ : wpQuiet _ _ _ _ (_ :: _) _); first | go_big_quiet_skip | (go_big_quiet_want; go_big_quiet_op; go_big_quiet_on)))
      refine wpQuiet_nil ?_
      have q2 := bp.cell 2
      have r2 := bp.frozen 2
      refine wpPl_e _ (by rfl) (by kernel_rfl) (fun K hK => ?_)
      go_simp
      replace bk := bk.far (p := ⟨g3, 2, none⟩) (by show w.heap.size + 1 ≠ g3; omega) (.int .u16 N2)
      replace bel := bel.setCell (p := ⟨g3, 2, none⟩) (by show w.heap.size ≤ g3; omega) (.int .u16 N2)
      replace bp := bp.set_ 2 (.int .u16 N2)
      clear q2 r2
      refine hK _ _ bel ?_
      clear hK K
      unfold wpPl
      refine NoPanic.normal ?_
      simp only [List.setIfInBounds_toArray, List.set_cons_succ, List.set_cons_zero] at bp
      generalize ((W8.setCell ⟨g3, 1, none⟩ (.int .u16 N0)).setCell ⟨g3, 2, none⟩ (.int .u16 N2)) = W9 at *
      go_wp2_with (first
        | (refine wpList_ldRow rfl rfl rfl bp Tryz.underlying69 rpt_size ?_)
        | (refine wpList_stRow rfl rfl rfl rfl rfl bk rpt_size rfl (by simp [Value.oneCell']) ?_))
      refine bodyPost_ret (results_row2 rfl _ rfl (bk.setRow _) Tryz.underlying69 rpt_size) rfl ⟨?_, below_setRow bel (by omega) _⟩
      exact congrArg (fun x => Ending.returned (.tuple #[x, .int .i64 0])) (hP.out false).symm
  · subst heq
    have e6 : (x6 == 0) = true := by simpa using (hz6.1 h6).1
    have e7 : (x7 == 0) = true := by simpa using (hz6.1 h6).2
    clear hz6 h6
    go_enter Tryz.func43, Tryz.ntmps43
    go_upto_region 1 with fail
    have bh := (Blk.new w 67 #[.int .i64 (m : Int), .int .i64 (n : Int), .int .i64 h2, .int .i64 17, .int .u32 h4, .int .u32 h5]).alloc (.cells #[.int .i64 0, .int .u16 0, .int .u16 0, .int .i64 0, .int .i64 0, .int .i64 0, .bool false, .int .i64 0, .int .i64 0, .int .i64 0, .int .i64 0, .int .u32 0, .int .u32 0, .int .i64 0, .bool false] 69)
    have bk := Blk.new (w.alloc (.cells #[.int .i64 (m : Int), .int .i64 (n : Int), .int .i64 h2, .int .i64 17, .int .u32 h4, .int .u32 h5] 67)) 69 #[.int .i64 0, .int .u16 0, .int .u16 0, .int .i64 0, .int .i64 0, .int .i64 0, .bool false, .int .i64 0, .int .i64 0, .int .i64 0, .int .i64 0, .int .u32 0, .int .u32 0, .int .i64 0, .bool false]
    rw [show (w.alloc (.cells #[.int .i64 (m : Int), .int .i64 (n : Int), .int .i64 h2, .int .i64 17, .int .u32 h4, .int .u32 h5] 67)).heap.size = w.heap.size + 1 by simp] at bk
    have bel : Below w.heap.size w ((w.alloc (.cells #[.int .i64 (m : Int), .int .i64 (n : Int), .int .i64 h2, .int .i64 17, .int .u32 h4, .int .u32 h5] 67)).alloc (.cells #[.int .i64 0, .int .u16 0, .int .u16 0, .int .i64 0, .int .i64 0, .int .i64 0, .bool false, .int .i64 0, .int .i64 0, .int .i64 0, .int .i64 0, .int .u32 0, .int .u32 0, .int .i64 0, .bool false] 69)) := (bel_alloc _ _).alloc (by simp) _
    generalize ((w.alloc (.cells #[.int .i64 (m : Int), .int .i64 (n : Int), .int .i64 h2, .int .i64 17, .int .u32 h4, .int .u32 h5] 67)).alloc (.cells #[.int .i64 0, .int .u16 0, .int .u16 0, .int .i64 0, .int .i64 0, .int .i64 0, .bool false, .int .i64 0, .int .i64 0, .int .i64 0, .int .i64 0, .int .u32 0, .int .u32 0, .int .i64 0, .bool false] 69)) = W at *
    have q0 := bh.cell 0
    have q1 := bh.cell 1
    have q3 := bh.cell 3
    go_wp2_with (refine wpList_stRow rfl rfl rfl rfl rfl (Blk.new _ _ _) rpt_size rfl (by simp [Value.oneCell']) ?_; have bp := (Blk.new W 69 #[.int .i64 0, .int .u16 0, .int .u16 0, .int .i64 0, .int .i64 0, .int .i64 0, .bool false, .int .i64 0, .int .i64 0, .int .i64 0, .int .i64 0, .int .u32 0, .int .u32 0, .int .i64 0, .bool false]).setRow #[.int .i64 17, .int .u16 0, .int .u16 0, .int .i64 0, .int .i64 0, .int .i64 0, .bool false, .int .i64 0, .int .i64 0, .int .i64 0, .int .i64 0, .int .u32 0, .int .u32 0, .int .i64 0, .bool false]; have hg3 : w.heap.size + 1 < W.heap.size := bk.lt; replace bk := (bk.alloc (.cells #[.int .i64 0, .int .u16 0, .int .u16 0, .int .i64 0, .int .i64 0, .int .i64 0, .bool false, .int .i64 0, .int .i64 0, .int .i64 0, .int .i64 0, .int .u32 0, .int .u32 0, .int .i64 0, .bool false] 69)).setRow_far (g' := W.heap.size) (by omega) #[.int .i64 17, .int .u16 0, .int .u16 0, .int .i64 0, .int .i64 0, .int .i64 0, .bool false, .int .i64 0, .int .i64 0, .int .i64 0, .int .i64 0, .int .u32 0, .int .u32 0, .int .i64 0, .bool false]; replace bh := (bh.alloc (.cells #[.int .i64 0, .int .u16 0, .int .u16 0, .int .i64 0, .int .i64 0, .int .i64 0, .bool false, .int .i64 0, .int .i64 0, .int .i64 0, .int .i64 0, .int .u32 0, .int .u32 0, .int .i64 0, .bool false] 69)).setRow_far (g' := W.heap.size) (by omega) #[.int .i64 17, .int .u16 0, .int .u16 0, .int .i64 0, .int .i64 0, .int .i64 0, .bool false, .int .i64 0, .int .i64 0, .int .i64 0, .int .i64 0, .int .u32 0, .int .u32 0, .int .i64 0, .bool false]; replace bel := below_setRow (bel.alloc bel.size (.cells #[.int .i64 0, .int .u16 0, .int .u16 0, .int .i64 0, .int .i64 0, .int .i64 0, .bool false, .int .i64 0, .int .i64 0, .int .i64 0, .int .i64 0, .int .u32 0, .int .u32 0, .int .i64 0, .bool false] 69)) bel.size #[.int .i64 17, .int .u16 0, .int .u16 0, .int .i64 0, .int .i64 0, .int .i64 0, .bool false, .int .i64 0, .int .i64 0, .int .i64 0, .int .i64 0, .int .u32 0, .int .u32 0, .int .i64 0, .bool false]; generalize (W.alloc (.cells #[.int .i64 0, .int .u16 0, .int .u16 0, .int .i64 0, .int .i64 0, .int .i64 0, .bool false, .int .i64 0, .int .i64 0, .int .i64 0, .int .i64 0, .int .u32 0, .int .u32 0, .int .i64 0, .bool false] 69)).setRow W.heap.size #[.int .i64 17, .int .u16 0, .int .u16 0, .int .i64 0, .int .i64 0, .int .i64 0, .bool false, .int .i64 0, .int .i64 0, .int .i64 0, .int .i64 0, .int .u32 0, .int .u32 0, .int .i64 0, .bool false] = W1 at *; generalize W.heap.size = g3 at *; have q3 := bh.cell 3)
    refine (hn4.out _ bel).mono ?_
    rintro e w' ⟨rfl, rfl⟩
    obtain ⟨c6, r6⟩ := hc6.out _ bel
    obtain ⟨c7, r7⟩ := hc7.out _ bel
    replace r6 := inr_u8 r6
    replace r7 := inr_u8 r7
    have q14 := bp.cell 14
    have r14 := bp.frozen 14
    go_upto_region 13 with fail
    clear q14 r14 c6 c7 q0 q1 q3
    replace bh := bh.far (p := ⟨g3, 14, none⟩) (by show w.heap.size ≠ g3; omega) (.bool true)
    replace bk := bk.far (p := ⟨g3, 14, none⟩) (by show w.heap.size + 1 ≠ g3; omega) (.bool true)
    replace bel := bel.setCell (p := ⟨g3, 14, none⟩) (by show w.heap.size ≤ g3; omega) (.bool true)
    replace bp := bp.set_ 14 (.bool true)
    simp only [List.setIfInBounds_toArray, List.set_cons_succ, List.set_cons_zero] at bp
    generalize W1.setCell ⟨g3, 14, none⟩ (.bool true) = W2 at *
    have q14 := bp.cell 14
    go_upto_region 26 with fail
    have : Nonempty (Tw (fun w' => Below w.heap.size w w')) := ⟨⟨_, bel⟩⟩
    refine wp_region_plan (fun w' => Below w.heap.size w w') [(0, true), (1, true), (4, true), (5, true), (2, false), (3, true), (8, true), (6, false), (7, true), (9, false), (10, true), (11, false)] (by kernel_rfl) (by kernel_rfl) (by kernel_rfl) (by kernel_rfl) bel.drew ?_
    replace bp := bp.drew
    replace bk := bk.drew
    replace bel := bel.drew
    generalize W2.drew = W8 at *
    refine wpPl_qs 4 _ _ _ (by kernel_rfl) (by kernel_rfl) (by simp) ?_
    unfold clsS
    simp only [List.take_succ_cons, List.take_zero, List.drop_succ_cons, List.drop_zero, List.filterMap_cons, List.filterMap_nil, List.getElem?_toArray, List.getElem?_cons_zero, List.getElem?_cons_succ]
    repeat (first
      | go_big_quiet_skip
      | (go_big_quiet_want; go_big_quiet_op; go_big_quiet_on)
      | (refine id (?_ : wpQuiet _ _ _ _ (_ :: _) _); first | go_big_quiet_skip | (go_big_quiet_want; go_big_quiet_op; go_big_quiet_on)))
    refine wpQuiet_nil ?_
    refine wpPl_e _ (by rfl) (by kernel_rfl) (fun K hK => ?_)
    go_simp
    refine (hn0.out _ bel).mono ?_
    rintro e w1 ⟨rfl, rfl⟩
    refine hK _ _ bel ?_
    clear hK K
    refine wpPl_qs 2 _ _ _ (by kernel_rfl) (by kernel_rfl) (by simp) ?_
    unfold clsS
    simp only [List.take_succ_cons, List.take_zero, List.drop_succ_cons, List.drop_zero, List.filterMap_cons, List.filterMap_nil, List.getElem?_toArray, List.getElem?_cons_zero, List.getElem?_cons_succ]
    repeat (first
      | go_big_quiet_skip
      | (go_big_quiet_want; go_big_quiet_op; go_big_quiet_on)
      | (refine id (?_ : wpQuiet _ _ _ _ (_ :: _) _); first | go_big_quiet_skip | (go_big_quiet_want; go_big_quiet_op; go_big_quiet_on)))
    refine wpQuiet_nil ?_
    refine wpPl_e _ (by rfl) (by kernel_rfl) (fun K hK => ?_)
    go_simp
    refine (hn2.out _ bel).mono ?_
    rintro e w1 ⟨rfl, rfl⟩
    refine hK _ _ bel ?_
    clear hK K
    refine wpPl_qs 1 _ _ _ (by kernel_rfl) (by kernel_rfl) (by simp) ?_
    unfold clsS
    simp only [List.take_succ_cons, List.take_zero, List.drop_succ_cons, List.drop_zero, List.filterMap_cons, List.filterMap_nil, List.getElem?_toArray, List.getElem?_cons_zero, List.getElem?_cons_succ]
    repeat (first
      | go_big_quiet_skip
      | (go_big_quiet_want; go_big_quiet_op; go_big_quiet_on)
      | (refine id (?_ : wpQuiet _ _ _ _ (_ :: _) _); first | go_big_quiet_skip | (go_big_quiet_want; go_big_quiet_op; go_big_quiet_on)))
    refine wpQuiet_nil ?_
    have q1 := bp.cell 1
    have r1 := bp.frozen 1
    refine wpPl_e _ (by rfl) (by kernel_rfl) (fun K hK => ?_)
    go_simp
    replace bk := bk.far (p := ⟨g3, 1, none⟩) (by show w.heap.size + 1 ≠ g3; omega) (.int .u16 N0)
    replace bel := bel.setCell (p := ⟨g3, 1, none⟩) (by show w.heap.size ≤ g3; omega) (.int .u16 N0)
    replace bp := bp.set_ 1 (.int .u16 N0)
    clear q1 r1
    refine hK _ _ bel ?_
    clear hK K
    refine wpPl_qs 1 _ _ _ (by kernel_rfl) (by kernel_rfl) (by simp) ?_
    unfold clsS
    simp only [List.take_succ_cons, List.take_zero, List.drop_succ_cons, List.drop_zero, List.filterMap_cons, List.filterMap_nil, List.getElem?_toArray, List.getElem?_cons_zero, List.getElem?_cons_succ]
    repeat (first
      | go_big_quiet_skip
      | (go_big_quiet_want; go_big_quiet_op; go_big_quiet_on)
      | (refine id (?_ : wpQuiet _ _ _ _ (_ :: _) _); first | go_big_quiet_skip | (go_big_quiet_want; go_big_quiet_op; go_big_quiet_on)))
    refine wpQuiet_nil ?_
    have q2 := bp.cell 2
    have r2 := bp.frozen 2
    refine wpPl_e _ (by rfl) (by kernel_rfl) (fun K hK => ?_)
    go_simp
    replace bk := bk.far (p := ⟨g3, 2, none⟩) (by show w.heap.size + 1 ≠ g3; omega) (.int .u16 N2)
    replace bel := bel.setCell (p := ⟨g3, 2, none⟩) (by show w.heap.size ≤ g3; omega) (.int .u16 N2)
    replace bp := bp.set_ 2 (.int .u16 N2)
    clear q2 r2
    refine hK _ _ bel ?_
    clear hK K
    unfold wpPl
    refine NoPanic.normal ?_
    simp only [List.setIfInBounds_toArray, List.set_cons_succ, List.set_cons_zero] at bp
    generalize ((W8.setCell ⟨g3, 1, none⟩ (.int .u16 N0)).setCell ⟨g3, 2, none⟩ (.int .u16 N2)) = W9 at *
    go_wp2_with (first
      | (refine wpList_ldRow rfl rfl rfl bp Tryz.underlying69 rpt_size ?_)
      | (refine wpList_stRow rfl rfl rfl rfl rfl bk rpt_size rfl (by simp [Value.oneCell']) ?_))
    refine bodyPost_ret (results_row2 rfl _ rfl (bk.setRow _) Tryz.underlying69 rpt_size) rfl ⟨?_, below_setRow bel (by omega) _⟩
    exact congrArg (fun x => Ending.returned (.tuple #[x, .int .i64 0])) (hP.out true).symm
end Go.Proofs.YtbckoohljkmahaaGreat
