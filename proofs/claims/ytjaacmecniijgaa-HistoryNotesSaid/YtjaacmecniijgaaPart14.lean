/- The document's side of package part: Get. -/
import Derived.Test.YtjaacmecniijgaaPart13
namespace Go.Proofs.Ytjaacmecniijgaa
set_option linter.unusedVariables false
set_option linter.unusedSimpArgs false
open Go.RowKit
theorem ricmp_any (h : Hd) (l : List Int) (A : Option Addr) (len c B : Nat) (w : World) (hr : Rd .u8 w B A len l) (hB : B ≤ w.heap.size) (hlc : len ≤ c) (hcm : c ≤ 9223372036854775807) (hl : len ≤ 100000) (hh : 0 ≤ h.size ∧ h.size ≤ 1000) :
    Calls Try.prog 66 #[.agg #[.int .i64 1, .int .u16 0, .int .u16 0, .int .i64 0, .int .i64 0, .int .i64 0, .bool false, .int .i64 0, .int .i64 0, .int .i64 0, .int .i64 0, .int .u32 0, .int .u32 0, .int .i64 0, .bool false], h.val, .slice A len c] w (Tells w (icmpR h l)) := by
  by_cases hb : 8 ≤ l.length ∧ sumOf l = 0 ∧ (l.getD 0 0 = 3 ∨ l.getD 0 0 = 11 ∨ l.getD 0 0 = 12)
  · obtain ⟨h8, hs, hf⟩ := hb
    have e : icmpR h l = faultR { Pt.z with proto := 1, kind := l.getD 0 0, code := l.getD 1 0 } (h.size + 8) (l.drop 8) := by
      unfold icmpR
      rw [if_neg (by omega), if_neg (by simp [hs]), if_neg (by omega), if_pos hf]
    rw [e]
    by_cases hg : partE (l.drop 8) = 0 ∧ 8 ≤ ((l.drop 8).length : Int) - (hdOf (l.drop 8)).size ∧ (hdOf (l.drop 8)).size + 8 ≤ (hdOf (l.drop 8)).len
    · exact ricmp_ok h l A len c B w hr hB hlc hcm hl hh h8 hs hf hg
    · exact ricmp_bad h l A len c B w hr hB hlc hcm hl hh h8 hs hf hg
  · exact ricmp_plain h l A len c B w hr hB hlc hcm hl hh (fun h8 hs hf => hb ⟨h8, hs, hf⟩)
set_option maxRecDepth 100000 in
set_option maxHeartbeats 2000000 in
theorem rPGet_bad (h : Hd) (l : List Int) (A : Option Addr) (len c : Nat) (w : World) (hbad : h.size < 20 ∨ 60 < h.size ∨ h.len < h.size ∨ (len : Int) < h.len) :
    Calls Try.prog 56 #[h.val, .slice A len c] w (Tells w (1, Pt.z)) := by
  obtain ⟨h0, h1, h2, h3, h4, h5⟩ := h
  unfold Hd.val Tells
  simp only at hbad ⊢
  by_cases g1 : h0 < 20
  · clear hbad
    go_enter Try.func56, Try.ntmps56
    go_upto_region 1 with fail
    have bh := (Blk.new w 77 #[.int .i64 h0, .int .i64 h1, .int .i64 h2, .int .i64 h3, .int .u32 h4, .int .u32 h5]).alloc (.cells #[.int .i64 0, .int .u16 0, .int .u16 0, .int .i64 0, .int .i64 0, .int .i64 0, .bool false, .int .i64 0, .int .i64 0, .int .i64 0, .int .i64 0, .int .u32 0, .int .u32 0, .int .i64 0, .bool false] 97)
    have bk := Blk.new (w.alloc (.cells #[.int .i64 h0, .int .i64 h1, .int .i64 h2, .int .i64 h3, .int .u32 h4, .int .u32 h5] 77)) 97 #[.int .i64 0, .int .u16 0, .int .u16 0, .int .i64 0, .int .i64 0, .int .i64 0, .bool false, .int .i64 0, .int .i64 0, .int .i64 0, .int .i64 0, .int .u32 0, .int .u32 0, .int .i64 0, .bool false]
    rw [show (w.alloc (.cells #[.int .i64 h0, .int .i64 h1, .int .i64 h2, .int .i64 h3, .int .u32 h4, .int .u32 h5] 77)).heap.size = w.heap.size + 1 by simp] at bk
    have bel : Below w.heap.size w ((w.alloc (.cells #[.int .i64 h0, .int .i64 h1, .int .i64 h2, .int .i64 h3, .int .u32 h4, .int .u32 h5] 77)).alloc (.cells #[.int .i64 0, .int .u16 0, .int .u16 0, .int .i64 0, .int .i64 0, .int .i64 0, .bool false, .int .i64 0, .int .i64 0, .int .i64 0, .int .i64 0, .int .u32 0, .int .u32 0, .int .i64 0, .bool false] 97)) := (bel_alloc _ _).alloc (by simp) _
    generalize ((w.alloc (.cells #[.int .i64 h0, .int .i64 h1, .int .i64 h2, .int .i64 h3, .int .u32 h4, .int .u32 h5] 77)).alloc (.cells #[.int .i64 0, .int .u16 0, .int .u16 0, .int .i64 0, .int .i64 0, .int .i64 0, .bool false, .int .i64 0, .int .i64 0, .int .i64 0, .int .i64 0, .int .u32 0, .int .u32 0, .int .i64 0, .bool false] 97)) = W at *
    have q0 := bh.cell 0
    have q1 := bh.cell 1
    go_wp2_with (refine wpList_stRow rfl rfl rfl rfl rfl bk rpt_size rfl (by simp [Value.oneCell', Pt.z, Hd.z, portsP]) ?_)
    exact bodyPost_ret (results_row2 rfl _ rfl (bk.setRow _) Try.underlying97 rpt_size) rfl ⟨rfl, below_setRow bel (by omega) _⟩
  by_cases g2 : 60 < h0
  · clear hbad
    go_enter Try.func56, Try.ntmps56
    go_upto_region 1 with fail
    have bh := (Blk.new w 77 #[.int .i64 h0, .int .i64 h1, .int .i64 h2, .int .i64 h3, .int .u32 h4, .int .u32 h5]).alloc (.cells #[.int .i64 0, .int .u16 0, .int .u16 0, .int .i64 0, .int .i64 0, .int .i64 0, .bool false, .int .i64 0, .int .i64 0, .int .i64 0, .int .i64 0, .int .u32 0, .int .u32 0, .int .i64 0, .bool false] 97)
    have bk := Blk.new (w.alloc (.cells #[.int .i64 h0, .int .i64 h1, .int .i64 h2, .int .i64 h3, .int .u32 h4, .int .u32 h5] 77)) 97 #[.int .i64 0, .int .u16 0, .int .u16 0, .int .i64 0, .int .i64 0, .int .i64 0, .bool false, .int .i64 0, .int .i64 0, .int .i64 0, .int .i64 0, .int .u32 0, .int .u32 0, .int .i64 0, .bool false]
    rw [show (w.alloc (.cells #[.int .i64 h0, .int .i64 h1, .int .i64 h2, .int .i64 h3, .int .u32 h4, .int .u32 h5] 77)).heap.size = w.heap.size + 1 by simp] at bk
    have bel : Below w.heap.size w ((w.alloc (.cells #[.int .i64 h0, .int .i64 h1, .int .i64 h2, .int .i64 h3, .int .u32 h4, .int .u32 h5] 77)).alloc (.cells #[.int .i64 0, .int .u16 0, .int .u16 0, .int .i64 0, .int .i64 0, .int .i64 0, .bool false, .int .i64 0, .int .i64 0, .int .i64 0, .int .i64 0, .int .u32 0, .int .u32 0, .int .i64 0, .bool false] 97)) := (bel_alloc _ _).alloc (by simp) _
    generalize ((w.alloc (.cells #[.int .i64 h0, .int .i64 h1, .int .i64 h2, .int .i64 h3, .int .u32 h4, .int .u32 h5] 77)).alloc (.cells #[.int .i64 0, .int .u16 0, .int .u16 0, .int .i64 0, .int .i64 0, .int .i64 0, .bool false, .int .i64 0, .int .i64 0, .int .i64 0, .int .i64 0, .int .u32 0, .int .u32 0, .int .i64 0, .bool false] 97)) = W at *
    have q0 := bh.cell 0
    have q1 := bh.cell 1
    go_wp2_with (refine wpList_stRow rfl rfl rfl rfl rfl bk rpt_size rfl (by simp [Value.oneCell', Pt.z, Hd.z, portsP]) ?_)
    exact bodyPost_ret (results_row2 rfl _ rfl (bk.setRow _) Try.underlying97 rpt_size) rfl ⟨rfl, below_setRow bel (by omega) _⟩
  by_cases g3 : h1 < h0
  · clear hbad
    go_enter Try.func56, Try.ntmps56
    go_upto_region 1 with fail
    have bh := (Blk.new w 77 #[.int .i64 h0, .int .i64 h1, .int .i64 h2, .int .i64 h3, .int .u32 h4, .int .u32 h5]).alloc (.cells #[.int .i64 0, .int .u16 0, .int .u16 0, .int .i64 0, .int .i64 0, .int .i64 0, .bool false, .int .i64 0, .int .i64 0, .int .i64 0, .int .i64 0, .int .u32 0, .int .u32 0, .int .i64 0, .bool false] 97)
    have bk := Blk.new (w.alloc (.cells #[.int .i64 h0, .int .i64 h1, .int .i64 h2, .int .i64 h3, .int .u32 h4, .int .u32 h5] 77)) 97 #[.int .i64 0, .int .u16 0, .int .u16 0, .int .i64 0, .int .i64 0, .int .i64 0, .bool false, .int .i64 0, .int .i64 0, .int .i64 0, .int .i64 0, .int .u32 0, .int .u32 0, .int .i64 0, .bool false]
    rw [show (w.alloc (.cells #[.int .i64 h0, .int .i64 h1, .int .i64 h2, .int .i64 h3, .int .u32 h4, .int .u32 h5] 77)).heap.size = w.heap.size + 1 by simp] at bk
    have bel : Below w.heap.size w ((w.alloc (.cells #[.int .i64 h0, .int .i64 h1, .int .i64 h2, .int .i64 h3, .int .u32 h4, .int .u32 h5] 77)).alloc (.cells #[.int .i64 0, .int .u16 0, .int .u16 0, .int .i64 0, .int .i64 0, .int .i64 0, .bool false, .int .i64 0, .int .i64 0, .int .i64 0, .int .i64 0, .int .u32 0, .int .u32 0, .int .i64 0, .bool false] 97)) := (bel_alloc _ _).alloc (by simp) _
    generalize ((w.alloc (.cells #[.int .i64 h0, .int .i64 h1, .int .i64 h2, .int .i64 h3, .int .u32 h4, .int .u32 h5] 77)).alloc (.cells #[.int .i64 0, .int .u16 0, .int .u16 0, .int .i64 0, .int .i64 0, .int .i64 0, .bool false, .int .i64 0, .int .i64 0, .int .i64 0, .int .i64 0, .int .u32 0, .int .u32 0, .int .i64 0, .bool false] 97)) = W at *
    have q0 := bh.cell 0
    have q1 := bh.cell 1
    go_wp2_with (refine wpList_stRow rfl rfl rfl rfl rfl bk rpt_size rfl (by simp [Value.oneCell', Pt.z, Hd.z, portsP]) ?_)
    exact bodyPost_ret (results_row2 rfl _ rfl (bk.setRow _) Try.underlying97 rpt_size) rfl ⟨rfl, below_setRow bel (by omega) _⟩
  have g4 : (len : Int) < h1 := by omega
  clear hbad
  go_enter Try.func56, Try.ntmps56
  go_upto_region 1 with fail
  have bh := (Blk.new w 77 #[.int .i64 h0, .int .i64 h1, .int .i64 h2, .int .i64 h3, .int .u32 h4, .int .u32 h5]).alloc (.cells #[.int .i64 0, .int .u16 0, .int .u16 0, .int .i64 0, .int .i64 0, .int .i64 0, .bool false, .int .i64 0, .int .i64 0, .int .i64 0, .int .i64 0, .int .u32 0, .int .u32 0, .int .i64 0, .bool false] 97)
  have bk := Blk.new (w.alloc (.cells #[.int .i64 h0, .int .i64 h1, .int .i64 h2, .int .i64 h3, .int .u32 h4, .int .u32 h5] 77)) 97 #[.int .i64 0, .int .u16 0, .int .u16 0, .int .i64 0, .int .i64 0, .int .i64 0, .bool false, .int .i64 0, .int .i64 0, .int .i64 0, .int .i64 0, .int .u32 0, .int .u32 0, .int .i64 0, .bool false]
  rw [show (w.alloc (.cells #[.int .i64 h0, .int .i64 h1, .int .i64 h2, .int .i64 h3, .int .u32 h4, .int .u32 h5] 77)).heap.size = w.heap.size + 1 by simp] at bk
  have bel : Below w.heap.size w ((w.alloc (.cells #[.int .i64 h0, .int .i64 h1, .int .i64 h2, .int .i64 h3, .int .u32 h4, .int .u32 h5] 77)).alloc (.cells #[.int .i64 0, .int .u16 0, .int .u16 0, .int .i64 0, .int .i64 0, .int .i64 0, .bool false, .int .i64 0, .int .i64 0, .int .i64 0, .int .i64 0, .int .u32 0, .int .u32 0, .int .i64 0, .bool false] 97)) := (bel_alloc _ _).alloc (by simp) _
  generalize ((w.alloc (.cells #[.int .i64 h0, .int .i64 h1, .int .i64 h2, .int .i64 h3, .int .u32 h4, .int .u32 h5] 77)).alloc (.cells #[.int .i64 0, .int .u16 0, .int .u16 0, .int .i64 0, .int .i64 0, .int .i64 0, .bool false, .int .i64 0, .int .i64 0, .int .i64 0, .int .i64 0, .int .u32 0, .int .u32 0, .int .i64 0, .bool false] 97)) = W at *
  have q0 := bh.cell 0
  have q1 := bh.cell 1
  go_wp2_with (refine wpList_stRow rfl rfl rfl rfl rfl bk rpt_size rfl (by simp [Value.oneCell', Pt.z, Hd.z, portsP]) ?_)
  exact bodyPost_ret (results_row2 rfl _ rfl (bk.setRow _) Try.underlying97 rpt_size) rfl ⟨rfl, below_setRow bel (by omega) _⟩
set_option maxRecDepth 100000 in
set_option maxHeartbeats 2000000 in
theorem rPGet_else (m n : Nat) (h2 h3 h4 h5 : Int) (A : Option Addr) (b o len c : Nat) (w : World) (hlc : len ≤ c) (hcm : c ≤ 9223372036854775807) (hm1 : 20 ≤ m) (hm2 : m ≤ 60) (hm3 : m ≤ n) (hm4 : n ≤ len) (hA2 : (if c = m then some ⟨b, o, none⟩ else some ⟨b, o + m, none⟩) = A) (h17 : h3 ≠ 17) (h6 : h3 ≠ 6) (h1 : h3 ≠ 1) :
    Calls Try.prog 56 #[(⟨(m : Int), (n : Int), h2, h3, h4, h5⟩ : Hd).val, .slice (some ⟨b, o, none⟩) len c] w (Tells w (6, Pt.z)) := by
  unfold Hd.val Tells
  simp only
  have d1 : decide ((m : Int) < 20) = false := by simp; omega
  have d2 : decide (60 < (m : Int)) = false := by simp; omega
  have e1 : (h3 == 17) = false := by simpa using h17
  have e2 : (h3 == 6) = false := by simpa using h6
  have e3 : (h3 == 1) = false := by simpa using h1
  go_enter Try.func56, Try.ntmps56
  go_upto_region 1 with fail
  have bh := (Blk.new w 77 #[.int .i64 (m : Int), .int .i64 (n : Int), .int .i64 h2, .int .i64 h3, .int .u32 h4, .int .u32 h5]).alloc (.cells #[.int .i64 0, .int .u16 0, .int .u16 0, .int .i64 0, .int .i64 0, .int .i64 0, .bool false, .int .i64 0, .int .i64 0, .int .i64 0, .int .i64 0, .int .u32 0, .int .u32 0, .int .i64 0, .bool false] 97)
  have bk := Blk.new (w.alloc (.cells #[.int .i64 (m : Int), .int .i64 (n : Int), .int .i64 h2, .int .i64 h3, .int .u32 h4, .int .u32 h5] 77)) 97 #[.int .i64 0, .int .u16 0, .int .u16 0, .int .i64 0, .int .i64 0, .int .i64 0, .bool false, .int .i64 0, .int .i64 0, .int .i64 0, .int .i64 0, .int .u32 0, .int .u32 0, .int .i64 0, .bool false]
  rw [show (w.alloc (.cells #[.int .i64 (m : Int), .int .i64 (n : Int), .int .i64 h2, .int .i64 h3, .int .u32 h4, .int .u32 h5] 77)).heap.size = w.heap.size + 1 by simp] at bk
  have bel : Below w.heap.size w ((w.alloc (.cells #[.int .i64 (m : Int), .int .i64 (n : Int), .int .i64 h2, .int .i64 h3, .int .u32 h4, .int .u32 h5] 77)).alloc (.cells #[.int .i64 0, .int .u16 0, .int .u16 0, .int .i64 0, .int .i64 0, .int .i64 0, .bool false, .int .i64 0, .int .i64 0, .int .i64 0, .int .i64 0, .int .u32 0, .int .u32 0, .int .i64 0, .bool false] 97)) := (bel_alloc _ _).alloc (by simp) _
  generalize ((w.alloc (.cells #[.int .i64 (m : Int), .int .i64 (n : Int), .int .i64 h2, .int .i64 h3, .int .u32 h4, .int .u32 h5] 77)).alloc (.cells #[.int .i64 0, .int .u16 0, .int .u16 0, .int .i64 0, .int .i64 0, .int .i64 0, .bool false, .int .i64 0, .int .i64 0, .int .i64 0, .int .i64 0, .int .u32 0, .int .u32 0, .int .i64 0, .bool false] 97)) = W at *
  have q0 := bh.cell 0
  have q1 := bh.cell 1
  have q3 := bh.cell 3
  go_wp2_with (first | (refine wpList_stRow rfl rfl rfl rfl rfl (Blk.new _ _ _) rpt_size rfl (by simp [Value.oneCell']) ?_; have bp := (Blk.new W 97 #[.int .i64 0, .int .u16 0, .int .u16 0, .int .i64 0, .int .i64 0, .int .i64 0, .bool false, .int .i64 0, .int .i64 0, .int .i64 0, .int .i64 0, .int .u32 0, .int .u32 0, .int .i64 0, .bool false]).setRow #[.int .i64 h3, .int .u16 0, .int .u16 0, .int .i64 0, .int .i64 0, .int .i64 0, .bool false, .int .i64 0, .int .i64 0, .int .i64 0, .int .i64 0, .int .u32 0, .int .u32 0, .int .i64 0, .bool false]; have hg3 : w.heap.size + 1 < W.heap.size := bk.lt; replace bk := (bk.alloc (.cells #[.int .i64 0, .int .u16 0, .int .u16 0, .int .i64 0, .int .i64 0, .int .i64 0, .bool false, .int .i64 0, .int .i64 0, .int .i64 0, .int .i64 0, .int .u32 0, .int .u32 0, .int .i64 0, .bool false] 97)).setRow_far (g' := W.heap.size) (by omega) #[.int .i64 h3, .int .u16 0, .int .u16 0, .int .i64 0, .int .i64 0, .int .i64 0, .bool false, .int .i64 0, .int .i64 0, .int .i64 0, .int .i64 0, .int .u32 0, .int .u32 0, .int .i64 0, .bool false]; replace bh := (bh.alloc (.cells #[.int .i64 0, .int .u16 0, .int .u16 0, .int .i64 0, .int .i64 0, .int .i64 0, .bool false, .int .i64 0, .int .i64 0, .int .i64 0, .int .i64 0, .int .u32 0, .int .u32 0, .int .i64 0, .bool false] 97)).setRow_far (g' := W.heap.size) (by omega) #[.int .i64 h3, .int .u16 0, .int .u16 0, .int .i64 0, .int .i64 0, .int .i64 0, .bool false, .int .i64 0, .int .i64 0, .int .i64 0, .int .i64 0, .int .u32 0, .int .u32 0, .int .i64 0, .bool false]; replace bel := below_setRow (bel.alloc bel.size (.cells #[.int .i64 0, .int .u16 0, .int .u16 0, .int .i64 0, .int .i64 0, .int .i64 0, .bool false, .int .i64 0, .int .i64 0, .int .i64 0, .int .i64 0, .int .u32 0, .int .u32 0, .int .i64 0, .bool false] 97)) bel.size #[.int .i64 h3, .int .u16 0, .int .u16 0, .int .i64 0, .int .i64 0, .int .i64 0, .bool false, .int .i64 0, .int .i64 0, .int .i64 0, .int .i64 0, .int .u32 0, .int .u32 0, .int .i64 0, .bool false]; generalize (W.alloc (.cells #[.int .i64 0, .int .u16 0, .int .u16 0, .int .i64 0, .int .i64 0, .int .i64 0, .bool false, .int .i64 0, .int .i64 0, .int .i64 0, .int .i64 0, .int .u32 0, .int .u32 0, .int .i64 0, .bool false] 97)).setRow W.heap.size #[.int .i64 h3, .int .u16 0, .int .u16 0, .int .i64 0, .int .i64 0, .int .i64 0, .bool false, .int .i64 0, .int .i64 0, .int .i64 0, .int .i64 0, .int .u32 0, .int .u32 0, .int .i64 0, .bool false] = W1 at *; generalize W.heap.size = g3 at *; have q3 := bh.cell 3) | (refine wpList_stRow rfl rfl rfl rfl rfl bk rpt_size rfl (by simp [Value.oneCell', Pt.z, Hd.z, portsP]) ?_))
  exact bodyPost_ret (results_row2 rfl _ rfl (bk.setRow _) Try.underlying97 rpt_size) rfl ⟨rfl, below_setRow bel (by omega) _⟩
set_option maxRecDepth 100000 in
set_option maxHeartbeats 2000000 in
theorem rPGet_icmp (m n : Nat) (h2 h4 h5 : Int) (l : List Int) (A : Option Addr) (b o len c : Nat) (w : World) (hlc : len ≤ c) (hcm : c ≤ 9223372036854775807) (hl : len ≤ 60000) (hm1 : 20 ≤ m) (hm2 : m ≤ 60) (hm3 : m ≤ n) (hm4 : n ≤ len) (hA2 : (if c = m then some ⟨b, o, none⟩ else some ⟨b, o + m, none⟩) = A) (hr : Rd .u8 w w.heap.size A (n - m) l) :
    Calls Try.prog 56 #[(⟨(m : Int), (n : Int), h2, 1, h4, h5⟩ : Hd).val, .slice (some ⟨b, o, none⟩) len c] w (Tells w (icmpR ⟨(m : Int), (n : Int), h2, 1, h4, h5⟩ l)) := by
  have hi := fun w' (hb : Below w.heap.size w w') => ricmp_any ⟨(m : Int), (n : Int), h2, 1, h4, h5⟩ l A (n - m) (c - m) _ w' ((hr.below hb).more hb.size) (Nat.le_refl _) (by omega) (by omega) (by omega) (by simp only; omega)
  generalize icmpR ⟨(m : Int), (n : Int), h2, 1, h4, h5⟩ l = R at *
  unfold Hd.val Tells
  simp only [Hd.val, Tells] at hi ⊢
  have d1 : decide ((m : Int) < 20) = false := by simp; omega
  have d2 : decide (60 < (m : Int)) = false := by simp; omega
  clear hr
  replace hi := Lib.hid hi
  go_enter Try.func56, Try.ntmps56
  go_upto_region 1 with fail
  have bh := (Blk.new w 77 #[.int .i64 (m : Int), .int .i64 (n : Int), .int .i64 h2, .int .i64 1, .int .u32 h4, .int .u32 h5]).alloc (.cells #[.int .i64 0, .int .u16 0, .int .u16 0, .int .i64 0, .int .i64 0, .int .i64 0, .bool false, .int .i64 0, .int .i64 0, .int .i64 0, .int .i64 0, .int .u32 0, .int .u32 0, .int .i64 0, .bool false] 97)
  have bk := Blk.new (w.alloc (.cells #[.int .i64 (m : Int), .int .i64 (n : Int), .int .i64 h2, .int .i64 1, .int .u32 h4, .int .u32 h5] 77)) 97 #[.int .i64 0, .int .u16 0, .int .u16 0, .int .i64 0, .int .i64 0, .int .i64 0, .bool false, .int .i64 0, .int .i64 0, .int .i64 0, .int .i64 0, .int .u32 0, .int .u32 0, .int .i64 0, .bool false]
  rw [show (w.alloc (.cells #[.int .i64 (m : Int), .int .i64 (n : Int), .int .i64 h2, .int .i64 1, .int .u32 h4, .int .u32 h5] 77)).heap.size = w.heap.size + 1 by simp] at bk
  have bel : Below w.heap.size w ((w.alloc (.cells #[.int .i64 (m : Int), .int .i64 (n : Int), .int .i64 h2, .int .i64 1, .int .u32 h4, .int .u32 h5] 77)).alloc (.cells #[.int .i64 0, .int .u16 0, .int .u16 0, .int .i64 0, .int .i64 0, .int .i64 0, .bool false, .int .i64 0, .int .i64 0, .int .i64 0, .int .i64 0, .int .u32 0, .int .u32 0, .int .i64 0, .bool false] 97)) := (bel_alloc _ _).alloc (by simp) _
  generalize ((w.alloc (.cells #[.int .i64 (m : Int), .int .i64 (n : Int), .int .i64 h2, .int .i64 1, .int .u32 h4, .int .u32 h5] 77)).alloc (.cells #[.int .i64 0, .int .u16 0, .int .u16 0, .int .i64 0, .int .i64 0, .int .i64 0, .bool false, .int .i64 0, .int .i64 0, .int .i64 0, .int .i64 0, .int .u32 0, .int .u32 0, .int .i64 0, .bool false] 97)) = W at *
  have q0 := bh.cell 0
  have q1 := bh.cell 1
  have q3 := bh.cell 3
  go_wp2_with (first | (refine wpList_stRow rfl rfl rfl rfl rfl (Blk.new _ _ _) rpt_size rfl (by simp [Value.oneCell']) ?_; have bp := (Blk.new W 97 #[.int .i64 0, .int .u16 0, .int .u16 0, .int .i64 0, .int .i64 0, .int .i64 0, .bool false, .int .i64 0, .int .i64 0, .int .i64 0, .int .i64 0, .int .u32 0, .int .u32 0, .int .i64 0, .bool false]).setRow #[.int .i64 1, .int .u16 0, .int .u16 0, .int .i64 0, .int .i64 0, .int .i64 0, .bool false, .int .i64 0, .int .i64 0, .int .i64 0, .int .i64 0, .int .u32 0, .int .u32 0, .int .i64 0, .bool false]; have hg3 : w.heap.size + 1 < W.heap.size := bk.lt; replace bk := (bk.alloc (.cells #[.int .i64 0, .int .u16 0, .int .u16 0, .int .i64 0, .int .i64 0, .int .i64 0, .bool false, .int .i64 0, .int .i64 0, .int .i64 0, .int .i64 0, .int .u32 0, .int .u32 0, .int .i64 0, .bool false] 97)).setRow_far (g' := W.heap.size) (by omega) #[.int .i64 1, .int .u16 0, .int .u16 0, .int .i64 0, .int .i64 0, .int .i64 0, .bool false, .int .i64 0, .int .i64 0, .int .i64 0, .int .i64 0, .int .u32 0, .int .u32 0, .int .i64 0, .bool false]; replace bh := (bh.alloc (.cells #[.int .i64 0, .int .u16 0, .int .u16 0, .int .i64 0, .int .i64 0, .int .i64 0, .bool false, .int .i64 0, .int .i64 0, .int .i64 0, .int .i64 0, .int .u32 0, .int .u32 0, .int .i64 0, .bool false] 97)).setRow_far (g' := W.heap.size) (by omega) #[.int .i64 1, .int .u16 0, .int .u16 0, .int .i64 0, .int .i64 0, .int .i64 0, .bool false, .int .i64 0, .int .i64 0, .int .i64 0, .int .i64 0, .int .u32 0, .int .u32 0, .int .i64 0, .bool false]; replace bel := below_setRow (bel.alloc bel.size (.cells #[.int .i64 0, .int .u16 0, .int .u16 0, .int .i64 0, .int .i64 0, .int .i64 0, .bool false, .int .i64 0, .int .i64 0, .int .i64 0, .int .i64 0, .int .u32 0, .int .u32 0, .int .i64 0, .bool false] 97)) bel.size #[.int .i64 1, .int .u16 0, .int .u16 0, .int .i64 0, .int .i64 0, .int .i64 0, .bool false, .int .i64 0, .int .i64 0, .int .i64 0, .int .i64 0, .int .u32 0, .int .u32 0, .int .i64 0, .bool false]; generalize (W.alloc (.cells #[.int .i64 0, .int .u16 0, .int .u16 0, .int .i64 0, .int .i64 0, .int .i64 0, .bool false, .int .i64 0, .int .i64 0, .int .i64 0, .int .i64 0, .int .u32 0, .int .u32 0, .int .i64 0, .bool false] 97)).setRow W.heap.size #[.int .i64 1, .int .u16 0, .int .u16 0, .int .i64 0, .int .i64 0, .int .i64 0, .bool false, .int .i64 0, .int .i64 0, .int .i64 0, .int .i64 0, .int .u32 0, .int .u32 0, .int .i64 0, .bool false] = W1 at *; generalize W.heap.size = g3 at *; have q3 := bh.cell 3) | (refine wpList_ldRow rfl rfl rfl bp Try.underlying97 rpt_size ?_) | (refine wpList_ldRow rfl rfl rfl bh Try.underlying77 rhd_size ?_))
  refine (hi.out _ bel).mono ?_
  rintro e w' ⟨rfl, hb⟩
  replace bk := bk.bel hb
  replace bel := bel_after bel hb
  clear hb bh bp q0 q1 q3
  go_wp2_with (refine wpList_stRow rfl rfl rfl rfl rfl bk rpt_size rfl (by simp [Value.oneCell', Pt.z, Hd.z, portsP]) ?_)
  exact bodyPost_ret (results_row2 rfl _ rfl (bk.setRow _) Try.underlying97 rpt_size) rfl ⟨rfl, below_setRow bel (by omega) _⟩
end Go.Proofs.Ytjaacmecniijgaa
