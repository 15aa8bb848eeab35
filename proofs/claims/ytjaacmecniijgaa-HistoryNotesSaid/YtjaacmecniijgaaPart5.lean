/- The walks of package part: udp, tcp. -/
import Derived.Test.YtjaacmecniijgaaPart4
import Derived.Deep.DeepCutAuto
import Derived.Deep.CutBlock
namespace Go.Proofs.Ytjaacmecniijgaa
set_option linter.unusedVariables false
set_option linter.unusedSimpArgs false
open Go.RowKit
/-- what a reader of parts answers -/
def Tells (w : World) (r : PR) (e : Ending) (w' : World) : Prop := e = .returned (.tuple #[r.2.val, .int .i64 r.1]) ∧ Below w.heap.size w w'
theorem udpR_cases (h : Hd) (l : List Int) :
    (l.length < 8 ∧ udpR h l = (2, Pt.z)) ∨ (8 ≤ l.length ∧ n2 l 4 ≠ l.length ∧ udpR h l = (3, Pt.z)) ∨
    (8 ≤ l.length ∧ n2 l 4 = l.length ∧ n2 l 6 ≠ 0 ∧ csum h.src h.dst 17 l ≠ 0 ∧ udpR h l = (4, Pt.z)) ∨
    (8 ≤ l.length ∧ n2 l 4 = l.length ∧ n2 l 6 ≠ 0 ∧ csum h.src h.dst 17 l = 0 ∧ udpR h l = (0, portsP { Pt.z with proto := 17, bare := false } l 0 2)) ∨
    (8 ≤ l.length ∧ n2 l 4 = l.length ∧ n2 l 6 = 0 ∧ udpR h l = (0, portsP { Pt.z with proto := 17, bare := true } l 0 2)) := by
  unfold udpR
  by_cases h1 : l.length < 8
  · rw [if_pos h1]; exact .inl ⟨h1, rfl⟩
  · rw [if_neg h1]
    by_cases h2 : n2 l 4 = l.length
    · rw [if_neg (by simpa using h2)]
      by_cases h3 : n2 l 6 = 0
      · rw [if_neg (by simp [h3])]; exact .inr (.inr (.inr (.inr ⟨by omega, h2, h3, by simp [h3]⟩)))
      · by_cases h4 : csum h.src h.dst 17 l = 0
        · rw [if_neg (by simp [h4])]; exact .inr (.inr (.inr (.inl ⟨by omega, h2, h3, h4, by simp [h3]⟩)))
        · rw [if_pos ⟨h3, h4⟩]; exact .inr (.inr (.inl ⟨by omega, h2, h3, h4, rfl⟩))
    · rw [if_pos h2]; exact .inr (.inl ⟨by omega, h2, rfl⟩)
theorem pnum_at {l : List Int} {b o len : Nat} {w : World} (m c : Nat) (hr : Rd .u8 w w.heap.size (some ⟨b, o, none⟩) len l) (i : Nat) (hi : i + 2 ≤ len) (hm : 2 ≤ m) (w' : World) (hb : Below w.heap.size w w') :
    Calls Try.prog 60 #[.slice (some ⟨b, o + i, none⟩) m c] w' fun e w'' => e = .returned (.int .u16 (n2 l i)) ∧ Below w'.heap.size w' w'' := by
  obtain ⟨c0, x0⟩ := hr.cell i (by omega)
  obtain ⟨c1, x1⟩ := hr.cell (i + 1) (by omega)
  rw [n2_eq l i (by rw [hr.len]; omega)]
  exact pnum_any b (o + i) m c _ _ w' hm (inr_u8 x0) (inr_u8 x1) ((hb.cell (p := ⟨b, o + i, none⟩) (cell_lt c0)).trans c0) ((hb.cell (p := ⟨b, o + i + 1, none⟩) (cell_lt c1)).trans c1)
set_option maxRecDepth 100000 in
set_option maxHeartbeats 2000000 in
theorem udp_any (h : Hd) (l : List Int) (A : Option Addr) (len c B : Nat) (w : World) (hr : Rd .u8 w B A len l) (hB : B ≤ w.heap.size) (hlc : len ≤ c) (hcm : c ≤ 9223372036854775807) (hl : len ≤ 60000) (hs : 0 ≤ h.src ∧ h.src ≤ 4294967295) (hd : 0 ≤ h.dst ∧ h.dst ≤ 4294967295) :
    Calls Try.prog 46 #[h.val, .slice A len c] w (Tells w (udpR h l)) := by
  have hcs := udpR_cases h l
  rw [hr.len] at hcs
  obtain ⟨h0, h1, h2, h3, h4, h5⟩ := h
  unfold Hd.val Tells
  simp only at hs hd hcs ⊢
  generalize udpR ⟨h0, h1, h2, h3, h4, h5⟩ l = R at *
  rcases hcs with ⟨hlt, rfl⟩ | hcs
  · have d1 : decide (len < 8) = true := by simpa using hlt
    have d2 : decide ((len : Int) < 8) = true := by simp; omega
    go_enter Try.func46, Try.ntmps46
    go_upto_block 0 with fail
    have bh := (Blk.new w 82 #[.int .i64 h0, .int .i64 h1, .int .i64 h2, .int .i64 h3, .int .u32 h4, .int .u32 h5]).alloc (.cells #[.int .i64 0, .int .u16 0, .int .u16 0, .int .i64 0, .int .i64 0, .int .i64 0, .bool false, .int .i64 0, .int .i64 0, .int .i64 0, .int .i64 0, .int .u32 0, .int .u32 0, .int .i64 0, .bool false] 86)
    have bk := Blk.new (w.alloc (.cells #[.int .i64 h0, .int .i64 h1, .int .i64 h2, .int .i64 h3, .int .u32 h4, .int .u32 h5] 82)) 86 #[.int .i64 0, .int .u16 0, .int .u16 0, .int .i64 0, .int .i64 0, .int .i64 0, .bool false, .int .i64 0, .int .i64 0, .int .i64 0, .int .i64 0, .int .u32 0, .int .u32 0, .int .i64 0, .bool false]
    rw [show (w.alloc (.cells #[.int .i64 h0, .int .i64 h1, .int .i64 h2, .int .i64 h3, .int .u32 h4, .int .u32 h5] 82)).heap.size = w.heap.size + 1 by simp] at bk
    have bel : Below w.heap.size w ((w.alloc (.cells #[.int .i64 h0, .int .i64 h1, .int .i64 h2, .int .i64 h3, .int .u32 h4, .int .u32 h5] 82)).alloc (.cells #[.int .i64 0, .int .u16 0, .int .u16 0, .int .i64 0, .int .i64 0, .int .i64 0, .bool false, .int .i64 0, .int .i64 0, .int .i64 0, .int .i64 0, .int .u32 0, .int .u32 0, .int .i64 0, .bool false] 86)) := (bel_alloc _ _).alloc (by simp) _
    generalize ((w.alloc (.cells #[.int .i64 h0, .int .i64 h1, .int .i64 h2, .int .i64 h3, .int .u32 h4, .int .u32 h5] 82)).alloc (.cells #[.int .i64 0, .int .u16 0, .int .u16 0, .int .i64 0, .int .i64 0, .int .i64 0, .bool false, .int .i64 0, .int .i64 0, .int .i64 0, .int .i64 0, .int .u32 0, .int .u32 0, .int .i64 0, .bool false] 86)) = W at *
    go_wp2_with (refine wpList_stRow rfl rfl rfl rfl rfl bk pt_size rfl (by simp [Value.oneCell', Pt.z, Hd.z, portsP]) ?_)
    exact bodyPost_ret (results_row2 rfl _ rfl (bk.setRow _) Try.underlying86 pt_size) rfl ⟨rfl, below_setRow bel (by omega) _⟩
  have h8 : 8 ≤ len := by rcases hcs with ⟨h, _⟩ | ⟨h, _⟩ | ⟨h, _⟩ | ⟨h, _⟩ <;> exact h
  obtain ⟨b, o, rfl⟩ := hr.form (by omega)
  have hrB := hr.more hB
  have d1 : decide (len < 8) = false := by simp; omega
  have d2 : decide ((len : Int) < 8) = false := by simp; omega
  have c2 : (c = 4) = False := by simp; omega
  have c3 : (c = 6) = False := by simp; omega
  have hp4 := pnum_at (len - 4) (c - 4) hrB 4 (by omega) (by omega)
  have hp6 := pnum_at (len - 6) (c - 6) hrB 6 (by omega) (by omega)
  have hps := fun w' (hb : Below w.heap.size w w') => pseudo_any h4 h5 17 l (some ⟨b, o, none⟩) len c _ w' ((hrB.below hb).more hb.size) (Nat.le_refl _) hs hd (by omega) hl
  have hpo := fun (bare : Bool) w' (hb : Below w.heap.size w w') => ports_any { Pt.z with proto := 17, bare := bare } l b o len c _ w' ((hrB.below hb).more hb.size) (Nat.le_refl _) (by omega) hlc hcm
  have hNb := n2_bd (fun x hx => inr_u8 (hr.rng x hx)) (i := 4) (by rw [hr.len]; omega)
  obtain ⟨N4, hN4⟩ : ∃ N, N = n2 l 4 := ⟨_, rfl⟩
  obtain ⟨N6, hN6⟩ : ∃ N, N = n2 l 6 := ⟨_, rfl⟩
  obtain ⟨S, hS⟩ : ∃ S, S = csum h4 h5 17 l := ⟨_, rfl⟩
  rw [← hN4] at hcs hp4 hNb
  rw [← hN6] at hcs hp6
  rw [← hS] at hcs hps
  obtain ⟨V, hV⟩ : ∃ V : Bool → Pt, ∀ x, V x = { Pt.z with proto := 17, bare := x } := ⟨_, fun _ => rfl⟩
  simp only [← hV] at hpo hcs
  have hV2 : ∀ x, (V x).val = .agg #[.int .i64 17, .int .u16 0, .int .u16 0, .int .i64 0, .int .i64 0, .int .i64 0, .bool false, .int .i64 0, .int .i64 0, .int .i64 0, .int .i64 0, .int .u32 0, .int .u32 0, .int .i64 0, .bool x] := fun x => by rw [hV]; rfl
  obtain ⟨Pb, hPb⟩ : ∃ Pb : Bool → Pt, ∀ x, Pb x = portsP (V x) l 0 2 := ⟨_, fun _ => rfl⟩
  simp only [← hPb] at hpo hcs
  simp only [hV2] at hpo
  clear hPb hN4 hN6 hS hV hV2
  replace hp4 := Lib.hid hp4
  replace hp6 := Lib.hid hp6
  replace hps := Lib.hid hps
  replace hpo := Lib.hid hpo
  rcases hcs with ⟨_, hne, rfl⟩ | ⟨_, heq, h6, hc, rfl⟩ | ⟨_, heq, h6, hc, rfl⟩ | ⟨_, heq, h6, rfl⟩
  · have e1 : (N4 != (len : Int)) = true := by simpa using hne
    go_enter Try.func46, Try.ntmps46
    go_upto_block 0 with fail
    have bh := (Blk.new w 82 #[.int .i64 h0, .int .i64 h1, .int .i64 h2, .int .i64 h3, .int .u32 h4, .int .u32 h5]).alloc (.cells #[.int .i64 0, .int .u16 0, .int .u16 0, .int .i64 0, .int .i64 0, .int .i64 0, .bool false, .int .i64 0, .int .i64 0, .int .i64 0, .int .i64 0, .int .u32 0, .int .u32 0, .int .i64 0, .bool false] 86)
    have bk := Blk.new (w.alloc (.cells #[.int .i64 h0, .int .i64 h1, .int .i64 h2, .int .i64 h3, .int .u32 h4, .int .u32 h5] 82)) 86 #[.int .i64 0, .int .u16 0, .int .u16 0, .int .i64 0, .int .i64 0, .int .i64 0, .bool false, .int .i64 0, .int .i64 0, .int .i64 0, .int .i64 0, .int .u32 0, .int .u32 0, .int .i64 0, .bool false]
    rw [show (w.alloc (.cells #[.int .i64 h0, .int .i64 h1, .int .i64 h2, .int .i64 h3, .int .u32 h4, .int .u32 h5] 82)).heap.size = w.heap.size + 1 by simp] at bk
    have bel : Below w.heap.size w ((w.alloc (.cells #[.int .i64 h0, .int .i64 h1, .int .i64 h2, .int .i64 h3, .int .u32 h4, .int .u32 h5] 82)).alloc (.cells #[.int .i64 0, .int .u16 0, .int .u16 0, .int .i64 0, .int .i64 0, .int .i64 0, .bool false, .int .i64 0, .int .i64 0, .int .i64 0, .int .i64 0, .int .u32 0, .int .u32 0, .int .i64 0, .bool false] 86)) := (bel_alloc _ _).alloc (by simp) _
    generalize ((w.alloc (.cells #[.int .i64 h0, .int .i64 h1, .int .i64 h2, .int .i64 h3, .int .u32 h4, .int .u32 h5] 82)).alloc (.cells #[.int .i64 0, .int .u16 0, .int .u16 0, .int .i64 0, .int .i64 0, .int .i64 0, .bool false, .int .i64 0, .int .i64 0, .int .i64 0, .int .i64 0, .int .u32 0, .int .u32 0, .int .i64 0, .bool false] 86)) = W at *
    go_wp2_with fail
    refine (hp4.out _ bel).mono ?_
    rintro e w' ⟨rfl, hb⟩
    replace bk := bk.bel hb
    replace bh := bh.bel hb
    replace bel := bel_after bel hb
    clear hb
    go_wp2_with (refine wpList_stRow rfl rfl rfl rfl rfl bk pt_size rfl (by simp [Value.oneCell', Pt.z, Hd.z, portsP]) ?_)
    exact bodyPost_ret (results_row2 rfl _ rfl (bk.setRow _) Try.underlying86 pt_size) rfl ⟨rfl, below_setRow bel (by omega) _⟩
  · subst heq
    have e2 : (N6 == 0) = false := by simpa using h6
    have e3 : (S != 0) = true := by simpa using hc
    go_enter Try.func46, Try.ntmps46
    go_upto_block 0 with fail
    have bh := (Blk.new w 82 #[.int .i64 h0, .int .i64 h1, .int .i64 h2, .int .i64 h3, .int .u32 h4, .int .u32 h5]).alloc (.cells #[.int .i64 0, .int .u16 0, .int .u16 0, .int .i64 0, .int .i64 0, .int .i64 0, .bool false, .int .i64 0, .int .i64 0, .int .i64 0, .int .i64 0, .int .u32 0, .int .u32 0, .int .i64 0, .bool false] 86)
    have bk := Blk.new (w.alloc (.cells #[.int .i64 h0, .int .i64 h1, .int .i64 h2, .int .i64 h3, .int .u32 h4, .int .u32 h5] 82)) 86 #[.int .i64 0, .int .u16 0, .int .u16 0, .int .i64 0, .int .i64 0, .int .i64 0, .bool false, .int .i64 0, .int .i64 0, .int .i64 0, .int .i64 0, .int .u32 0, .int .u32 0, .int .i64 0, .bool false]
    rw [show (w.alloc (.cells #[.int .i64 h0, .int .i64 h1, .int .i64 h2, .int .i64 h3, .int .u32 h4, .int .u32 h5] 82)).heap.size = w.heap.size + 1 by simp] at bk
    have bel : Below w.heap.size w ((w.alloc (.cells #[.int .i64 h0, .int .i64 h1, .int .i64 h2, .int .i64 h3, .int .u32 h4, .int .u32 h5] 82)).alloc (.cells #[.int .i64 0, .int .u16 0, .int .u16 0, .int .i64 0, .int .i64 0, .int .i64 0, .bool false, .int .i64 0, .int .i64 0, .int .i64 0, .int .i64 0, .int .u32 0, .int .u32 0, .int .i64 0, .bool false] 86)) := (bel_alloc _ _).alloc (by simp) _
    generalize ((w.alloc (.cells #[.int .i64 h0, .int .i64 h1, .int .i64 h2, .int .i64 h3, .int .u32 h4, .int .u32 h5] 82)).alloc (.cells #[.int .i64 0, .int .u16 0, .int .u16 0, .int .i64 0, .int .i64 0, .int .i64 0, .bool false, .int .i64 0, .int .i64 0, .int .i64 0, .int .i64 0, .int .u32 0, .int .u32 0, .int .i64 0, .bool false] 86)) = W at *
    go_wp2_with fail
    refine (hp4.out _ bel).mono ?_
    rintro e w' ⟨rfl, hb⟩
    replace bk := bk.bel hb
    replace bh := bh.bel hb
    replace bel := bel_after bel hb
    clear hb
    go_wp2_with fail
    refine (hp6.out _ bel).mono ?_
    rintro e w' ⟨rfl, hb⟩
    replace bk := bk.bel hb
    replace bh := bh.bel hb
    replace bel := bel_after bel hb
    clear hb
    have q4 := bh.cell 4
    have q5 := bh.cell 5
    go_wp2_with fail
    clear q4 q5
    refine (hps.out _ bel).mono ?_
    rintro e w' ⟨rfl, hb⟩
    replace bk := bk.bel hb
    replace bh := bh.bel hb
    replace bel := bel_after bel hb
    clear hb
    go_wp2_with (refine wpList_stRow rfl rfl rfl rfl rfl bk pt_size rfl (by simp [Value.oneCell', Pt.z, Hd.z, portsP]) ?_)
    exact bodyPost_ret (results_row2 rfl _ rfl (bk.setRow _) Try.underlying86 pt_size) rfl ⟨rfl, below_setRow bel (by omega) _⟩
  · subst heq hc
    have e2 : (N6 == 0) = false := by simpa using h6
    go_enter Try.func46, Try.ntmps46
    go_upto_block 0 with fail
    have bh := (Blk.new w 82 #[.int .i64 h0, .int .i64 h1, .int .i64 h2, .int .i64 h3, .int .u32 h4, .int .u32 h5]).alloc (.cells #[.int .i64 0, .int .u16 0, .int .u16 0, .int .i64 0, .int .i64 0, .int .i64 0, .bool false, .int .i64 0, .int .i64 0, .int .i64 0, .int .i64 0, .int .u32 0, .int .u32 0, .int .i64 0, .bool false] 86)
    have bk := Blk.new (w.alloc (.cells #[.int .i64 h0, .int .i64 h1, .int .i64 h2, .int .i64 h3, .int .u32 h4, .int .u32 h5] 82)) 86 #[.int .i64 0, .int .u16 0, .int .u16 0, .int .i64 0, .int .i64 0, .int .i64 0, .bool false, .int .i64 0, .int .i64 0, .int .i64 0, .int .i64 0, .int .u32 0, .int .u32 0, .int .i64 0, .bool false]
    rw [show (w.alloc (.cells #[.int .i64 h0, .int .i64 h1, .int .i64 h2, .int .i64 h3, .int .u32 h4, .int .u32 h5] 82)).heap.size = w.heap.size + 1 by simp] at bk
    have bel : Below w.heap.size w ((w.alloc (.cells #[.int .i64 h0, .int .i64 h1, .int .i64 h2, .int .i64 h3, .int .u32 h4, .int .u32 h5] 82)).alloc (.cells #[.int .i64 0, .int .u16 0, .int .u16 0, .int .i64 0, .int .i64 0, .int .i64 0, .bool false, .int .i64 0, .int .i64 0, .int .i64 0, .int .i64 0, .int .u32 0, .int .u32 0, .int .i64 0, .bool false] 86)) := (bel_alloc _ _).alloc (by simp) _
    generalize ((w.alloc (.cells #[.int .i64 h0, .int .i64 h1, .int .i64 h2, .int .i64 h3, .int .u32 h4, .int .u32 h5] 82)).alloc (.cells #[.int .i64 0, .int .u16 0, .int .u16 0, .int .i64 0, .int .i64 0, .int .i64 0, .bool false, .int .i64 0, .int .i64 0, .int .i64 0, .int .i64 0, .int .u32 0, .int .u32 0, .int .i64 0, .bool false] 86)) = W at *
    go_wp2_with fail
    refine (hp4.out _ bel).mono ?_
    rintro e w' ⟨rfl, hb⟩
    replace bk := bk.bel hb
    replace bh := bh.bel hb
    replace bel := bel_after bel hb
    clear hb
    go_wp2_with fail
    refine (hp6.out _ bel).mono ?_
    rintro e w' ⟨rfl, hb⟩
    replace bk := bk.bel hb
    replace bh := bh.bel hb
    replace bel := bel_after bel hb
    clear hb
    have q4 := bh.cell 4
    have q5 := bh.cell 5
    go_wp2_with fail
    clear q4 q5
    refine (hps.out _ bel).mono ?_
    rintro e w' ⟨rfl, hb⟩
    replace bk := bk.bel hb
    replace bh := bh.bel hb
    replace bel := bel_after bel hb
    clear hb
    go_wp2_with fail
    refine (hpo.out false _ bel).mono ?_
    rintro e w' ⟨rfl, hb⟩
    replace bk := bk.bel hb
    replace bh := bh.bel hb
    replace bel := bel_after bel hb
    clear hb
    go_wp2_with (refine wpList_stRow rfl rfl rfl rfl rfl bk pt_size rfl (by simp [Value.oneCell', Pt.z, Hd.z, portsP]) ?_)
    exact bodyPost_ret (results_row2 rfl _ rfl (bk.setRow _) Try.underlying86 pt_size) rfl ⟨rfl, below_setRow bel (by omega) _⟩
  · subst heq
    have e2 : (N6 == 0) = true := by simpa using h6
    clear h6
    go_enter Try.func46, Try.ntmps46
    go_upto_block 0 with fail
    have bh := (Blk.new w 82 #[.int .i64 h0, .int .i64 h1, .int .i64 h2, .int .i64 h3, .int .u32 h4, .int .u32 h5]).alloc (.cells #[.int .i64 0, .int .u16 0, .int .u16 0, .int .i64 0, .int .i64 0, .int .i64 0, .bool false, .int .i64 0, .int .i64 0, .int .i64 0, .int .i64 0, .int .u32 0, .int .u32 0, .int .i64 0, .bool false] 86)
    have bk := Blk.new (w.alloc (.cells #[.int .i64 h0, .int .i64 h1, .int .i64 h2, .int .i64 h3, .int .u32 h4, .int .u32 h5] 82)) 86 #[.int .i64 0, .int .u16 0, .int .u16 0, .int .i64 0, .int .i64 0, .int .i64 0, .bool false, .int .i64 0, .int .i64 0, .int .i64 0, .int .i64 0, .int .u32 0, .int .u32 0, .int .i64 0, .bool false]
    rw [show (w.alloc (.cells #[.int .i64 h0, .int .i64 h1, .int .i64 h2, .int .i64 h3, .int .u32 h4, .int .u32 h5] 82)).heap.size = w.heap.size + 1 by simp] at bk
    have bel : Below w.heap.size w ((w.alloc (.cells #[.int .i64 h0, .int .i64 h1, .int .i64 h2, .int .i64 h3, .int .u32 h4, .int .u32 h5] 82)).alloc (.cells #[.int .i64 0, .int .u16 0, .int .u16 0, .int .i64 0, .int .i64 0, .int .i64 0, .bool false, .int .i64 0, .int .i64 0, .int .i64 0, .int .i64 0, .int .u32 0, .int .u32 0, .int .i64 0, .bool false] 86)) := (bel_alloc _ _).alloc (by simp) _
    generalize ((w.alloc (.cells #[.int .i64 h0, .int .i64 h1, .int .i64 h2, .int .i64 h3, .int .u32 h4, .int .u32 h5] 82)).alloc (.cells #[.int .i64 0, .int .u16 0, .int .u16 0, .int .i64 0, .int .i64 0, .int .i64 0, .bool false, .int .i64 0, .int .i64 0, .int .i64 0, .int .i64 0, .int .u32 0, .int .u32 0, .int .i64 0, .bool false] 86)) = W at *
    go_wp2_with fail
    refine (hp4.out _ bel).mono ?_
    rintro e w' ⟨rfl, hb⟩
    replace bk := bk.bel hb
    replace bh := bh.bel hb
    replace bel := bel_after bel hb
    clear hb
    go_wp2_with fail
    refine (hp6.out _ bel).mono ?_
    rintro e w' ⟨rfl, hb⟩
    replace bk := bk.bel hb
    replace bh := bh.bel hb
    replace bel := bel_after bel hb
    clear hb
    go_wp2_with fail
    refine (hpo.out true _ bel).mono ?_
    rintro e w' ⟨rfl, hb⟩
    replace bk := bk.bel hb
    replace bh := bh.bel hb
    replace bel := bel_after bel hb
    clear hb
    go_wp2_with (refine wpList_stRow rfl rfl rfl rfl rfl bk pt_size rfl (by simp [Value.oneCell', Pt.z, Hd.z, portsP]) ?_)
    exact bodyPost_ret (results_row2 rfl _ rfl (bk.setRow _) Try.underlying86 pt_size) rfl ⟨rfl, below_setRow bel (by omega) _⟩
theorem tcpR_cases (h : Hd) (l : List Int) :
    (l.length < 20 ∧ tcpR h l = (2, Pt.z)) ∨ (20 ≤ l.length ∧ l.getD 12 0 / 16 * 4 < 20 ∧ tcpR h l = (3, Pt.z)) ∨ (20 ≤ l.length ∧ 20 ≤ l.getD 12 0 / 16 * 4 ∧ (l.length : Int) < l.getD 12 0 / 16 * 4 ∧ tcpR h l = (3, Pt.z)) ∨
    (20 ≤ l.length ∧ 20 ≤ l.getD 12 0 / 16 * 4 ∧ l.getD 12 0 / 16 * 4 ≤ l.length ∧ csum h.src h.dst 6 l ≠ 0 ∧ tcpR h l = (4, Pt.z)) ∨
    (20 ≤ l.length ∧ 20 ≤ l.getD 12 0 / 16 * 4 ∧ l.getD 12 0 / 16 * 4 ≤ l.length ∧ csum h.src h.dst 6 l = 0 ∧ tcpR h l = (0, portsP { Pt.z with proto := 6, flags := l.getD 13 0 } l 0 2)) := by
  unfold tcpR
  by_cases h1 : l.length < 20
  · rw [if_pos h1]; exact .inl ⟨h1, rfl⟩
  · rw [if_neg h1]
    by_cases h2 : l.getD 12 0 / 16 * 4 < 20
    · rw [if_pos (.inl h2)]; exact .inr (.inl ⟨by omega, h2, rfl⟩)
    · by_cases h3 : (l.length : Int) < l.getD 12 0 / 16 * 4
      · rw [if_pos (.inr h3)]; exact .inr (.inr (.inl ⟨by omega, by omega, h3, rfl⟩))
      · rw [if_neg (by omega)]
        by_cases h4 : csum h.src h.dst 6 l = 0
        · rw [if_neg (by simp [h4])]; exact .inr (.inr (.inr (.inr ⟨by omega, by omega, by omega, h4, rfl⟩)))
        · rw [if_pos h4]; exact .inr (.inr (.inr (.inl ⟨by omega, by omega, by omega, h4, rfl⟩)))
set_option maxRecDepth 100000 in
set_option maxHeartbeats 2000000 in
theorem tcp_any (h : Hd) (l : List Int) (A : Option Addr) (len c B : Nat) (w : World) (hr : Rd .u8 w B A len l) (hB : B ≤ w.heap.size) (hlc : len ≤ c) (hcm : c ≤ 9223372036854775807) (hl : len ≤ 60000) (hs : 0 ≤ h.src ∧ h.src ≤ 4294967295) (hd : 0 ≤ h.dst ∧ h.dst ≤ 4294967295) :
    Calls Try.prog 47 #[h.val, .slice A len c] w (Tells w (tcpR h l)) := by
  have hcs := tcpR_cases h l
  rw [hr.len] at hcs
  obtain ⟨h0, h1, h2, h3, h4, h5⟩ := h
  unfold Hd.val Tells
  simp only at hs hd hcs ⊢
  generalize tcpR ⟨h0, h1, h2, h3, h4, h5⟩ l = R at *
  rcases hcs with ⟨hlt, rfl⟩ | hcs
  · have d1 : decide (len < 20) = true := by simpa using hlt
    have d2 : decide ((len : Int) < 20) = true := by simp; omega
    go_enter Try.func47, Try.ntmps47
    go_upto_region 1 with fail
    have bh := (Blk.new w 82 #[.int .i64 h0, .int .i64 h1, .int .i64 h2, .int .i64 h3, .int .u32 h4, .int .u32 h5]).alloc (.cells #[.int .i64 0, .int .u16 0, .int .u16 0, .int .i64 0, .int .i64 0, .int .i64 0, .bool false, .int .i64 0, .int .i64 0, .int .i64 0, .int .i64 0, .int .u32 0, .int .u32 0, .int .i64 0, .bool false] 86)
    have bk := Blk.new (w.alloc (.cells #[.int .i64 h0, .int .i64 h1, .int .i64 h2, .int .i64 h3, .int .u32 h4, .int .u32 h5] 82)) 86 #[.int .i64 0, .int .u16 0, .int .u16 0, .int .i64 0, .int .i64 0, .int .i64 0, .bool false, .int .i64 0, .int .i64 0, .int .i64 0, .int .i64 0, .int .u32 0, .int .u32 0, .int .i64 0, .bool false]
    rw [show (w.alloc (.cells #[.int .i64 h0, .int .i64 h1, .int .i64 h2, .int .i64 h3, .int .u32 h4, .int .u32 h5] 82)).heap.size = w.heap.size + 1 by simp] at bk
    have bel : Below w.heap.size w ((w.alloc (.cells #[.int .i64 h0, .int .i64 h1, .int .i64 h2, .int .i64 h3, .int .u32 h4, .int .u32 h5] 82)).alloc (.cells #[.int .i64 0, .int .u16 0, .int .u16 0, .int .i64 0, .int .i64 0, .int .i64 0, .bool false, .int .i64 0, .int .i64 0, .int .i64 0, .int .i64 0, .int .u32 0, .int .u32 0, .int .i64 0, .bool false] 86)) := (bel_alloc _ _).alloc (by simp) _
    generalize ((w.alloc (.cells #[.int .i64 h0, .int .i64 h1, .int .i64 h2, .int .i64 h3, .int .u32 h4, .int .u32 h5] 82)).alloc (.cells #[.int .i64 0, .int .u16 0, .int .u16 0, .int .i64 0, .int .i64 0, .int .i64 0, .bool false, .int .i64 0, .int .i64 0, .int .i64 0, .int .i64 0, .int .u32 0, .int .u32 0, .int .i64 0, .bool false] 86)) = W at *
    go_wp2_with (refine wpList_stRow rfl rfl rfl rfl rfl bk pt_size rfl (by simp [Value.oneCell', Pt.z, Hd.z, portsP]) ?_)
    exact bodyPost_ret (results_row2 rfl _ rfl (bk.setRow _) Try.underlying86 pt_size) rfl ⟨rfl, below_setRow bel (by omega) _⟩
  have h8 : 20 ≤ len := by rcases hcs with ⟨h, _⟩ | ⟨h, _⟩ | ⟨h, _⟩ | ⟨h, _⟩ <;> exact h
  obtain ⟨b, o, rfl⟩ := hr.form (by omega)
  have hrB := hr.more hB
  have d1 : decide (len < 20) = false := by simp; omega
  have d2 : decide ((len : Int) < 20) = false := by simp; omega
  have hps := fun w' (hb : Below w.heap.size w w') => pseudo_any h4 h5 6 l (some ⟨b, o, none⟩) len c _ w' ((hrB.below hb).more hb.size) (Nat.le_refl _) hs hd (by omega) hl
  have hpo := fun w' (hb : Below w.heap.size w w') => ports_any { Pt.z with proto := 6, flags := l.getD 13 0 } l b o len c _ w' ((hrB.below hb).more hb.size) (Nat.le_refl _) (by omega) hlc hcm
  obtain ⟨S, hS⟩ : ∃ S, S = csum h4 h5 6 l := ⟨_, rfl⟩
  rw [← hS] at hcs hps
  obtain ⟨c12, x12⟩ := hrB.cell 12 (by omega)
  obtain ⟨c13, x13⟩ := hrB.cell 13 (by omega)
  replace x12 := inr_u8 x12
  replace x13 := inr_u8 x13
  have hbb := cell_lt c12
  simp only at hbb
  have z12 := fun w' (hb : Below w.heap.size w w') => (hb.cell (p := ⟨b, o + 12, none⟩) (cell_lt c12)).trans c12
  have z13 := fun w' (hb : Below w.heap.size w w') => (hb.cell (p := ⟨b, o + 13, none⟩) (cell_lt c13)).trans c13
  obtain ⟨f12, hf12⟩ : ∃ N, N = l.getD 12 0 := ⟨_, rfl⟩
  obtain ⟨f13, hf13⟩ : ∃ N, N = l.getD 13 0 := ⟨_, rfl⟩
  rw [← hf12] at hcs x12 z12
  rw [← hf13] at hcs x13 z13 hpo
  obtain ⟨V, hV⟩ : ∃ V : Pt, V = { Pt.z with proto := 6, flags := f13 } := ⟨_, rfl⟩
  have hV2 : V.val = .agg #[.int .i64 6, .int .u16 0, .int .u16 0, .int .i64 f13, .int .i64 0, .int .i64 0, .bool false, .int .i64 0, .int .i64 0, .int .i64 0, .int .i64 0, .int .u32 0, .int .u32 0, .int .i64 0, .bool false] := by rw [hV]; rfl
  rw [← hV] at hpo hcs
  obtain ⟨Pb, hPb⟩ : ∃ Pb, Pb = portsP V l 0 2 := ⟨_, rfl⟩
  rw [← hPb] at hpo hcs
  rw [hV2] at hpo
  clear hPb hS hV hV2 hf12 hf13 c12 c13
  replace hps := Lib.hid hps
  replace hpo := Lib.hid hpo
  replace z12 := Lib.hid z12
  replace z13 := Lib.hid z13
  rcases hcs with ⟨_, hq, rfl⟩ | ⟨_, hq, hq2, rfl⟩ | ⟨_, hq, hq2, hc, rfl⟩ | ⟨_, hq, hq2, hc, rfl⟩
  · have e1 : decide (4 * (f12 / 16) < 20) = true := by simp; omega
    go_enter Try.func47, Try.ntmps47
    go_upto_region 1 with fail
    have bh := (Blk.new w 82 #[.int .i64 h0, .int .i64 h1, .int .i64 h2, .int .i64 h3, .int .u32 h4, .int .u32 h5]).alloc (.cells #[.int .i64 0, .int .u16 0, .int .u16 0, .int .i64 0, .int .i64 0, .int .i64 0, .bool false, .int .i64 0, .int .i64 0, .int .i64 0, .int .i64 0, .int .u32 0, .int .u32 0, .int .i64 0, .bool false] 86)
    have bk := Blk.new (w.alloc (.cells #[.int .i64 h0, .int .i64 h1, .int .i64 h2, .int .i64 h3, .int .u32 h4, .int .u32 h5] 82)) 86 #[.int .i64 0, .int .u16 0, .int .u16 0, .int .i64 0, .int .i64 0, .int .i64 0, .bool false, .int .i64 0, .int .i64 0, .int .i64 0, .int .i64 0, .int .u32 0, .int .u32 0, .int .i64 0, .bool false]
    rw [show (w.alloc (.cells #[.int .i64 h0, .int .i64 h1, .int .i64 h2, .int .i64 h3, .int .u32 h4, .int .u32 h5] 82)).heap.size = w.heap.size + 1 by simp] at bk
    have bel : Below w.heap.size w ((w.alloc (.cells #[.int .i64 h0, .int .i64 h1, .int .i64 h2, .int .i64 h3, .int .u32 h4, .int .u32 h5] 82)).alloc (.cells #[.int .i64 0, .int .u16 0, .int .u16 0, .int .i64 0, .int .i64 0, .int .i64 0, .bool false, .int .i64 0, .int .i64 0, .int .i64 0, .int .i64 0, .int .u32 0, .int .u32 0, .int .i64 0, .bool false] 86)) := (bel_alloc _ _).alloc (by simp) _
    generalize ((w.alloc (.cells #[.int .i64 h0, .int .i64 h1, .int .i64 h2, .int .i64 h3, .int .u32 h4, .int .u32 h5] 82)).alloc (.cells #[.int .i64 0, .int .u16 0, .int .u16 0, .int .i64 0, .int .i64 0, .int .i64 0, .bool false, .int .i64 0, .int .i64 0, .int .i64 0, .int .i64 0, .int .u32 0, .int .u32 0, .int .i64 0, .bool false] 86)) = W at *
    have c12 := z12.out _ bel
    go_wp2_with (refine wpList_stRow rfl rfl rfl rfl rfl bk pt_size rfl (by simp [Value.oneCell', Pt.z, Hd.z, portsP]) ?_)
    exact bodyPost_ret (results_row2 rfl _ rfl (bk.setRow _) Try.underlying86 pt_size) rfl ⟨rfl, below_setRow bel (by omega) _⟩
  · have e1 : decide (4 * (f12 / 16) < 20) = false := by simp; omega
    have e2 : decide ((len : Int) < 4 * (f12 / 16)) = true := by simp; omega
    go_enter Try.func47, Try.ntmps47
    go_upto_region 1 with fail
    have bh := (Blk.new w 82 #[.int .i64 h0, .int .i64 h1, .int .i64 h2, .int .i64 h3, .int .u32 h4, .int .u32 h5]).alloc (.cells #[.int .i64 0, .int .u16 0, .int .u16 0, .int .i64 0, .int .i64 0, .int .i64 0, .bool false, .int .i64 0, .int .i64 0, .int .i64 0, .int .i64 0, .int .u32 0, .int .u32 0, .int .i64 0, .bool false] 86)
    have bk := Blk.new (w.alloc (.cells #[.int .i64 h0, .int .i64 h1, .int .i64 h2, .int .i64 h3, .int .u32 h4, .int .u32 h5] 82)) 86 #[.int .i64 0, .int .u16 0, .int .u16 0, .int .i64 0, .int .i64 0, .int .i64 0, .bool false, .int .i64 0, .int .i64 0, .int .i64 0, .int .i64 0, .int .u32 0, .int .u32 0, .int .i64 0, .bool false]
    rw [show (w.alloc (.cells #[.int .i64 h0, .int .i64 h1, .int .i64 h2, .int .i64 h3, .int .u32 h4, .int .u32 h5] 82)).heap.size = w.heap.size + 1 by simp] at bk
    have bel : Below w.heap.size w ((w.alloc (.cells #[.int .i64 h0, .int .i64 h1, .int .i64 h2, .int .i64 h3, .int .u32 h4, .int .u32 h5] 82)).alloc (.cells #[.int .i64 0, .int .u16 0, .int .u16 0, .int .i64 0, .int .i64 0, .int .i64 0, .bool false, .int .i64 0, .int .i64 0, .int .i64 0, .int .i64 0, .int .u32 0, .int .u32 0, .int .i64 0, .bool false] 86)) := (bel_alloc _ _).alloc (by simp) _
    generalize ((w.alloc (.cells #[.int .i64 h0, .int .i64 h1, .int .i64 h2, .int .i64 h3, .int .u32 h4, .int .u32 h5] 82)).alloc (.cells #[.int .i64 0, .int .u16 0, .int .u16 0, .int .i64 0, .int .i64 0, .int .i64 0, .bool false, .int .i64 0, .int .i64 0, .int .i64 0, .int .i64 0, .int .u32 0, .int .u32 0, .int .i64 0, .bool false] 86)) = W at *
    have c12 := z12.out _ bel
    go_wp2_with (refine wpList_stRow rfl rfl rfl rfl rfl bk pt_size rfl (by simp [Value.oneCell', Pt.z, Hd.z, portsP]) ?_)
    exact bodyPost_ret (results_row2 rfl _ rfl (bk.setRow _) Try.underlying86 pt_size) rfl ⟨rfl, below_setRow bel (by omega) _⟩
  · have e1 : decide (4 * (f12 / 16) < 20) = false := by simp; omega
    have e2 : decide ((len : Int) < 4 * (f12 / 16)) = false := by simp; omega
    have e3 : (S != 0) = true := by simpa using hc
    go_enter Try.func47, Try.ntmps47
    go_upto_region 1 with fail
    have bh := (Blk.new w 82 #[.int .i64 h0, .int .i64 h1, .int .i64 h2, .int .i64 h3, .int .u32 h4, .int .u32 h5]).alloc (.cells #[.int .i64 0, .int .u16 0, .int .u16 0, .int .i64 0, .int .i64 0, .int .i64 0, .bool false, .int .i64 0, .int .i64 0, .int .i64 0, .int .i64 0, .int .u32 0, .int .u32 0, .int .i64 0, .bool false] 86)
    have bk := Blk.new (w.alloc (.cells #[.int .i64 h0, .int .i64 h1, .int .i64 h2, .int .i64 h3, .int .u32 h4, .int .u32 h5] 82)) 86 #[.int .i64 0, .int .u16 0, .int .u16 0, .int .i64 0, .int .i64 0, .int .i64 0, .bool false, .int .i64 0, .int .i64 0, .int .i64 0, .int .i64 0, .int .u32 0, .int .u32 0, .int .i64 0, .bool false]
    rw [show (w.alloc (.cells #[.int .i64 h0, .int .i64 h1, .int .i64 h2, .int .i64 h3, .int .u32 h4, .int .u32 h5] 82)).heap.size = w.heap.size + 1 by simp] at bk
    have bel : Below w.heap.size w ((w.alloc (.cells #[.int .i64 h0, .int .i64 h1, .int .i64 h2, .int .i64 h3, .int .u32 h4, .int .u32 h5] 82)).alloc (.cells #[.int .i64 0, .int .u16 0, .int .u16 0, .int .i64 0, .int .i64 0, .int .i64 0, .bool false, .int .i64 0, .int .i64 0, .int .i64 0, .int .i64 0, .int .u32 0, .int .u32 0, .int .i64 0, .bool false] 86)) := (bel_alloc _ _).alloc (by simp) _
    generalize ((w.alloc (.cells #[.int .i64 h0, .int .i64 h1, .int .i64 h2, .int .i64 h3, .int .u32 h4, .int .u32 h5] 82)).alloc (.cells #[.int .i64 0, .int .u16 0, .int .u16 0, .int .i64 0, .int .i64 0, .int .i64 0, .bool false, .int .i64 0, .int .i64 0, .int .i64 0, .int .i64 0, .int .u32 0, .int .u32 0, .int .i64 0, .bool false] 86)) = W at *
    have c12 := z12.out _ bel
    have q4 := bh.cell 4
    have q5 := bh.cell 5
    go_wp2_with fail
    clear q4 q5 c12
    refine (hps.out _ bel).mono ?_
    rintro e w' ⟨rfl, hb⟩
    replace bk := bk.bel hb
    replace bh := bh.bel hb
    replace bel := bel_after bel hb
    clear hb
    go_wp2_with (refine wpList_stRow rfl rfl rfl rfl rfl bk pt_size rfl (by simp [Value.oneCell', Pt.z, Hd.z, portsP]) ?_)
    exact bodyPost_ret (results_row2 rfl _ rfl (bk.setRow _) Try.underlying86 pt_size) rfl ⟨rfl, below_setRow bel (by omega) _⟩
  · have e1 : decide (4 * (f12 / 16) < 20) = false := by simp; omega
    have e2 : decide ((len : Int) < 4 * (f12 / 16)) = false := by simp; omega
    subst hc
    go_enter Try.func47, Try.ntmps47
    go_upto_region 1 with fail
    have bh := (Blk.new w 82 #[.int .i64 h0, .int .i64 h1, .int .i64 h2, .int .i64 h3, .int .u32 h4, .int .u32 h5]).alloc (.cells #[.int .i64 0, .int .u16 0, .int .u16 0, .int .i64 0, .int .i64 0, .int .i64 0, .bool false, .int .i64 0, .int .i64 0, .int .i64 0, .int .i64 0, .int .u32 0, .int .u32 0, .int .i64 0, .bool false] 86)
    have bk := Blk.new (w.alloc (.cells #[.int .i64 h0, .int .i64 h1, .int .i64 h2, .int .i64 h3, .int .u32 h4, .int .u32 h5] 82)) 86 #[.int .i64 0, .int .u16 0, .int .u16 0, .int .i64 0, .int .i64 0, .int .i64 0, .bool false, .int .i64 0, .int .i64 0, .int .i64 0, .int .i64 0, .int .u32 0, .int .u32 0, .int .i64 0, .bool false]
    rw [show (w.alloc (.cells #[.int .i64 h0, .int .i64 h1, .int .i64 h2, .int .i64 h3, .int .u32 h4, .int .u32 h5] 82)).heap.size = w.heap.size + 1 by simp] at bk
    have bel : Below w.heap.size w ((w.alloc (.cells #[.int .i64 h0, .int .i64 h1, .int .i64 h2, .int .i64 h3, .int .u32 h4, .int .u32 h5] 82)).alloc (.cells #[.int .i64 0, .int .u16 0, .int .u16 0, .int .i64 0, .int .i64 0, .int .i64 0, .bool false, .int .i64 0, .int .i64 0, .int .i64 0, .int .i64 0, .int .u32 0, .int .u32 0, .int .i64 0, .bool false] 86)) := (bel_alloc _ _).alloc (by simp) _
    generalize ((w.alloc (.cells #[.int .i64 h0, .int .i64 h1, .int .i64 h2, .int .i64 h3, .int .u32 h4, .int .u32 h5] 82)).alloc (.cells #[.int .i64 0, .int .u16 0, .int .u16 0, .int .i64 0, .int .i64 0, .int .i64 0, .bool false, .int .i64 0, .int .i64 0, .int .i64 0, .int .i64 0, .int .u32 0, .int .u32 0, .int .i64 0, .bool false] 86)) = W at *
    have c12 := z12.out _ bel
    have q4 := bh.cell 4
    have q5 := bh.cell 5
    go_wp2_with fail
    clear q4 q5 c12
    refine (hps.out _ bel).mono ?_
    rintro e w' ⟨rfl, hb⟩
    replace bk := bk.bel hb
    replace bh := bh.bel hb
    replace bel := bel_after bel hb
    clear hb
    have c13 := z13.out _ bel
    go_wp2_with fail
    clear c13
    refine (hpo.out _ bel).mono ?_
    rintro e w' ⟨rfl, hb⟩
    replace bk := bk.bel hb
    replace bh := bh.bel hb
    replace bel := bel_after bel hb
    clear hb
    go_wp2_with (refine wpList_stRow rfl rfl rfl rfl rfl bk pt_size rfl (by simp [Value.oneCell', Pt.z, Hd.z, portsP]) ?_)
    exact bodyPost_ret (results_row2 rfl _ rfl (bk.setRow _) Try.underlying86 pt_size) rfl ⟨rfl, below_setRow bel (by omega) _⟩
end Go.Proofs.Ytjaacmecniijgaa
