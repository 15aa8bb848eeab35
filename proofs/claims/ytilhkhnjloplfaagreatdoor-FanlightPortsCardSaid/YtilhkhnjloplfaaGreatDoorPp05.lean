/- What the laws' proofs lean on: plain facts and contracts of the program's functions, laid together (5). -/
import Derived.Test.YtilhkhnjloplfaaGreatDoorPp02
namespace Go.Proofs.YtilhkhnjloplfaaGreatDoor
set_option linter.unusedVariables false
set_option linter.unusedSimpArgs false
open Go.RowKit
theorem faultR_cases (p : Pt) (at_ : Int) (b : List Int) {R : PR} (hR : faultR p at_ b = R) :
    (partE b ≠ 0 ∧ R = (partE b, Pt.z)) ∨ (partE b = 0 ∧ ((b.length : Int) - (hdOf b).size < 8 ∧ R = (3, Pt.z) ∨ 8 ≤ (b.length : Int) - (hdOf b).size ∧ (hdOf b).len < (hdOf b).size + 8 ∧ R = (3, Pt.z) ∨
      8 ≤ (b.length : Int) - (hdOf b).size ∧ (hdOf b).size + 8 ≤ (hdOf b).len ∧
        ((hdOf b).proto = 17 ∧ R = (0, portsP { p with err := true, inner := hdOf b, pat := at_ } (b.drop (hdOf b).size.toNat) 0 2) ∨
         (hdOf b).proto = 6 ∧ R = (0, portsP { p with err := true, inner := hdOf b, pat := at_ } (b.drop (hdOf b).size.toNat) 0 2) ∨
         (hdOf b).proto = 1 ∧ (b.drop (hdOf b).size.toNat).getD 0 0 = 0 ∧ R = (0, portsP { p with err := true, inner := hdOf b, pat := at_ } (b.drop (hdOf b).size.toNat) 4 4) ∨
         (hdOf b).proto = 1 ∧ (b.drop (hdOf b).size.toNat).getD 0 0 = 8 ∧ R = (0, portsP { p with err := true, inner := hdOf b, pat := at_ } (b.drop (hdOf b).size.toNat) 4 4) ∨
         (hdOf b).proto = 1 ∧ (b.drop (hdOf b).size.toNat).getD 0 0 ≠ 0 ∧ (b.drop (hdOf b).size.toNat).getD 0 0 ≠ 8 ∧ R = (6, Pt.z) ∨
         (hdOf b).proto ≠ 17 ∧ (hdOf b).proto ≠ 6 ∧ (hdOf b).proto ≠ 1 ∧ R = (6, Pt.z)))) := by
  subst hR
  unfold faultR
  by_cases h1 : partE b = 0
  · rw [if_neg (by simpa using h1)]
    refine .inr ⟨h1, ?_⟩
    by_cases h2 : (b.length : Int) - (hdOf b).size < 8
    · rw [if_pos (.inl h2)]; exact .inl ⟨h2, rfl⟩
    · by_cases h3 : (hdOf b).len < (hdOf b).size + 8
      · rw [if_pos (.inr h3)]; exact .inr (.inl ⟨by omega, h3, rfl⟩)
      · rw [if_neg (by omega)]
        refine .inr (.inr ⟨by omega, by omega, ?_⟩)
        by_cases h17 : (hdOf b).proto = 17
        · rw [if_pos (.inl h17)]; exact .inl ⟨h17, rfl⟩
        · by_cases h6 : (hdOf b).proto = 6
          · rw [if_pos (.inr h6)]; exact .inr (.inl ⟨h6, rfl⟩)
          · rw [if_neg (by omega)]
            by_cases h0 : (hdOf b).proto = 1
            · by_cases y0 : (b.drop (hdOf b).size.toNat).getD 0 0 = 0
              · rw [if_pos ⟨h0, .inl y0⟩]; exact .inr (.inr (.inl ⟨h0, y0, rfl⟩))
              · by_cases y8 : (b.drop (hdOf b).size.toNat).getD 0 0 = 8
                · rw [if_pos ⟨h0, .inr y8⟩]; exact .inr (.inr (.inr (.inl ⟨h0, y8, rfl⟩)))
                · rw [if_neg (by rintro ⟨_, h | h⟩ <;> contradiction)]; exact .inr (.inr (.inr (.inr (.inl ⟨h0, y0, y8, rfl⟩))))
            · rw [if_neg (fun h => h0 h.1)]; exact .inr (.inr (.inr (.inr (.inr ⟨h17, h6, h0, rfl⟩))))
  · rw [if_pos h1]; exact .inl ⟨h1, rfl⟩
theorem partE_ok {l : List Int} (h : partE l = 0) : 20 ≤ l.length ∧ 20 ≤ (hdOf l).size ∧ (hdOf l).size ≤ l.length ∧ (hdOf l).size ≤ 60 ∧ (hdOf l).size ≤ (hdOf l).len ∧ (hdOf l).len ≤ 65535 := by
  rcases partE_cases l with ⟨h1, h2⟩ | ⟨h1, h2, _⟩
  · omega
  · rcases shape_cases l 65535 with h' | h' | h' | h' | h' | h' | h'
    all_goals first
      | (have := h'.1; omega)
      | (simp only [hdOf]; omega)

theorem hd_size : (Tryz.prog.info? 81).map (·.size) = some 6 := by kernel_rfl
set_option maxRecDepth 100000 in
set_option maxHeartbeats 2000000 in
theorem fault_bad (p : Pt) (h : Hd) (l : List Int) (A : Option Addr) (len c B : Nat) (w : World) (hr : Rd .u8 w B A len l) (hB : B ≤ w.heap.size) (hlc : len ≤ c) (hcm : c ≤ 9223372036854775807) (hh : 0 ≤ h.size ∧ h.size ≤ 1000) (hbad : ¬ (partE l = 0 ∧ 8 ≤ (l.length : Int) - (hdOf l).size ∧ (hdOf l).size + 8 ≤ (hdOf l).len)) :
    Calls Tryz.prog 79 #[p.val, h.val, .slice A len c] w (Tells w (faultR p (h.size + 8) l)) := by
  rw [hr.len] at hbad
  have hcs := faultR_cases p (h.size + 8) l rfl
  rw [hr.len] at hcs
  have hok := fun h => partE_ok (l := l) h
  rw [hr.len] at hok
  obtain ⟨pr, sr, ds, fl, ki, co, er, ⟨i0, i1, i2, i3, i4, i5⟩, pa, ba⟩ := p
  obtain ⟨h0, h1, h2, h3, h4, h5⟩ := h
  unfold Hd.val Tells Pt.val
  simp only at hh hcs ⊢
  generalize faultR _ (h0 + 8) l = R at *
  have hrB := hr.more hB
  have hpt := fun w' (hb : Below w.heap.size w w') => Part_any l A len c _ w' ((hrB.below hb).more hb.size) (Nat.le_refl _) hlc hcm
  unfold hdIf at hpt
  rcases hcs with ⟨he, rfl⟩ | ⟨he, hcs⟩
  · rw [if_neg he] at hpt
    obtain ⟨E, hE⟩ : ∃ E, partE l = E := ⟨_, rfl⟩
    rw [hE] at he hpt ⊢
    have e1 : (E != 0) = true := by simpa using he
    have hz : Hd.z.val = .agg #[.int .i64 0, .int .i64 0, .int .i64 0, .int .i64 0, .int .u32 0, .int .u32 0] := rfl
    rw [hz] at hpt
    clear hE hok hz
    replace hpt := Lib.hid hpt
    go_enter Tryz.func79, Tryz.ntmps79
    go_upto_region 1 with fail
    have bp := ((Blk.new w 87 #[.int .i64 pr, .int .u16 sr, .int .u16 ds, .int .i64 fl, .int .i64 ki, .int .i64 co, .bool er, .int .i64 i0, .int .i64 i1, .int .i64 i2, .int .i64 i3, .int .u32 i4, .int .u32 i5, .int .i64 pa, .bool ba]).alloc (.cells #[.int .i64 h0, .int .i64 h1, .int .i64 h2, .int .i64 h3, .int .u32 h4, .int .u32 h5] 81)).alloc (.cells #[.int .i64 0, .int .u16 0, .int .u16 0, .int .i64 0, .int .i64 0, .int .i64 0, .bool false, .int .i64 0, .int .i64 0, .int .i64 0, .int .i64 0, .int .u32 0, .int .u32 0, .int .i64 0, .bool false] 87)
    have bh := (Blk.new (w.alloc (.cells #[.int .i64 pr, .int .u16 sr, .int .u16 ds, .int .i64 fl, .int .i64 ki, .int .i64 co, .bool er, .int .i64 i0, .int .i64 i1, .int .i64 i2, .int .i64 i3, .int .u32 i4, .int .u32 i5, .int .i64 pa, .bool ba] 87)) 81 #[.int .i64 h0, .int .i64 h1, .int .i64 h2, .int .i64 h3, .int .u32 h4, .int .u32 h5]).alloc (.cells #[.int .i64 0, .int .u16 0, .int .u16 0, .int .i64 0, .int .i64 0, .int .i64 0, .bool false, .int .i64 0, .int .i64 0, .int .i64 0, .int .i64 0, .int .u32 0, .int .u32 0, .int .i64 0, .bool false] 87)
    have bk := Blk.new ((w.alloc (.cells #[.int .i64 pr, .int .u16 sr, .int .u16 ds, .int .i64 fl, .int .i64 ki, .int .i64 co, .bool er, .int .i64 i0, .int .i64 i1, .int .i64 i2, .int .i64 i3, .int .u32 i4, .int .u32 i5, .int .i64 pa, .bool ba] 87)).alloc (.cells #[.int .i64 h0, .int .i64 h1, .int .i64 h2, .int .i64 h3, .int .u32 h4, .int .u32 h5] 81)) 87 #[.int .i64 0, .int .u16 0, .int .u16 0, .int .i64 0, .int .i64 0, .int .i64 0, .bool false, .int .i64 0, .int .i64 0, .int .i64 0, .int .i64 0, .int .u32 0, .int .u32 0, .int .i64 0, .bool false]
    rw [show (w.alloc (.cells #[.int .i64 pr, .int .u16 sr, .int .u16 ds, .int .i64 fl, .int .i64 ki, .int .i64 co, .bool er, .int .i64 i0, .int .i64 i1, .int .i64 i2, .int .i64 i3, .int .u32 i4, .int .u32 i5, .int .i64 pa, .bool ba] 87)).heap.size = w.heap.size + 1 by simp] at bh
    rw [show ((w.alloc (.cells #[.int .i64 pr, .int .u16 sr, .int .u16 ds, .int .i64 fl, .int .i64 ki, .int .i64 co, .bool er, .int .i64 i0, .int .i64 i1, .int .i64 i2, .int .i64 i3, .int .u32 i4, .int .u32 i5, .int .i64 pa, .bool ba] 87)).alloc (.cells #[.int .i64 h0, .int .i64 h1, .int .i64 h2, .int .i64 h3, .int .u32 h4, .int .u32 h5] 81)).heap.size = w.heap.size + 2 by simp] at bk
    have bel : Below w.heap.size w (((w.alloc (.cells #[.int .i64 pr, .int .u16 sr, .int .u16 ds, .int .i64 fl, .int .i64 ki, .int .i64 co, .bool er, .int .i64 i0, .int .i64 i1, .int .i64 i2, .int .i64 i3, .int .u32 i4, .int .u32 i5, .int .i64 pa, .bool ba] 87)).alloc (.cells #[.int .i64 h0, .int .i64 h1, .int .i64 h2, .int .i64 h3, .int .u32 h4, .int .u32 h5] 81)).alloc (.cells #[.int .i64 0, .int .u16 0, .int .u16 0, .int .i64 0, .int .i64 0, .int .i64 0, .bool false, .int .i64 0, .int .i64 0, .int .i64 0, .int .i64 0, .int .u32 0, .int .u32 0, .int .i64 0, .bool false] 87)) := ((bel_alloc _ _).alloc (by simp) _).alloc (by simp; omega) _
    generalize (((w.alloc (.cells #[.int .i64 pr, .int .u16 sr, .int .u16 ds, .int .i64 fl, .int .i64 ki, .int .i64 co, .bool er, .int .i64 i0, .int .i64 i1, .int .i64 i2, .int .i64 i3, .int .u32 i4, .int .u32 i5, .int .i64 pa, .bool ba] 87)).alloc (.cells #[.int .i64 h0, .int .i64 h1, .int .i64 h2, .int .i64 h3, .int .u32 h4, .int .u32 h5] 81)).alloc (.cells #[.int .i64 0, .int .u16 0, .int .u16 0, .int .i64 0, .int .i64 0, .int .i64 0, .bool false, .int .i64 0, .int .i64 0, .int .i64 0, .int .i64 0, .int .u32 0, .int .u32 0, .int .i64 0, .bool false] 87)) = W at *
    go_wp2_with fail
    refine (hpt.out _ bel).mono ?_
    rintro e w' ⟨rfl, hb⟩
    replace bk := bk.bel hb
    replace bh := bh.bel hb
    replace bp := bp.bel hb
    replace bel := bel_after bel hb
    clear hb
    have bkl := bk.lt
    go_wp2_with (first | (refine wpList_stRow rfl rfl rfl rfl rfl (Blk.new _ _ _) hd_size rfl (by simp [Value.oneCell']) ?_; have by_ := (Blk.new w' 81 #[.int .i64 0, .int .i64 0, .int .i64 0, .int .i64 0, .int .u32 0, .int .u32 0]).setRow #[.int .i64 0, .int .i64 0, .int .i64 0, .int .i64 0, .int .u32 0, .int .u32 0]; replace bk := (bk.alloc (.cells #[.int .i64 0, .int .i64 0, .int .i64 0, .int .i64 0, .int .u32 0, .int .u32 0] 81)).setRow_far (g' := w'.heap.size) (by have := bk.lt; omega) #[.int .i64 0, .int .i64 0, .int .i64 0, .int .i64 0, .int .u32 0, .int .u32 0]; replace bh := (bh.alloc (.cells #[.int .i64 0, .int .i64 0, .int .i64 0, .int .i64 0, .int .u32 0, .int .u32 0] 81)).setRow_far (g' := w'.heap.size) (by have := bh.lt; omega) #[.int .i64 0, .int .i64 0, .int .i64 0, .int .i64 0, .int .u32 0, .int .u32 0]; replace bp := (bp.alloc (.cells #[.int .i64 0, .int .i64 0, .int .i64 0, .int .i64 0, .int .u32 0, .int .u32 0] 81)).setRow_far (g' := w'.heap.size) (by have := bp.lt; omega) #[.int .i64 0, .int .i64 0, .int .i64 0, .int .i64 0, .int .u32 0, .int .u32 0]; replace bel := below_setRow (bel.alloc bel.size (.cells #[.int .i64 0, .int .i64 0, .int .i64 0, .int .i64 0, .int .u32 0, .int .u32 0] 81)) bel.size #[.int .i64 0, .int .i64 0, .int .i64 0, .int .i64 0, .int .u32 0, .int .u32 0]; have hg3 : w.heap.size + 2 < w'.heap.size := (by have := bkl; omega); generalize (w'.alloc (.cells #[.int .i64 0, .int .i64 0, .int .i64 0, .int .i64 0, .int .u32 0, .int .u32 0] 81)).setRow w'.heap.size #[.int .i64 0, .int .i64 0, .int .i64 0, .int .i64 0, .int .u32 0, .int .u32 0] = W3 at *; generalize w'.heap.size = g3 at *) | (refine wpList_stRow rfl rfl rfl rfl rfl bk pt_size rfl (by simp [Value.oneCell', Pt.z, Hd.z, portsP]) ?_))
    exact bodyPost_ret (results_row2 rfl _ rfl (bk.setRow _) Tryz.underlying87 pt_size) rfl ⟨rfl, below_setRow bel (by omega) _⟩
  have hk := hok he
  rw [if_pos he, he] at hpt
  obtain ⟨m, y1, y2, y3, y4, y5, hy⟩ : ∃ (m : Nat) (y1 y2 y3 y4 y5 : Int), hdOf l = ⟨(m : Int), y1, y2, y3, y4, y5⟩ := ⟨(hdOf l).size.toNat, _, _, _, _, _, by rw [Int.toNat_of_nonneg (by omega)]⟩
  rw [hy] at hpt hcs hk hbad
  unfold Hd.val at hpt
  simp only [Int.toNat_natCast] at hpt hcs hk hbad
  obtain ⟨A2, hA2, hr2⟩ := hrB.cut (m := m) (cap := c) (by omega) (by omega)
  clear hok hy
  replace hpt := Lib.hid hpt
  rcases hcs with ⟨hlt, rfl⟩ | ⟨hge, hlt, rfl⟩ | ⟨hge, hle, hcs⟩
  · clear he hbad
    have d1 : decide (len - m < 8) = true := by simp; omega
    have d2 : decide (((len - m : Nat) : Int) < 8) = true := by simp; omega
    go_enter Tryz.func79, Tryz.ntmps79
    go_upto_region 1 with fail
    have bp := ((Blk.new w 87 #[.int .i64 pr, .int .u16 sr, .int .u16 ds, .int .i64 fl, .int .i64 ki, .int .i64 co, .bool er, .int .i64 i0, .int .i64 i1, .int .i64 i2, .int .i64 i3, .int .u32 i4, .int .u32 i5, .int .i64 pa, .bool ba]).alloc (.cells #[.int .i64 h0, .int .i64 h1, .int .i64 h2, .int .i64 h3, .int .u32 h4, .int .u32 h5] 81)).alloc (.cells #[.int .i64 0, .int .u16 0, .int .u16 0, .int .i64 0, .int .i64 0, .int .i64 0, .bool false, .int .i64 0, .int .i64 0, .int .i64 0, .int .i64 0, .int .u32 0, .int .u32 0, .int .i64 0, .bool false] 87)
    have bh := (Blk.new (w.alloc (.cells #[.int .i64 pr, .int .u16 sr, .int .u16 ds, .int .i64 fl, .int .i64 ki, .int .i64 co, .bool er, .int .i64 i0, .int .i64 i1, .int .i64 i2, .int .i64 i3, .int .u32 i4, .int .u32 i5, .int .i64 pa, .bool ba] 87)) 81 #[.int .i64 h0, .int .i64 h1, .int .i64 h2, .int .i64 h3, .int .u32 h4, .int .u32 h5]).alloc (.cells #[.int .i64 0, .int .u16 0, .int .u16 0, .int .i64 0, .int .i64 0, .int .i64 0, .bool false, .int .i64 0, .int .i64 0, .int .i64 0, .int .i64 0, .int .u32 0, .int .u32 0, .int .i64 0, .bool false] 87)
    have bk := Blk.new ((w.alloc (.cells #[.int .i64 pr, .int .u16 sr, .int .u16 ds, .int .i64 fl, .int .i64 ki, .int .i64 co, .bool er, .int .i64 i0, .int .i64 i1, .int .i64 i2, .int .i64 i3, .int .u32 i4, .int .u32 i5, .int .i64 pa, .bool ba] 87)).alloc (.cells #[.int .i64 h0, .int .i64 h1, .int .i64 h2, .int .i64 h3, .int .u32 h4, .int .u32 h5] 81)) 87 #[.int .i64 0, .int .u16 0, .int .u16 0, .int .i64 0, .int .i64 0, .int .i64 0, .bool false, .int .i64 0, .int .i64 0, .int .i64 0, .int .i64 0, .int .u32 0, .int .u32 0, .int .i64 0, .bool false]
    rw [show (w.alloc (.cells #[.int .i64 pr, .int .u16 sr, .int .u16 ds, .int .i64 fl, .int .i64 ki, .int .i64 co, .bool er, .int .i64 i0, .int .i64 i1, .int .i64 i2, .int .i64 i3, .int .u32 i4, .int .u32 i5, .int .i64 pa, .bool ba] 87)).heap.size = w.heap.size + 1 by simp] at bh
    rw [show ((w.alloc (.cells #[.int .i64 pr, .int .u16 sr, .int .u16 ds, .int .i64 fl, .int .i64 ki, .int .i64 co, .bool er, .int .i64 i0, .int .i64 i1, .int .i64 i2, .int .i64 i3, .int .u32 i4, .int .u32 i5, .int .i64 pa, .bool ba] 87)).alloc (.cells #[.int .i64 h0, .int .i64 h1, .int .i64 h2, .int .i64 h3, .int .u32 h4, .int .u32 h5] 81)).heap.size = w.heap.size + 2 by simp] at bk
    have bel : Below w.heap.size w (((w.alloc (.cells #[.int .i64 pr, .int .u16 sr, .int .u16 ds, .int .i64 fl, .int .i64 ki, .int .i64 co, .bool er, .int .i64 i0, .int .i64 i1, .int .i64 i2, .int .i64 i3, .int .u32 i4, .int .u32 i5, .int .i64 pa, .bool ba] 87)).alloc (.cells #[.int .i64 h0, .int .i64 h1, .int .i64 h2, .int .i64 h3, .int .u32 h4, .int .u32 h5] 81)).alloc (.cells #[.int .i64 0, .int .u16 0, .int .u16 0, .int .i64 0, .int .i64 0, .int .i64 0, .bool false, .int .i64 0, .int .i64 0, .int .i64 0, .int .i64 0, .int .u32 0, .int .u32 0, .int .i64 0, .bool false] 87)) := ((bel_alloc _ _).alloc (by simp) _).alloc (by simp; omega) _
    generalize (((w.alloc (.cells #[.int .i64 pr, .int .u16 sr, .int .u16 ds, .int .i64 fl, .int .i64 ki, .int .i64 co, .bool er, .int .i64 i0, .int .i64 i1, .int .i64 i2, .int .i64 i3, .int .u32 i4, .int .u32 i5, .int .i64 pa, .bool ba] 87)).alloc (.cells #[.int .i64 h0, .int .i64 h1, .int .i64 h2, .int .i64 h3, .int .u32 h4, .int .u32 h5] 81)).alloc (.cells #[.int .i64 0, .int .u16 0, .int .u16 0, .int .i64 0, .int .i64 0, .int .i64 0, .bool false, .int .i64 0, .int .i64 0, .int .i64 0, .int .i64 0, .int .u32 0, .int .u32 0, .int .i64 0, .bool false] 87)) = W at *
    go_wp2_with fail
    refine (hpt.out _ bel).mono ?_
    rintro e w' ⟨rfl, hb⟩
    replace bk := bk.bel hb
    replace bh := bh.bel hb
    replace bp := bp.bel hb
    replace bel := bel_after bel hb
    clear hb
    have bkl := bk.lt
    go_wp2_with (first | (refine wpList_stRow rfl rfl rfl rfl rfl (Blk.new _ _ _) hd_size rfl (by simp [Value.oneCell']) ?_; have by_ := (Blk.new w' 81 #[.int .i64 0, .int .i64 0, .int .i64 0, .int .i64 0, .int .u32 0, .int .u32 0]).setRow #[.int .i64 (m : Int), .int .i64 y1, .int .i64 y2, .int .i64 y3, .int .u32 y4, .int .u32 y5]; replace bk := (bk.alloc (.cells #[.int .i64 0, .int .i64 0, .int .i64 0, .int .i64 0, .int .u32 0, .int .u32 0] 81)).setRow_far (g' := w'.heap.size) (by have := bk.lt; omega) #[.int .i64 (m : Int), .int .i64 y1, .int .i64 y2, .int .i64 y3, .int .u32 y4, .int .u32 y5]; replace bh := (bh.alloc (.cells #[.int .i64 0, .int .i64 0, .int .i64 0, .int .i64 0, .int .u32 0, .int .u32 0] 81)).setRow_far (g' := w'.heap.size) (by have := bh.lt; omega) #[.int .i64 (m : Int), .int .i64 y1, .int .i64 y2, .int .i64 y3, .int .u32 y4, .int .u32 y5]; replace bp := (bp.alloc (.cells #[.int .i64 0, .int .i64 0, .int .i64 0, .int .i64 0, .int .u32 0, .int .u32 0] 81)).setRow_far (g' := w'.heap.size) (by have := bp.lt; omega) #[.int .i64 (m : Int), .int .i64 y1, .int .i64 y2, .int .i64 y3, .int .u32 y4, .int .u32 y5]; replace bel := below_setRow (bel.alloc bel.size (.cells #[.int .i64 0, .int .i64 0, .int .i64 0, .int .i64 0, .int .u32 0, .int .u32 0] 81)) bel.size #[.int .i64 (m : Int), .int .i64 y1, .int .i64 y2, .int .i64 y3, .int .u32 y4, .int .u32 y5]; have hg3 : w.heap.size + 2 < w'.heap.size := (by have := bkl; omega); generalize (w'.alloc (.cells #[.int .i64 0, .int .i64 0, .int .i64 0, .int .i64 0, .int .u32 0, .int .u32 0] 81)).setRow w'.heap.size #[.int .i64 (m : Int), .int .i64 y1, .int .i64 y2, .int .i64 y3, .int .u32 y4, .int .u32 y5] = W3 at *; generalize w'.heap.size = g3 at *; have q0 := by_.cell 0; have q1 := by_.cell 1; have q3 := by_.cell 3) | (refine wpList_stRow rfl rfl rfl rfl rfl bk pt_size rfl (by simp [Value.oneCell', Pt.z, Hd.z, portsP]) ?_))
    exact bodyPost_ret (results_row2 rfl _ rfl (bk.setRow _) Tryz.underlying87 pt_size) rfl ⟨rfl, below_setRow bel (by omega) _⟩
  · clear he hbad
    have d1 : decide (len - m < 8) = false := by simp; omega
    have d2 : decide (((len - m : Nat) : Int) < 8) = false := by simp; omega
    have d3 : decide (y1 < (m : Int) + 8) = true := by simp; omega
    go_enter Tryz.func79, Tryz.ntmps79
    go_upto_region 1 with fail
    have bp := ((Blk.new w 87 #[.int .i64 pr, .int .u16 sr, .int .u16 ds, .int .i64 fl, .int .i64 ki, .int .i64 co, .bool er, .int .i64 i0, .int .i64 i1, .int .i64 i2, .int .i64 i3, .int .u32 i4, .int .u32 i5, .int .i64 pa, .bool ba]).alloc (.cells #[.int .i64 h0, .int .i64 h1, .int .i64 h2, .int .i64 h3, .int .u32 h4, .int .u32 h5] 81)).alloc (.cells #[.int .i64 0, .int .u16 0, .int .u16 0, .int .i64 0, .int .i64 0, .int .i64 0, .bool false, .int .i64 0, .int .i64 0, .int .i64 0, .int .i64 0, .int .u32 0, .int .u32 0, .int .i64 0, .bool false] 87)
    have bh := (Blk.new (w.alloc (.cells #[.int .i64 pr, .int .u16 sr, .int .u16 ds, .int .i64 fl, .int .i64 ki, .int .i64 co, .bool er, .int .i64 i0, .int .i64 i1, .int .i64 i2, .int .i64 i3, .int .u32 i4, .int .u32 i5, .int .i64 pa, .bool ba] 87)) 81 #[.int .i64 h0, .int .i64 h1, .int .i64 h2, .int .i64 h3, .int .u32 h4, .int .u32 h5]).alloc (.cells #[.int .i64 0, .int .u16 0, .int .u16 0, .int .i64 0, .int .i64 0, .int .i64 0, .bool false, .int .i64 0, .int .i64 0, .int .i64 0, .int .i64 0, .int .u32 0, .int .u32 0, .int .i64 0, .bool false] 87)
    have bk := Blk.new ((w.alloc (.cells #[.int .i64 pr, .int .u16 sr, .int .u16 ds, .int .i64 fl, .int .i64 ki, .int .i64 co, .bool er, .int .i64 i0, .int .i64 i1, .int .i64 i2, .int .i64 i3, .int .u32 i4, .int .u32 i5, .int .i64 pa, .bool ba] 87)).alloc (.cells #[.int .i64 h0, .int .i64 h1, .int .i64 h2, .int .i64 h3, .int .u32 h4, .int .u32 h5] 81)) 87 #[.int .i64 0, .int .u16 0, .int .u16 0, .int .i64 0, .int .i64 0, .int .i64 0, .bool false, .int .i64 0, .int .i64 0, .int .i64 0, .int .i64 0, .int .u32 0, .int .u32 0, .int .i64 0, .bool false]
    rw [show (w.alloc (.cells #[.int .i64 pr, .int .u16 sr, .int .u16 ds, .int .i64 fl, .int .i64 ki, .int .i64 co, .bool er, .int .i64 i0, .int .i64 i1, .int .i64 i2, .int .i64 i3, .int .u32 i4, .int .u32 i5, .int .i64 pa, .bool ba] 87)).heap.size = w.heap.size + 1 by simp] at bh
    rw [show ((w.alloc (.cells #[.int .i64 pr, .int .u16 sr, .int .u16 ds, .int .i64 fl, .int .i64 ki, .int .i64 co, .bool er, .int .i64 i0, .int .i64 i1, .int .i64 i2, .int .i64 i3, .int .u32 i4, .int .u32 i5, .int .i64 pa, .bool ba] 87)).alloc (.cells #[.int .i64 h0, .int .i64 h1, .int .i64 h2, .int .i64 h3, .int .u32 h4, .int .u32 h5] 81)).heap.size = w.heap.size + 2 by simp] at bk
    have bel : Below w.heap.size w (((w.alloc (.cells #[.int .i64 pr, .int .u16 sr, .int .u16 ds, .int .i64 fl, .int .i64 ki, .int .i64 co, .bool er, .int .i64 i0, .int .i64 i1, .int .i64 i2, .int .i64 i3, .int .u32 i4, .int .u32 i5, .int .i64 pa, .bool ba] 87)).alloc (.cells #[.int .i64 h0, .int .i64 h1, .int .i64 h2, .int .i64 h3, .int .u32 h4, .int .u32 h5] 81)).alloc (.cells #[.int .i64 0, .int .u16 0, .int .u16 0, .int .i64 0, .int .i64 0, .int .i64 0, .bool false, .int .i64 0, .int .i64 0, .int .i64 0, .int .i64 0, .int .u32 0, .int .u32 0, .int .i64 0, .bool false] 87)) := ((bel_alloc _ _).alloc (by simp) _).alloc (by simp; omega) _
    generalize (((w.alloc (.cells #[.int .i64 pr, .int .u16 sr, .int .u16 ds, .int .i64 fl, .int .i64 ki, .int .i64 co, .bool er, .int .i64 i0, .int .i64 i1, .int .i64 i2, .int .i64 i3, .int .u32 i4, .int .u32 i5, .int .i64 pa, .bool ba] 87)).alloc (.cells #[.int .i64 h0, .int .i64 h1, .int .i64 h2, .int .i64 h3, .int .u32 h4, .int .u32 h5] 81)).alloc (.cells #[.int .i64 0, .int .u16 0, .int .u16 0, .int .i64 0, .int .i64 0, .int .i64 0, .bool false, .int .i64 0, .int .i64 0, .int .i64 0, .int .i64 0, .int .u32 0, .int .u32 0, .int .i64 0, .bool false] 87)) = W at *
    go_wp2_with fail
    refine (hpt.out _ bel).mono ?_
    rintro e w' ⟨rfl, hb⟩
    replace bk := bk.bel hb
    replace bh := bh.bel hb
    replace bp := bp.bel hb
    replace bel := bel_after bel hb
    clear hb
    have bkl := bk.lt
    go_wp2_with (first | (refine wpList_stRow rfl rfl rfl rfl rfl (Blk.new _ _ _) hd_size rfl (by simp [Value.oneCell']) ?_; have by_ := (Blk.new w' 81 #[.int .i64 0, .int .i64 0, .int .i64 0, .int .i64 0, .int .u32 0, .int .u32 0]).setRow #[.int .i64 (m : Int), .int .i64 y1, .int .i64 y2, .int .i64 y3, .int .u32 y4, .int .u32 y5]; replace bk := (bk.alloc (.cells #[.int .i64 0, .int .i64 0, .int .i64 0, .int .i64 0, .int .u32 0, .int .u32 0] 81)).setRow_far (g' := w'.heap.size) (by have := bk.lt; omega) #[.int .i64 (m : Int), .int .i64 y1, .int .i64 y2, .int .i64 y3, .int .u32 y4, .int .u32 y5]; replace bh := (bh.alloc (.cells #[.int .i64 0, .int .i64 0, .int .i64 0, .int .i64 0, .int .u32 0, .int .u32 0] 81)).setRow_far (g' := w'.heap.size) (by have := bh.lt; omega) #[.int .i64 (m : Int), .int .i64 y1, .int .i64 y2, .int .i64 y3, .int .u32 y4, .int .u32 y5]; replace bp := (bp.alloc (.cells #[.int .i64 0, .int .i64 0, .int .i64 0, .int .i64 0, .int .u32 0, .int .u32 0] 81)).setRow_far (g' := w'.heap.size) (by have := bp.lt; omega) #[.int .i64 (m : Int), .int .i64 y1, .int .i64 y2, .int .i64 y3, .int .u32 y4, .int .u32 y5]; replace bel := below_setRow (bel.alloc bel.size (.cells #[.int .i64 0, .int .i64 0, .int .i64 0, .int .i64 0, .int .u32 0, .int .u32 0] 81)) bel.size #[.int .i64 (m : Int), .int .i64 y1, .int .i64 y2, .int .i64 y3, .int .u32 y4, .int .u32 y5]; have hg3 : w.heap.size + 2 < w'.heap.size := (by have := bkl; omega); generalize (w'.alloc (.cells #[.int .i64 0, .int .i64 0, .int .i64 0, .int .i64 0, .int .u32 0, .int .u32 0] 81)).setRow w'.heap.size #[.int .i64 (m : Int), .int .i64 y1, .int .i64 y2, .int .i64 y3, .int .u32 y4, .int .u32 y5] = W3 at *; generalize w'.heap.size = g3 at *; have q0 := by_.cell 0; have q1 := by_.cell 1; have q3 := by_.cell 3) | (refine wpList_stRow rfl rfl rfl rfl rfl bk pt_size rfl (by simp [Value.oneCell', Pt.z, Hd.z, portsP]) ?_))
    exact bodyPost_ret (results_row2 rfl _ rfl (bk.setRow _) Tryz.underlying87 pt_size) rfl ⟨rfl, below_setRow bel (by omega) _⟩
  · exact absurd ⟨he, hge, hle⟩ hbad
end Go.Proofs.YtilhkhnjloplfaaGreatDoor
namespace Go.Proofs.YtilhkhnjloplfaaGreatDoor
set_option linter.unusedVariables false
set_option linter.unusedSimpArgs false
open Go.RowKit
theorem pt_ports {q : Pt} {pr sr ds fl ki co : Int} {er : Bool} {i0 i1 i2 i3 i4 i5 pa : Int} {ba : Bool} (h : q.val = .agg #[.int .i64 pr, .int .u16 sr, .int .u16 ds, .int .i64 fl, .int .i64 ki, .int .i64 co, .bool er, .int .i64 i0, .int .i64 i1, .int .i64 i2, .int .i64 i3, .int .u32 i4, .int .u32 i5, .int .i64 pa, .bool ba]) (a b : Int) : ({ q with src := a, dst := b } : Pt).val = .agg #[.int .i64 pr, .int .u16 a, .int .u16 b, .int .i64 fl, .int .i64 ki, .int .i64 co, .bool er, .int .i64 i0, .int .i64 i1, .int .i64 i2, .int .i64 i3, .int .u32 i4, .int .u32 i5, .int .i64 pa, .bool ba] := by
  unfold Pt.val at h ⊢
  simp only [Value.agg.injEq, Array.mk.injEq, List.cons.injEq, Value.int.injEq, Value.bool.injEq, true_and, and_true] at h ⊢
  obtain ⟨rfl, _, _, rfl, rfl, rfl, rfl, rfl, rfl, rfl, rfl, rfl, rfl, rfl, rfl⟩ := h
  simp
theorem pnum_of (l : List Int) (b o len i m c : Nat) (w : World) (hr : Rd .u8 w w.heap.size (some ⟨b, o, none⟩) len l) (hi : i + 2 ≤ len) (hm : 2 ≤ m) :
    Calls Tryz.prog 77 #[.slice (some ⟨b, o + i, none⟩) m c] w fun e w'' => e = .returned (.int .u16 (n2 l i)) ∧ Below w.heap.size w w'' := pnum_at m c hr i hi hm w (Below.refl _ _)
set_option maxRecDepth 100000 in
set_option maxHeartbeats 2000000 in
theorem fault_any (p : Pt) (h : Hd) (l : List Int) (A : Option Addr) (len c B : Nat) (w : World) (hr : Rd .u8 w B A len l) (hB : B ≤ w.heap.size) (hlc : len ≤ c) (hcm : c ≤ 9223372036854775807) (hh : 0 ≤ h.size ∧ h.size ≤ 1000) :
    Calls Tryz.prog 79 #[p.val, h.val, .slice A len c] w (Tells w (faultR p (h.size + 8) l)) := by
  by_cases hbad : partE l = 0 ∧ 8 ≤ (l.length : Int) - (hdOf l).size ∧ (hdOf l).size + 8 ≤ (hdOf l).len
  case neg => exact fault_bad p h l A len c B w hr hB hlc hcm hh hbad
  obtain ⟨he, hge, hle⟩ := hbad
  rw [hr.len] at hge
  have hcs := faultR_cases p (h.size + 8) l rfl
  rw [hr.len] at hcs
  have hk := partE_ok he
  rw [hr.len] at hk
  obtain ⟨pr, sr, ds, fl, ki, co, er, ⟨i0, i1, i2, i3, i4, i5⟩, pa, ba⟩ := p
  obtain ⟨h0, h1, h2, h3, h4, h5⟩ := h
  unfold Hd.val Tells Pt.val
  simp only at hh hcs ⊢
  generalize faultR _ (h0 + 8) l = R at *
  have hrB := hr.more hB
  have hpt := fun w' (hb : Below w.heap.size w w') => Part_any l A len c _ w' ((hrB.below hb).more hb.size) (Nat.le_refl _) hlc hcm
  unfold hdIf at hpt
  replace hcs := (hcs.resolve_left (fun h => h.1 he)).2
  rw [if_pos he, he] at hpt
  obtain ⟨m, y1, y2, y3, y4, y5, hy⟩ : ∃ (m : Nat) (y1 y2 y3 y4 y5 : Int), hdOf l = ⟨(m : Int), y1, y2, y3, y4, y5⟩ := ⟨(hdOf l).size.toNat, _, _, _, _, _, by rw [Int.toNat_of_nonneg (by omega)]⟩
  rw [hy] at hpt hcs hk hge hle
  unfold Hd.val at hpt
  simp only [Int.toNat_natCast] at hpt hcs hk hge hle
  replace hcs := ((hcs.resolve_left (fun h => by omega)).resolve_left (fun h => by omega)).2.2
  have hr2 := hrB.drop (m := m) (cap := c) (by omega) (by omega)
  obtain ⟨b, o, rfl⟩ := hr.form (by omega)
  rw [if_neg (by omega)] at hr2
  replace hr2 : Rd .u8 w w.heap.size (some ⟨b, o + m, none⟩) (len - m) (l.drop m) := by
    have e : Option.map (fun x => Addr.add x m) (some ⟨b, o, none⟩) = some ⟨b, o + m, none⟩ := by simp [Addr.add]; omega
    rw [← e]; exact hr2
  clear he hy hr
  replace hpt := Lib.hid hpt
  · have d1 : decide (len - m < 8) = false := by simp; omega
    have d2 : decide (((len - m : Nat) : Int) < 8) = false := by simp; omega
    have d3 : decide (y1 < (m : Int) + 8) = false := by simp; omega
    have hcm1 : (c = m) = False := by simp; omega
    replace hcs := Lib.hid hcs
    go_enter Tryz.func79, Tryz.ntmps79
    go_upto_region 1 with fail
    have bp := ((Blk.new w 87 #[.int .i64 pr, .int .u16 sr, .int .u16 ds, .int .i64 fl, .int .i64 ki, .int .i64 co, .bool er, .int .i64 i0, .int .i64 i1, .int .i64 i2, .int .i64 i3, .int .u32 i4, .int .u32 i5, .int .i64 pa, .bool ba]).alloc (.cells #[.int .i64 h0, .int .i64 h1, .int .i64 h2, .int .i64 h3, .int .u32 h4, .int .u32 h5] 81)).alloc (.cells #[.int .i64 0, .int .u16 0, .int .u16 0, .int .i64 0, .int .i64 0, .int .i64 0, .bool false, .int .i64 0, .int .i64 0, .int .i64 0, .int .i64 0, .int .u32 0, .int .u32 0, .int .i64 0, .bool false] 87)
    have bh := (Blk.new (w.alloc (.cells #[.int .i64 pr, .int .u16 sr, .int .u16 ds, .int .i64 fl, .int .i64 ki, .int .i64 co, .bool er, .int .i64 i0, .int .i64 i1, .int .i64 i2, .int .i64 i3, .int .u32 i4, .int .u32 i5, .int .i64 pa, .bool ba] 87)) 81 #[.int .i64 h0, .int .i64 h1, .int .i64 h2, .int .i64 h3, .int .u32 h4, .int .u32 h5]).alloc (.cells #[.int .i64 0, .int .u16 0, .int .u16 0, .int .i64 0, .int .i64 0, .int .i64 0, .bool false, .int .i64 0, .int .i64 0, .int .i64 0, .int .i64 0, .int .u32 0, .int .u32 0, .int .i64 0, .bool false] 87)
    have bk := Blk.new ((w.alloc (.cells #[.int .i64 pr, .int .u16 sr, .int .u16 ds, .int .i64 fl, .int .i64 ki, .int .i64 co, .bool er, .int .i64 i0, .int .i64 i1, .int .i64 i2, .int .i64 i3, .int .u32 i4, .int .u32 i5, .int .i64 pa, .bool ba] 87)).alloc (.cells #[.int .i64 h0, .int .i64 h1, .int .i64 h2, .int .i64 h3, .int .u32 h4, .int .u32 h5] 81)) 87 #[.int .i64 0, .int .u16 0, .int .u16 0, .int .i64 0, .int .i64 0, .int .i64 0, .bool false, .int .i64 0, .int .i64 0, .int .i64 0, .int .i64 0, .int .u32 0, .int .u32 0, .int .i64 0, .bool false]
    rw [show (w.alloc (.cells #[.int .i64 pr, .int .u16 sr, .int .u16 ds, .int .i64 fl, .int .i64 ki, .int .i64 co, .bool er, .int .i64 i0, .int .i64 i1, .int .i64 i2, .int .i64 i3, .int .u32 i4, .int .u32 i5, .int .i64 pa, .bool ba] 87)).heap.size = w.heap.size + 1 by simp] at bh
    rw [show ((w.alloc (.cells #[.int .i64 pr, .int .u16 sr, .int .u16 ds, .int .i64 fl, .int .i64 ki, .int .i64 co, .bool er, .int .i64 i0, .int .i64 i1, .int .i64 i2, .int .i64 i3, .int .u32 i4, .int .u32 i5, .int .i64 pa, .bool ba] 87)).alloc (.cells #[.int .i64 h0, .int .i64 h1, .int .i64 h2, .int .i64 h3, .int .u32 h4, .int .u32 h5] 81)).heap.size = w.heap.size + 2 by simp] at bk
    have bel : Below w.heap.size w (((w.alloc (.cells #[.int .i64 pr, .int .u16 sr, .int .u16 ds, .int .i64 fl, .int .i64 ki, .int .i64 co, .bool er, .int .i64 i0, .int .i64 i1, .int .i64 i2, .int .i64 i3, .int .u32 i4, .int .u32 i5, .int .i64 pa, .bool ba] 87)).alloc (.cells #[.int .i64 h0, .int .i64 h1, .int .i64 h2, .int .i64 h3, .int .u32 h4, .int .u32 h5] 81)).alloc (.cells #[.int .i64 0, .int .u16 0, .int .u16 0, .int .i64 0, .int .i64 0, .int .i64 0, .bool false, .int .i64 0, .int .i64 0, .int .i64 0, .int .i64 0, .int .u32 0, .int .u32 0, .int .i64 0, .bool false] 87)) := ((bel_alloc _ _).alloc (by simp) _).alloc (by simp; omega) _
    generalize (((w.alloc (.cells #[.int .i64 pr, .int .u16 sr, .int .u16 ds, .int .i64 fl, .int .i64 ki, .int .i64 co, .bool er, .int .i64 i0, .int .i64 i1, .int .i64 i2, .int .i64 i3, .int .u32 i4, .int .u32 i5, .int .i64 pa, .bool ba] 87)).alloc (.cells #[.int .i64 h0, .int .i64 h1, .int .i64 h2, .int .i64 h3, .int .u32 h4, .int .u32 h5] 81)).alloc (.cells #[.int .i64 0, .int .u16 0, .int .u16 0, .int .i64 0, .int .i64 0, .int .i64 0, .bool false, .int .i64 0, .int .i64 0, .int .i64 0, .int .i64 0, .int .u32 0, .int .u32 0, .int .i64 0, .bool false] 87)) = W at *
    go_wp2_with fail
    refine (hpt.out _ bel).mono ?_
    rintro e w' ⟨rfl, hb⟩
    replace bk := bk.bel hb
    replace bh := bh.bel hb
    replace bp := bp.bel hb
    replace bel := bel_after bel hb
    clear hb
    have bkl := bk.lt
    go_upto_region 7 with (refine wpList_stRow rfl rfl rfl rfl rfl (Blk.new _ _ _) hd_size rfl (by simp [Value.oneCell']) ?_; have by_ := (Blk.new w' 81 #[.int .i64 0, .int .i64 0, .int .i64 0, .int .i64 0, .int .u32 0, .int .u32 0]).setRow #[.int .i64 (m : Int), .int .i64 y1, .int .i64 y2, .int .i64 y3, .int .u32 y4, .int .u32 y5]; replace bk := (bk.alloc (.cells #[.int .i64 0, .int .i64 0, .int .i64 0, .int .i64 0, .int .u32 0, .int .u32 0] 81)).setRow_far (g' := w'.heap.size) (by have := bk.lt; omega) #[.int .i64 (m : Int), .int .i64 y1, .int .i64 y2, .int .i64 y3, .int .u32 y4, .int .u32 y5]; replace bh := (bh.alloc (.cells #[.int .i64 0, .int .i64 0, .int .i64 0, .int .i64 0, .int .u32 0, .int .u32 0] 81)).setRow_far (g' := w'.heap.size) (by have := bh.lt; omega) #[.int .i64 (m : Int), .int .i64 y1, .int .i64 y2, .int .i64 y3, .int .u32 y4, .int .u32 y5]; replace bp := (bp.alloc (.cells #[.int .i64 0, .int .i64 0, .int .i64 0, .int .i64 0, .int .u32 0, .int .u32 0] 81)).setRow_far (g' := w'.heap.size) (by have := bp.lt; omega) #[.int .i64 (m : Int), .int .i64 y1, .int .i64 y2, .int .i64 y3, .int .u32 y4, .int .u32 y5]; replace bel := below_setRow (bel.alloc bel.size (.cells #[.int .i64 0, .int .i64 0, .int .i64 0, .int .i64 0, .int .u32 0, .int .u32 0] 81)) bel.size #[.int .i64 (m : Int), .int .i64 y1, .int .i64 y2, .int .i64 y3, .int .u32 y4, .int .u32 y5]; have hg3 : w.heap.size + 2 < w'.heap.size := (by have := bkl; omega); generalize (w'.alloc (.cells #[.int .i64 0, .int .i64 0, .int .i64 0, .int .i64 0, .int .u32 0, .int .u32 0] 81)).setRow w'.heap.size #[.int .i64 (m : Int), .int .i64 y1, .int .i64 y2, .int .i64 y3, .int .u32 y4, .int .u32 y5] = W3 at *; generalize w'.heap.size = g3 at *; have q0 := by_.cell 0; have q1 := by_.cell 1; have q3 := by_.cell 3)
    clear q0 q1 q3
    have z0 : ∀ t : Tw (fun w' => Blk w' g3 81 #[.int .i64 (m : Int), .int .i64 y1, .int .i64 y2, .int .i64 y3, .int .u32 y4, .int .u32 y5] ∧ Blk w' (w.heap.size + 1) 81 #[.int .i64 h0, .int .i64 h1, .int .i64 h2, .int .i64 h3, .int .u32 h4, .int .u32 h5]), t.w.cell? ⟨g3, 0, none⟩ = some (.int .i64 (m : Int)) := fun t => t.h.1.cell 0
    have z1 : ∀ t : Tw (fun w' => Blk w' g3 81 #[.int .i64 (m : Int), .int .i64 y1, .int .i64 y2, .int .i64 y3, .int .u32 y4, .int .u32 y5] ∧ Blk w' (w.heap.size + 1) 81 #[.int .i64 h0, .int .i64 h1, .int .i64 h2, .int .i64 h3, .int .u32 h4, .int .u32 h5]), t.w.cell? ⟨g3, 1, none⟩ = some (.int .i64 y1) := fun t => t.h.1.cell 1
    have z2 : ∀ t : Tw (fun w' => Blk w' g3 81 #[.int .i64 (m : Int), .int .i64 y1, .int .i64 y2, .int .i64 y3, .int .u32 y4, .int .u32 y5] ∧ Blk w' (w.heap.size + 1) 81 #[.int .i64 h0, .int .i64 h1, .int .i64 h2, .int .i64 h3, .int .u32 h4, .int .u32 h5]), t.w.cell? ⟨g3, 2, none⟩ = some (.int .i64 y2) := fun t => t.h.1.cell 2
    have z3 : ∀ t : Tw (fun w' => Blk w' g3 81 #[.int .i64 (m : Int), .int .i64 y1, .int .i64 y2, .int .i64 y3, .int .u32 y4, .int .u32 y5] ∧ Blk w' (w.heap.size + 1) 81 #[.int .i64 h0, .int .i64 h1, .int .i64 h2, .int .i64 h3, .int .u32 h4, .int .u32 h5]), t.w.cell? ⟨g3, 3, none⟩ = some (.int .i64 y3) := fun t => t.h.1.cell 3
    have z4 : ∀ t : Tw (fun w' => Blk w' g3 81 #[.int .i64 (m : Int), .int .i64 y1, .int .i64 y2, .int .i64 y3, .int .u32 y4, .int .u32 y5] ∧ Blk w' (w.heap.size + 1) 81 #[.int .i64 h0, .int .i64 h1, .int .i64 h2, .int .i64 h3, .int .u32 h4, .int .u32 h5]), t.w.cell? ⟨g3, 4, none⟩ = some (.int .u32 y4) := fun t => t.h.1.cell 4
    have z5 : ∀ t : Tw (fun w' => Blk w' g3 81 #[.int .i64 (m : Int), .int .i64 y1, .int .i64 y2, .int .i64 y3, .int .u32 y4, .int .u32 y5] ∧ Blk w' (w.heap.size + 1) 81 #[.int .i64 h0, .int .i64 h1, .int .i64 h2, .int .i64 h3, .int .u32 h4, .int .u32 h5]), t.w.cell? ⟨g3, 5, none⟩ = some (.int .u32 y5) := fun t => t.h.1.cell 5
    have v0 : ∀ t : Tw (fun w' => Blk w' g3 81 #[.int .i64 (m : Int), .int .i64 y1, .int .i64 y2, .int .i64 y3, .int .u32 y4, .int .u32 y5] ∧ Blk w' (w.heap.size + 1) 81 #[.int .i64 h0, .int .i64 h1, .int .i64 h2, .int .i64 h3, .int .u32 h4, .int .u32 h5]), t.w.cell? ⟨w.heap.size + 1, 0, none⟩ = some (.int .i64 h0) := fun t => t.h.2.cell 0
    have : Nonempty (Tw (fun w' => Blk w' g3 81 #[.int .i64 (m : Int), .int .i64 y1, .int .i64 y2, .int .i64 y3, .int .u32 y4, .int .u32 y5] ∧ Blk w' (w.heap.size + 1) 81 #[.int .i64 h0, .int .i64 h1, .int .i64 h2, .int .i64 h3, .int .u32 h4, .int .u32 h5])) := ⟨⟨_, by_, bh⟩⟩
    refine wp_region_plan (fun w' => Blk w' g3 81 #[.int .i64 (m : Int), .int .i64 y1, .int .i64 y2, .int .i64 y3, .int .u32 y4, .int .u32 y5] ∧ Blk w' (w.heap.size + 1) 81 #[.int .i64 h0, .int .i64 h1, .int .i64 h2, .int .i64 h3, .int .u32 h4, .int .u32 h5]) [(0, true), (1, true), (2, true), (3, true), (4, true), (5, false), (6, true), (7, false), (8, true), (9, false)] (by kernel_rfl) (by kernel_rfl) (by kernel_rfl) (by kernel_rfl) ⟨by_.drew, bh.drew⟩ ?_
    replace bp := bp.drew
    replace bh := bh.drew
    replace by_ := by_.drew
    replace bk := bk.drew
    replace bel := bel.drew
    generalize W3.drew = W4 at *
    refine wpPl_qs 5 _ _ _ (by kernel_rfl) (by kernel_rfl) (by simp) ?_
    unfold clsS
    simp only [List.take_succ_cons, List.take_zero, List.drop_succ_cons, List.drop_zero, List.filterMap_cons, List.filterMap_nil, List.getElem?_toArray, List.getElem?_cons_zero, List.getElem?_cons_succ]
    repeat (first
      | go_big_quiet_skip
      | (go_big_quiet_want; go_big_quiet_op; go_big_quiet_on)
      | (refine id (?_ : wpQuiet _ _ _ _ (_ :: _) _); first | go_big_quiet_skip | (go_big_quiet_want; go_big_quiet_op; go_big_quiet_on)))
    refine wpQuiet_nil ?_
    have q6 := bp.cell 6
    have r6 := bp.frozen 6
    refine wpPl_e _ (by rfl) (by kernel_rfl) (fun K hK => ?_)
    go_simp
    replace by_ := by_.far (p := ⟨w.heap.size, 6, none⟩) (by show g3 ≠ w.heap.size; omega) (.bool true)
    replace bh := bh.far (p := ⟨w.heap.size, 6, none⟩) (by show w.heap.size + 1 ≠ w.heap.size; omega) (.bool true)
    replace bk := bk.far (p := ⟨w.heap.size, 6, none⟩) (by show w.heap.size + 2 ≠ w.heap.size; omega) (.bool true)
    replace bel := bel.setCell (p := ⟨w.heap.size, 6, none⟩) (Nat.le_refl _) (.bool true)
    replace bp := bp.set_ 6 (.bool true)
    clear q6 r6
    refine hK _ _ ⟨by_, bh⟩ ?_
    clear hK K
    generalize W4.setCell ⟨w.heap.size, 6, none⟩ (.bool true) = W5 at *
    simp only [List.setIfInBounds_toArray, List.set_cons_succ, List.set_cons_zero] at bp
    refine wpPl_qs 1 _ _ _ (by kernel_rfl) (by kernel_rfl) (by simp) ?_
    unfold clsS
    simp only [List.take_succ_cons, List.take_zero, List.drop_succ_cons, List.drop_zero, List.filterMap_cons, List.filterMap_nil, List.getElem?_toArray, List.getElem?_cons_zero, List.getElem?_cons_succ]
    repeat (first
      | go_big_quiet_skip
      | (go_big_quiet_want; go_big_quiet_op; go_big_quiet_on)
      | (refine id (?_ : wpQuiet _ _ _ _ (_ :: _) _); first | go_big_quiet_skip | (go_big_quiet_want; go_big_quiet_op; go_big_quiet_on)))
    refine wpQuiet_nil ?_
    have c7 := bp.cell 7
    have c8 := bp.cell 8
    have c9 := bp.cell 9
    have c10 := bp.cell 10
    have c11 := bp.cell 11
    have c12 := bp.cell 12
    have r := bp.frozen
    refine wpPl_e _ (by rfl) (by kernel_rfl) (fun K hK => ?_)
    go_simp
    replace by_ := ((((((by_.far (p := ⟨w.heap.size, 7, none⟩) (by show g3 ≠ w.heap.size; omega) (.int .i64 (m : Int))).far (p := ⟨w.heap.size, 8, none⟩) (by show g3 ≠ w.heap.size; omega) (.int .i64 y1)).far (p := ⟨w.heap.size, 9, none⟩) (by show g3 ≠ w.heap.size; omega) (.int .i64 y2)).far (p := ⟨w.heap.size, 10, none⟩) (by show g3 ≠ w.heap.size; omega) (.int .i64 y3)).far (p := ⟨w.heap.size, 11, none⟩) (by show g3 ≠ w.heap.size; omega) (.int .u32 y4)).far (p := ⟨w.heap.size, 12, none⟩) (by show g3 ≠ w.heap.size; omega) (.int .u32 y5))
    replace bh := ((((((bh.far (p := ⟨w.heap.size, 7, none⟩) (by show w.heap.size + 1 ≠ w.heap.size; omega) (.int .i64 (m : Int))).far (p := ⟨w.heap.size, 8, none⟩) (by show w.heap.size + 1 ≠ w.heap.size; omega) (.int .i64 y1)).far (p := ⟨w.heap.size, 9, none⟩) (by show w.heap.size + 1 ≠ w.heap.size; omega) (.int .i64 y2)).far (p := ⟨w.heap.size, 10, none⟩) (by show w.heap.size + 1 ≠ w.heap.size; omega) (.int .i64 y3)).far (p := ⟨w.heap.size, 11, none⟩) (by show w.heap.size + 1 ≠ w.heap.size; omega) (.int .u32 y4)).far (p := ⟨w.heap.size, 12, none⟩) (by show w.heap.size + 1 ≠ w.heap.size; omega) (.int .u32 y5))
    replace bk := ((((((bk.far (p := ⟨w.heap.size, 7, none⟩) (by show w.heap.size + 2 ≠ w.heap.size; omega) (.int .i64 (m : Int))).far (p := ⟨w.heap.size, 8, none⟩) (by show w.heap.size + 2 ≠ w.heap.size; omega) (.int .i64 y1)).far (p := ⟨w.heap.size, 9, none⟩) (by show w.heap.size + 2 ≠ w.heap.size; omega) (.int .i64 y2)).far (p := ⟨w.heap.size, 10, none⟩) (by show w.heap.size + 2 ≠ w.heap.size; omega) (.int .i64 y3)).far (p := ⟨w.heap.size, 11, none⟩) (by show w.heap.size + 2 ≠ w.heap.size; omega) (.int .u32 y4)).far (p := ⟨w.heap.size, 12, none⟩) (by show w.heap.size + 2 ≠ w.heap.size; omega) (.int .u32 y5))
    replace bel := ((((((bel.setCell (p := ⟨w.heap.size, 7, none⟩) (Nat.le_refl _) (.int .i64 (m : Int))).setCell (p := ⟨w.heap.size, 8, none⟩) (Nat.le_refl _) (.int .i64 y1)).setCell (p := ⟨w.heap.size, 9, none⟩) (Nat.le_refl _) (.int .i64 y2)).setCell (p := ⟨w.heap.size, 10, none⟩) (Nat.le_refl _) (.int .i64 y3)).setCell (p := ⟨w.heap.size, 11, none⟩) (Nat.le_refl _) (.int .u32 y4)).setCell (p := ⟨w.heap.size, 12, none⟩) (Nat.le_refl _) (.int .u32 y5))
    replace bp := ((((((bp.set_ 7 (.int .i64 (m : Int))).set_ 8 (.int .i64 y1)).set_ 9 (.int .i64 y2)).set_ 10 (.int .i64 y3)).set_ 11 (.int .u32 y4)).set_ 12 (.int .u32 y5))
    clear c7 c8 c9 c10 c11 c12 r
    refine hK _ _ ⟨by_, bh⟩ ?_
    clear hK K
    generalize ((((((W5.setCell ⟨w.heap.size, 7, none⟩ (.int .i64 (m : Int))).setCell ⟨w.heap.size, 8, none⟩ (.int .i64 y1)).setCell ⟨w.heap.size, 9, none⟩ (.int .i64 y2)).setCell ⟨w.heap.size, 10, none⟩ (.int .i64 y3)).setCell ⟨w.heap.size, 11, none⟩ (.int .u32 y4)).setCell ⟨w.heap.size, 12, none⟩ (.int .u32 y5)) = W6 at *
    simp only [List.setIfInBounds_toArray, List.set_cons_succ, List.set_cons_zero] at bp
    refine wpPl_qs 1 _ _ _ (by kernel_rfl) (by kernel_rfl) (by simp) ?_
    unfold clsS
    simp only [List.take_succ_cons, List.take_zero, List.drop_succ_cons, List.drop_zero, List.filterMap_cons, List.filterMap_nil, List.getElem?_toArray, List.getElem?_cons_zero, List.getElem?_cons_succ]
    repeat (first
      | go_big_quiet_skip
      | (go_big_quiet_want; go_big_quiet_op; go_big_quiet_on)
      | (refine id (?_ : wpQuiet _ _ _ _ (_ :: _) _); first | go_big_quiet_skip | (go_big_quiet_want; go_big_quiet_op; go_big_quiet_on)))
    refine wpQuiet_nil ?_
    have q13 := bp.cell 13
    have r13 := bp.frozen 13
    refine wpPl_e _ (by rfl) (by kernel_rfl) (fun K hK => ?_)
    go_simp
    replace by_ := by_.far (p := ⟨w.heap.size, 13, none⟩) (by show g3 ≠ w.heap.size; omega) (.int .i64 (h0 + 8))
    replace bk := bk.far (p := ⟨w.heap.size, 13, none⟩) (by show w.heap.size + 2 ≠ w.heap.size; omega) (.int .i64 (h0 + 8))
    replace bh := bh.far (p := ⟨w.heap.size, 13, none⟩) (by show w.heap.size + 1 ≠ w.heap.size; omega) (.int .i64 (h0 + 8))
    replace bel := bel.setCell (p := ⟨w.heap.size, 13, none⟩) (Nat.le_refl _) (.int .i64 (h0 + 8))
    replace bp := bp.set_ 13 (.int .i64 (h0 + 8))
    clear q13 r13
    refine hK _ _ ⟨by_, bh⟩ ?_
    clear hK K
    unfold wpPl
    refine NoPanic.normal ?_
    generalize W6.setCell ⟨w.heap.size, 13, none⟩ (.int .i64 (h0 + 8)) = W7 at *
    simp only [List.setIfInBounds_toArray, List.set_cons_succ, List.set_cons_zero] at bp
    clear z0 z1 z2 z3 z4 z5 v0 this bh
    have q3 := by_.cell 3
    clear by_
    replace hcs := hcs.out
    have hr3 := fun w' (hb : Below w.heap.size w w') => (hr2.below hb).more hb.size
    obtain ⟨q, hq⟩ : ∃ q : Pt, q = ⟨pr, sr, ds, fl, ki, co, true, ⟨(m : Int), y1, y2, y3, y4, y5⟩, h0 + 8, ba⟩ := ⟨_, rfl⟩
    have hqv : q.val = .agg #[.int .i64 pr, .int .u16 sr, .int .u16 ds, .int .i64 fl, .int .i64 ki, .int .i64 co, .bool true, .int .i64 (m : Int), .int .i64 y1, .int .i64 y2, .int .i64 y3, .int .u32 y4, .int .u32 y5, .int .i64 (h0 + 8), .bool ba] := by rw [hq]; rfl
    rw [← hq] at hcs
    clear hq
    obtain ⟨L, hL⟩ : ∃ L, L = l.drop m := ⟨_, rfl⟩
    rw [← hL] at hcs hr3
    clear hL hrB hpt hg3 bkl hr2
    have hc4 : (c - m = 4) = False := by simp; omega
    rcases hcs with ⟨rfl, rfl⟩ | ⟨rfl, rfl⟩ | ⟨rfl, hx, rfl⟩ | ⟨rfl, hx, rfl⟩ | ⟨rfl, hx0, hx8, rfl⟩ | ⟨h17, h6, h1, rfl⟩
    · have hpo := fun w' (hb : Below w.heap.size w w') => ports_any q L b (o + m) (len - m) (c - m) _ w' (hr3 _ hb) (Nat.le_refl _) (by omega) (by omega) (by omega)
      rw [hqv] at hpo
      replace hpo := Lib.hid hpo
      go_wp2_with (refine wpList_ldRow rfl rfl rfl bp Tryz.underlying87 pt_size ?_)
      refine (hpo.out _ bel).mono ?_
      rintro e w' ⟨rfl, hb⟩
      replace bk := bk.bel hb
      replace bel := bel_after bel hb
      clear hb bp q3
      go_wp2_with (refine wpList_stRow rfl rfl rfl rfl rfl bk pt_size rfl (by simp [Value.oneCell', Pt.z, Hd.z, portsP]) ?_)
      exact bodyPost_ret (results_row2 rfl _ rfl (bk.setRow _) Tryz.underlying87 pt_size) rfl ⟨rfl, below_setRow bel (by omega) _⟩
    · have hpo := fun w' (hb : Below w.heap.size w w') => ports_any q L b (o + m) (len - m) (c - m) _ w' (hr3 _ hb) (Nat.le_refl _) (by omega) (by omega) (by omega)
      rw [hqv] at hpo
      replace hpo := Lib.hid hpo
      go_wp2_with (refine wpList_ldRow rfl rfl rfl bp Tryz.underlying87 pt_size ?_)
      refine (hpo.out _ bel).mono ?_
      rintro e w' ⟨rfl, hb⟩
      replace bk := bk.bel hb
      replace bel := bel_after bel hb
      clear hb bp q3
      go_wp2_with (refine wpList_stRow rfl rfl rfl rfl rfl bk pt_size rfl (by simp [Value.oneCell', Pt.z, Hd.z, portsP]) ?_)
      exact bodyPost_ret (results_row2 rfl _ rfl (bk.setRow _) Tryz.underlying87 pt_size) rfl ⟨rfl, below_setRow bel (by omega) _⟩
    · obtain ⟨c0, x0⟩ := (hr3 _ bel).cell0 (by omega)
      replace x0 := inr_u8 x0
      have hp4 := fun w' (hb : Below w.heap.size w w') => pnum_of L b (o + m) (len - m) 4 (len - m - 4) (c - m - 4) w' (hr3 _ hb) (by omega) (by omega)
      obtain ⟨N4, hN4⟩ : ∃ N, N = n2 L 4 := ⟨_, rfl⟩
      have hPv : (portsP q L 4 4).val = .agg #[.int .i64 pr, .int .u16 N4, .int .u16 N4, .int .i64 fl, .int .i64 ki, .int .i64 co, .bool true, .int .i64 (m : Int), .int .i64 y1, .int .i64 y2, .int .i64 1, .int .u32 y4, .int .u32 y5, .int .i64 (h0 + 8), .bool ba] := by unfold portsP; rw [hN4]; exact (pt_ports hqv _ _)
      rw [← hN4] at hp4
      clear hN4
      replace hPv := Lib.hid hPv
      replace hp4 := Lib.hid hp4
      generalize L.getD 0 0 = f0 at *
      subst hx
      go_upto_region 14 with fail
      clear c0 x0 q3
      have : Nonempty (Tw (fun w' => Below w.heap.size w w')) := ⟨⟨_, bel⟩⟩
      refine wp_region_plan (fun w' => Below w.heap.size w w') [(0, true), (1, true), (3, true), (4, true), (2, false), (6, true), (5, false), (7, false), (8, true), (9, false)] (by kernel_rfl) (by kernel_rfl) (by kernel_rfl) (by kernel_rfl) bel.drew ?_
      replace bp := bp.drew
      replace bk := bk.drew
      replace bel := bel.drew
      generalize W7.drew = W8 at *
      refine wpPl_qs 4 _ _ _ (by kernel_rfl) (by kernel_rfl) (by simp) ?_
      unfold clsS
      simp only [List.take_succ_cons, List.take_zero, List.drop_succ_cons, List.drop_zero, List.filterMap_cons, List.filterMap_nil, List.getElem?_toArray, List.getElem?_cons_zero, List.getElem?_cons_succ]
      repeat (first
        | go_big_quiet_skip
        | (go_big_quiet_want; go_big_quiet_op; go_big_quiet_on)
        | (refine id (?_ : wpQuiet _ _ _ _ (_ :: _) _); first | go_big_quiet_skip | (go_big_quiet_want; go_big_quiet_op; go_big_quiet_on)))
      refine wpQuiet_nil ?_
      refine wpPl_e _ (by rfl) (by kernel_rfl) (fun K hK => ?_)
      go_simp
      refine (hp4.out _ bel).mono ?_
      rintro e w1 ⟨rfl, hb1⟩
      replace bp := bp.bel hb1
      replace bk := bk.bel hb1
      replace bel := bel_after bel hb1
      clear hb1
      refine hK _ _ bel ?_
      clear hK K
      refine wpPl_qs 1 _ _ _ (by kernel_rfl) (by kernel_rfl) (by simp) ?_
      unfold clsS
      simp only [List.take_succ_cons, List.take_zero, List.drop_succ_cons, List.drop_zero, List.filterMap_cons, List.filterMap_nil, List.getElem?_toArray, List.getElem?_cons_zero, List.getElem?_cons_succ]
      repeat (first
        | go_big_quiet_skip
        | (go_big_quiet_want; go_big_quiet_op; go_big_quiet_on)
        | (refine id (?_ : wpQuiet _ _ _ _ (_ :: _) _); first | go_big_quiet_skip | (go_big_quiet_want; go_big_quiet_op; go_big_quiet_on)))
      refine wpQuiet_nil ?_
      refine wpPl_e _ (by rfl) (by kernel_rfl) (fun K hK => ?_)
      go_simp
      refine (hp4.out _ bel).mono ?_
      rintro e w2 ⟨rfl, hb1⟩
      replace bp := bp.bel hb1
      replace bk := bk.bel hb1
      replace bel := bel_after bel hb1
      clear hb1
      refine hK _ _ bel ?_
      clear hK K
      have q1 := bp.cell 1
      have r1 := bp.frozen 1
      refine wpPl_e _ (by rfl) (by kernel_rfl) (fun K hK => ?_)
      go_simp
      replace bk := bk.far (p := ⟨w.heap.size, 1, none⟩) (by show w.heap.size + 2 ≠ w.heap.size; omega) (.int .u16 N4)
      replace bel := bel.setCell (p := ⟨w.heap.size, 1, none⟩) (Nat.le_refl _) (.int .u16 N4)
      replace bp := bp.set_ 1 (.int .u16 N4)
      clear q1 r1
      refine hK _ _ bel ?_
      clear hK K
      refine wpPl_qs 1 _ _ _ (by kernel_rfl) (by kernel_rfl) (by simp) ?_
      unfold clsS
      simp only [List.take_succ_cons, List.take_zero, List.drop_succ_cons, List.drop_zero, List.filterMap_cons, List.filterMap_nil, List.getElem?_toArray, List.getElem?_cons_zero, List.getElem?_cons_succ]
      repeat (first
        | go_big_quiet_skip
        | (go_big_quiet_want; go_big_quiet_op; go_big_quiet_on)
        | (refine id (?_ : wpQuiet _ _ _ _ (_ :: _) _); first | go_big_quiet_skip | (go_big_quiet_want; go_big_quiet_op; go_big_quiet_on)))
      refine wpQuiet_nil ?_
      have q2 := bp.cell 2
      have r2 := bp.frozen 2
      refine wpPl_e _ (by rfl) (by kernel_rfl) (fun K hK => ?_)
      go_simp
      replace bk := bk.far (p := ⟨w.heap.size, 2, none⟩) (by show w.heap.size + 2 ≠ w.heap.size; omega) (.int .u16 N4)
      replace bel := bel.setCell (p := ⟨w.heap.size, 2, none⟩) (Nat.le_refl _) (.int .u16 N4)
      replace bp := bp.set_ 2 (.int .u16 N4)
      clear q2 r2
      refine hK _ _ bel ?_
      clear hK K
      unfold wpPl
      refine NoPanic.normal ?_
      simp only [List.setIfInBounds_toArray, List.set_cons_succ, List.set_cons_zero] at bp
      generalize ((w2.setCell ⟨w.heap.size, 1, none⟩ (.int .u16 N4)).setCell ⟨w.heap.size, 2, none⟩ (.int .u16 N4)) = W9 at *
      go_wp2_with (first
        | (refine wpList_ldRow rfl rfl rfl bp Tryz.underlying87 pt_size ?_)
        | (refine wpList_stRow rfl rfl rfl rfl rfl bk pt_size rfl (by simp [Value.oneCell']) ?_))
      refine bodyPost_ret (results_row2 rfl _ rfl (bk.setRow _) Tryz.underlying87 pt_size) rfl ⟨?_, below_setRow bel (by omega) _⟩
      exact congrArg (fun x => Ending.returned (.tuple #[x, .int .i64 0])) hPv.out.symm
    · obtain ⟨c0, x0⟩ := (hr3 _ bel).cell0 (by omega)
      replace x0 := inr_u8 x0
      have hp4 := fun w' (hb : Below w.heap.size w w') => pnum_of L b (o + m) (len - m) 4 (len - m - 4) (c - m - 4) w' (hr3 _ hb) (by omega) (by omega)
      obtain ⟨N4, hN4⟩ : ∃ N, N = n2 L 4 := ⟨_, rfl⟩
      have hPv : (portsP q L 4 4).val = .agg #[.int .i64 pr, .int .u16 N4, .int .u16 N4, .int .i64 fl, .int .i64 ki, .int .i64 co, .bool true, .int .i64 (m : Int), .int .i64 y1, .int .i64 y2, .int .i64 1, .int .u32 y4, .int .u32 y5, .int .i64 (h0 + 8), .bool ba] := by unfold portsP; rw [hN4]; exact (pt_ports hqv _ _)
      rw [← hN4] at hp4
      clear hN4
      replace hPv := Lib.hid hPv
      replace hp4 := Lib.hid hp4
      generalize L.getD 0 0 = f0 at *
      subst hx
      go_upto_region 14 with fail
      clear c0 x0 q3
      have : Nonempty (Tw (fun w' => Below w.heap.size w w')) := ⟨⟨_, bel⟩⟩
      refine wp_region_plan (fun w' => Below w.heap.size w w') [(0, true), (1, true), (3, true), (4, true), (2, false), (6, true), (5, false), (7, false), (8, true), (9, false)] (by kernel_rfl) (by kernel_rfl) (by kernel_rfl) (by kernel_rfl) bel.drew ?_
      replace bp := bp.drew
      replace bk := bk.drew
      replace bel := bel.drew
      generalize W7.drew = W8 at *
      refine wpPl_qs 4 _ _ _ (by kernel_rfl) (by kernel_rfl) (by simp) ?_
      unfold clsS
      simp only [List.take_succ_cons, List.take_zero, List.drop_succ_cons, List.drop_zero, List.filterMap_cons, List.filterMap_nil, List.getElem?_toArray, List.getElem?_cons_zero, List.getElem?_cons_succ]
      repeat (first
        | go_big_quiet_skip
        | (go_big_quiet_want; go_big_quiet_op; go_big_quiet_on)
        | (refine id (?_ : wpQuiet _ _ _ _ (_ :: _) _); first | go_big_quiet_skip | (go_big_quiet_want; go_big_quiet_op; go_big_quiet_on)))
      refine wpQuiet_nil ?_
      refine wpPl_e _ (by rfl) (by kernel_rfl) (fun K hK => ?_)
      go_simp
      refine (hp4.out _ bel).mono ?_
      rintro e w1 ⟨rfl, hb1⟩
      replace bp := bp.bel hb1
      replace bk := bk.bel hb1
      replace bel := bel_after bel hb1
      clear hb1
      refine hK _ _ bel ?_
      clear hK K
      refine wpPl_qs 1 _ _ _ (by kernel_rfl) (by kernel_rfl) (by simp) ?_
      unfold clsS
      simp only [List.take_succ_cons, List.take_zero, List.drop_succ_cons, List.drop_zero, List.filterMap_cons, List.filterMap_nil, List.getElem?_toArray, List.getElem?_cons_zero, List.getElem?_cons_succ]
      repeat (first
        | go_big_quiet_skip
        | (go_big_quiet_want; go_big_quiet_op; go_big_quiet_on)
        | (refine id (?_ : wpQuiet _ _ _ _ (_ :: _) _); first | go_big_quiet_skip | (go_big_quiet_want; go_big_quiet_op; go_big_quiet_on)))
      refine wpQuiet_nil ?_
      refine wpPl_e _ (by rfl) (by kernel_rfl) (fun K hK => ?_)
      go_simp
      refine (hp4.out _ bel).mono ?_
      rintro e w2 ⟨rfl, hb1⟩
      replace bp := bp.bel hb1
      replace bk := bk.bel hb1
      replace bel := bel_after bel hb1
      clear hb1
      refine hK _ _ bel ?_
      clear hK K
      have q1 := bp.cell 1
      have r1 := bp.frozen 1
      refine wpPl_e _ (by rfl) (by kernel_rfl) (fun K hK => ?_)
      go_simp
      replace bk := bk.far (p := ⟨w.heap.size, 1, none⟩) (by show w.heap.size + 2 ≠ w.heap.size; omega) (.int .u16 N4)
      replace bel := bel.setCell (p := ⟨w.heap.size, 1, none⟩) (Nat.le_refl _) (.int .u16 N4)
      replace bp := bp.set_ 1 (.int .u16 N4)
      clear q1 r1
      refine hK _ _ bel ?_
      clear hK K
      refine wpPl_qs 1 _ _ _ (by kernel_rfl) (by kernel_rfl) (by simp) ?_
      unfold clsS
      simp only [List.take_succ_cons, List.take_zero, List.drop_succ_cons, List.drop_zero, List.filterMap_cons, List.filterMap_nil, List.getElem?_toArray, List.getElem?_cons_zero, List.getElem?_cons_succ]
      repeat (first
        | go_big_quiet_skip
        | (go_big_quiet_want; go_big_quiet_op; go_big_quiet_on)
        | (refine id (?_ : wpQuiet _ _ _ _ (_ :: _) _); first | go_big_quiet_skip | (go_big_quiet_want; go_big_quiet_op; go_big_quiet_on)))
      refine wpQuiet_nil ?_
      have q2 := bp.cell 2
      have r2 := bp.frozen 2
      refine wpPl_e _ (by rfl) (by kernel_rfl) (fun K hK => ?_)
      go_simp
      replace bk := bk.far (p := ⟨w.heap.size, 2, none⟩) (by show w.heap.size + 2 ≠ w.heap.size; omega) (.int .u16 N4)
      replace bel := bel.setCell (p := ⟨w.heap.size, 2, none⟩) (Nat.le_refl _) (.int .u16 N4)
      replace bp := bp.set_ 2 (.int .u16 N4)
      clear q2 r2
      refine hK _ _ bel ?_
      clear hK K
      unfold wpPl
      refine NoPanic.normal ?_
      simp only [List.setIfInBounds_toArray, List.set_cons_succ, List.set_cons_zero] at bp
      generalize ((w2.setCell ⟨w.heap.size, 1, none⟩ (.int .u16 N4)).setCell ⟨w.heap.size, 2, none⟩ (.int .u16 N4)) = W9 at *
      go_wp2_with (first
        | (refine wpList_ldRow rfl rfl rfl bp Tryz.underlying87 pt_size ?_)
        | (refine wpList_stRow rfl rfl rfl rfl rfl bk pt_size rfl (by simp [Value.oneCell']) ?_))
      refine bodyPost_ret (results_row2 rfl _ rfl (bk.setRow _) Tryz.underlying87 pt_size) rfl ⟨?_, below_setRow bel (by omega) _⟩
      exact congrArg (fun x => Ending.returned (.tuple #[x, .int .i64 0])) hPv.out.symm
    · obtain ⟨c0, x0⟩ := (hr3 _ bel).cell0 (by omega)
      replace x0 := inr_u8 x0
      generalize L.getD 0 0 = f0 at *
      have e1 : (f0 == 0) = false := by simpa using hx0
      have e2 : (f0 == 8) = false := by simpa using hx8
      go_wp2_with (refine wpList_stRow rfl rfl rfl rfl rfl bk pt_size rfl (by simp [Value.oneCell', Pt.z, Hd.z, portsP]) ?_)
      exact bodyPost_ret (results_row2 rfl _ rfl (bk.setRow _) Tryz.underlying87 pt_size) rfl ⟨rfl, below_setRow bel (by omega) _⟩
    · have e1 : (y3 == 17) = false := by simpa using h17
      have e2 : (y3 == 6) = false := by simpa using h6
      have e3 : (y3 == 1) = false := by simpa using h1
      go_wp2_with (refine wpList_stRow rfl rfl rfl rfl rfl bk pt_size rfl (by simp [Value.oneCell', Pt.z, Hd.z, portsP]) ?_)
      exact bodyPost_ret (results_row2 rfl _ rfl (bk.setRow _) Tryz.underlying87 pt_size) rfl ⟨rfl, below_setRow bel (by omega) _⟩
end Go.Proofs.YtilhkhnjloplfaaGreatDoor
