/- The walks of package part: fault. -/
import Derived.Test.YtjaacmecniijgaaPart5
namespace Go.Proofs.Ytjaacmecniijgaa
set_option linter.unusedVariables false
set_option linter.unusedSimpArgs false
open Go.RowKit
theorem faultR_cases (p : Pt) (at_ : Int) (b : List Int) {R : PR} (hR : faultR p at_ b = R) :
    (partE b ≠ 0 ∧ R = (partE b, Pt.z)) ∨ (partE b = 0 ∧ ((b.length : Int) - (hdOf b).size < 8 ∧ R = (3, Pt.z) ∨ 8 ≤ (b.length : Int) - (hdOf b).size ∧ (hdOf b).len < (hdOf b).size + 8 ∧ R = (3, Pt.z) ∨
      8 ≤ (b.length : Int) - (hdOf b).size ∧ (hdOf b).size + 8 ≤ (hdOf b).len ∧
        ((hdOf b).proto = 17 ∧ R = (0, portsP { p with err := true, inner := hdOf b, pat := at_ } (b.drop (hdOf b).size.toNat) 0 2) ∨
         (hdOf b).proto = 6 ∧ R = (0, portsP { p with err := true, inner := hdOf b, pat := at_ } (b.drop (hdOf b).size.toNat) 0 2) ∨
         (hdOf b).proto = 1 ∧ (b.drop (hdOf b).size.toNat).getD 0 0 = 0 ∧ R = (0, portsP { p with err := true, inner := hdOf b, pat := at_ } (b.drop (hdOf b).size.toNat) 4 4) ∨
         (hdOf b).proto = 1 ∧ (b.drop (hdOf b).size.toNat).getD 0 0 = 8 ∧ R = (0, portsP { p with err := true, inner := hdOf b, pat := at_ } (b.drop (hdOf b).size.toNat) 4 4) ∨
         (hdOf b).proto = 1 ∧ (b.drop (hdOf b).size.toNat).getD 0 0 ≠ 0 ∧ (b.drop (hdOf b).size.toNat).getD 0 0 ≠ 8 ∧ R = (6, Pt.z) ∨
         (hdOf b).proto ≠ 17 ∧ (hdOf b).proto ≠ 6 ∧ (hdOf b).proto ≠ 1 ∧ R = (6, Pt.z)))) := by
  subst hR
  unfold faultR
  by_cases h1 : partE b = 0
  · rw [if_neg (by simpa using h1)]
    refine .inr ⟨h1, ?_⟩
    by_cases h2 : (b.length : Int) - (hdOf b).size < 8
    · rw [if_pos (.inl h2)]; exact .inl ⟨h2, rfl⟩
    · by_cases h3 : (hdOf b).len < (hdOf b).size + 8
      · rw [if_pos (.inr h3)]; exact .inr (.inl ⟨by omega, h3, rfl⟩)
      · rw [if_neg (by omega)]
        refine .inr (.inr ⟨by omega, by omega, ?_⟩)
        by_cases h17 : (hdOf b).proto = 17
        · rw [if_pos (.inl h17)]; exact .inl ⟨h17, rfl⟩
        · by_cases h6 : (hdOf b).proto = 6
          · rw [if_pos (.inr h6)]; exact .inr (.inl ⟨h6, rfl⟩)
          · rw [if_neg (by omega)]
            by_cases h0 : (hdOf b).proto = 1
            · by_cases y0 : (b.drop (hdOf b).size.toNat).getD 0 0 = 0
              · rw [if_pos ⟨h0, .inl y0⟩]; exact .inr (.inr (.inl ⟨h0, y0, rfl⟩))
              · by_cases y8 : (b.drop (hdOf b).size.toNat).getD 0 0 = 8
                · rw [if_pos ⟨h0, .inr y8⟩]; exact .inr (.inr (.inr (.inl ⟨h0, y8, rfl⟩)))
                · rw [if_neg (by rintro ⟨_, h | h⟩ <;> contradiction)]; exact .inr (.inr (.inr (.inr (.inl ⟨h0, y0, y8, rfl⟩))))
            · rw [if_neg (fun h => h0 h.1)]; exact .inr (.inr (.inr (.inr (.inr ⟨h17, h6, h0, rfl⟩))))
  · rw [if_pos h1]; exact .inl ⟨h1, rfl⟩
theorem partE_ok {l : List Int} (h : partE l = 0) : 20 ≤ l.length ∧ 20 ≤ (hdOf l).size ∧ (hdOf l).size ≤ l.length ∧ (hdOf l).size ≤ 60 ∧ (hdOf l).size ≤ (hdOf l).len ∧ (hdOf l).len ≤ 65535 := by
  rcases partE_cases l with ⟨h1, h2⟩ | ⟨h1, h2, _⟩
  · omega
  · rcases shape_cases l 65535 with h' | h' | h' | h' | h' | h' | h'
    all_goals first
      | (have := h'.1; omega)
      | (simp only [hdOf]; omega)

theorem hd_size : (Try.prog.info? 82).map (·.size) = some 6 := by kernel_rfl
set_option maxRecDepth 100000 in
set_option maxHeartbeats 2000000 in
theorem fault_bad (p : Pt) (h : Hd) (l : List Int) (A : Option Addr) (len c B : Nat) (w : World) (hr : Rd .u8 w B A len l) (hB : B ≤ w.heap.size) (hlc : len ≤ c) (hcm : c ≤ 9223372036854775807) (hh : 0 ≤ h.size ∧ h.size ≤ 1000) (hbad : ¬ (partE l = 0 ∧ 8 ≤ (l.length : Int) - (hdOf l).size ∧ (hdOf l).size + 8 ≤ (hdOf l).len)) :
    Calls Try.prog 63 #[p.val, h.val, .slice A len c] w (Tells w (faultR p (h.size + 8) l)) := by
  rw [hr.len] at hbad
  have hcs := faultR_cases p (h.size + 8) l rfl
  rw [hr.len] at hcs
  have hok := fun h => partE_ok (l := l) h
  rw [hr.len] at hok
  obtain ⟨pr, sr, ds, fl, ki, co, er, ⟨i0, i1, i2, i3, i4, i5⟩, pa, ba⟩ := p
  obtain ⟨h0, h1, h2, h3, h4, h5⟩ := h
  unfold Hd.val Tells Pt.val
  simp only at hh hcs ⊢
  generalize faultR _ (h0 + 8) l = R at *
  have hrB := hr.more hB
  have hpt := fun w' (hb : Below w.heap.size w w') => Part_any l A len c _ w' ((hrB.below hb).more hb.size) (Nat.le_refl _) hlc hcm
  unfold hdIf at hpt
  rcases hcs with ⟨he, rfl⟩ | ⟨he, hcs⟩
  · rw [if_neg he] at hpt
    obtain ⟨E, hE⟩ : ∃ E, partE l = E := ⟨_, rfl⟩
    rw [hE] at he hpt ⊢
    have e1 : (E != 0) = true := by simpa using he
    have hz : Hd.z.val = .agg #[.int .i64 0, .int .i64 0, .int .i64 0, .int .i64 0, .int .u32 0, .int .u32 0] := rfl
    rw [hz] at hpt
    clear hE hok hz
    replace hpt := Lib.hid hpt
    go_enter Try.func63, Try.ntmps63
    go_upto_region 1 with fail
    have bp := ((Blk.new w 86 #[.int .i64 pr, .int .u16 sr, .int .u16 ds, .int .i64 fl, .int .i64 ki, .int .i64 co, .bool er, .int .i64 i0, .int .i64 i1, .int .i64 i2, .int .i64 i3, .int .u32 i4, .int .u32 i5, .int .i64 pa, .bool ba]).alloc (.cells #[.int .i64 h0, .int .i64 h1, .int .i64 h2, .int .i64 h3, .int .u32 h4, .int .u32 h5] 82)).alloc (.cells #[.int .i64 0, .int .u16 0, .int .u16 0, .int .i64 0, .int .i64 0, .int .i64 0, .bool false, .int .i64 0, .int .i64 0, .int .i64 0, .int .i64 0, .int .u32 0, .int .u32 0, .int .i64 0, .bool false] 86)
    have bh := (Blk.new (w.alloc (.cells #[.int .i64 pr, .int .u16 sr, .int .u16 ds, .int .i64 fl, .int .i64 ki, .int .i64 co, .bool er, .int .i64 i0, .int .i64 i1, .int .i64 i2, .int .i64 i3, .int .u32 i4, .int .u32 i5, .int .i64 pa, .bool ba] 86)) 82 #[.int .i64 h0, .int .i64 h1, .int .i64 h2, .int .i64 h3, .int .u32 h4, .int .u32 h5]).alloc (.cells #[.int .i64 0, .int .u16 0, .int .u16 0, .int .i64 0, .int .i64 0, .int .i64 0, .bool false, .int .i64 0, .int .i64 0, .int .i64 0, .int .i64 0, .int .u32 0, .int .u32 0, .int .i64 0, .bool false] 86)
    have bk := Blk.new ((w.alloc (.cells #[.int .i64 pr, .int .u16 sr, .int .u16 ds, .int .i64 fl, .int .i64 ki, .int .i64 co, .bool er, .int .i64 i0, .int .i64 i1, .int .i64 i2, .int .i64 i3, .int .u32 i4, .int .u32 i5, .int .i64 pa, .bool ba] 86)).alloc (.cells #[.int .i64 h0, .int .i64 h1, .int .i64 h2, .int .i64 h3, .int .u32 h4, .int .u32 h5] 82)) 86 #[.int .i64 0, .int .u16 0, .int .u16 0, .int .i64 0, .int .i64 0, .int .i64 0, .bool false, .int .i64 0, .int .i64 0, .int .i64 0, .int .i64 0, .int .u32 0, .int .u32 0, .int .i64 0, .bool false]
    rw [show (w.alloc (.cells #[.int .i64 pr, .int .u16 sr, .int .u16 ds, .int .i64 fl, .int .i64 ki, .int .i64 co, .bool er, .int .i64 i0, .int .i64 i1, .int .i64 i2, .int .i64 i3, .int .u32 i4, .int .u32 i5, .int .i64 pa, .bool ba] 86)).heap.size = w.heap.size + 1 by simp] at bh
    rw [show ((w.alloc (.cells #[.int .i64 pr, .int .u16 sr, .int .u16 ds, .int .i64 fl, .int .i64 ki, .int .i64 co, .bool er, .int .i64 i0, .int .i64 i1, .int .i64 i2, .int .i64 i3, .int .u32 i4, .int .u32 i5, .int .i64 pa, .bool ba] 86)).alloc (.cells #[.int .i64 h0, .int .i64 h1, .int .i64 h2, .int .i64 h3, .int .u32 h4, .int .u32 h5] 82)).heap.size = w.heap.size + 2 by simp] at bk
    have bel : Below w.heap.size w (((w.alloc (.cells #[.int .i64 pr, .int .u16 sr, .int .u16 ds, .int .i64 fl, .int .i64 ki, .int .i64 co, .bool er, .int .i64 i0, .int .i64 i1, .int .i64 i2, .int .i64 i3, .int .u32 i4, .int .u32 i5, .int .i64 pa, .bool ba] 86)).alloc (.cells #[.int .i64 h0, .int .i64 h1, .int .i64 h2, .int .i64 h3, .int .u32 h4, .int .u32 h5] 82)).alloc (.cells #[.int .i64 0, .int .u16 0, .int .u16 0, .int .i64 0, .int .i64 0, .int .i64 0, .bool false, .int .i64 0, .int .i64 0, .int .i64 0, .int .i64 0, .int .u32 0, .int .u32 0, .int .i64 0, .bool false] 86)) := ((bel_alloc _ _).alloc (by simp) _).alloc (by simp; omega) _
    generalize (((w.alloc (.cells #[.int .i64 pr, .int .u16 sr, .int .u16 ds, .int .i64 fl, .int .i64 ki, .int .i64 co, .bool er, .int .i64 i0, .int .i64 i1, .int .i64 i2, .int .i64 i3, .int .u32 i4, .int .u32 i5, .int .i64 pa, .bool ba] 86)).alloc (.cells #[.int .i64 h0, .int .i64 h1, .int .i64 h2, .int .i64 h3, .int .u32 h4, .int .u32 h5] 82)).alloc (.cells #[.int .i64 0, .int .u16 0, .int .u16 0, .int .i64 0, .int .i64 0, .int .i64 0, .bool false, .int .i64 0, .int .i64 0, .int .i64 0, .int .i64 0, .int .u32 0, .int .u32 0, .int .i64 0, .bool false] 86)) = W at *
    go_wp2_with fail
    refine (hpt.out _ bel).mono ?_
    rintro e w' ⟨rfl, hb⟩
    replace bk := bk.bel hb
    replace bh := bh.bel hb
    replace bp := bp.bel hb
    replace bel := bel_after bel hb
    clear hb
    have bkl := bk.lt
    go_wp2_with (first | (refine wpList_stRow rfl rfl rfl rfl rfl (Blk.new _ _ _) hd_size rfl (by simp [Value.oneCell']) ?_; have by_ := (Blk.new w' 82 #[.int .i64 0, .int .i64 0, .int .i64 0, .int .i64 0, .int .u32 0, .int .u32 0]).setRow #[.int .i64 0, .int .i64 0, .int .i64 0, .int .i64 0, .int .u32 0, .int .u32 0]; replace bk := (bk.alloc (.cells #[.int .i64 0, .int .i64 0, .int .i64 0, .int .i64 0, .int .u32 0, .int .u32 0] 82)).setRow_far (g' := w'.heap.size) (by have := bk.lt; omega) #[.int .i64 0, .int .i64 0, .int .i64 0, .int .i64 0, .int .u32 0, .int .u32 0]; replace bh := (bh.alloc (.cells #[.int .i64 0, .int .i64 0, .int .i64 0, .int .i64 0, .int .u32 0, .int .u32 0] 82)).setRow_far (g' := w'.heap.size) (by have := bh.lt; omega) #[.int .i64 0, .int .i64 0, .int .i64 0, .int .i64 0, .int .u32 0, .int .u32 0]; replace bp := (bp.alloc (.cells #[.int .i64 0, .int .i64 0, .int .i64 0, .int .i64 0, .int .u32 0, .int .u32 0] 82)).setRow_far (g' := w'.heap.size) (by have := bp.lt; omega) #[.int .i64 0, .int .i64 0, .int .i64 0, .int .i64 0, .int .u32 0, .int .u32 0]; replace bel := below_setRow (bel.alloc bel.size (.cells #[.int .i64 0, .int .i64 0, .int .i64 0, .int .i64 0, .int .u32 0, .int .u32 0] 82)) bel.size #[.int .i64 0, .int .i64 0, .int .i64 0, .int .i64 0, .int .u32 0, .int .u32 0]; have hg3 : w.heap.size + 2 < w'.heap.size := (by have := bkl; omega); generalize (w'.alloc (.cells #[.int .i64 0, .int .i64 0, .int .i64 0, .int .i64 0, .int .u32 0, .int .u32 0] 82)).setRow w'.heap.size #[.int .i64 0, .int .i64 0, .int .i64 0, .int .i64 0, .int .u32 0, .int .u32 0] = W3 at *; generalize w'.heap.size = g3 at *) | (refine wpList_stRow rfl rfl rfl rfl rfl bk pt_size rfl (by simp [Value.oneCell', Pt.z, Hd.z, portsP]) ?_))
    exact bodyPost_ret (results_row2 rfl _ rfl (bk.setRow _) Try.underlying86 pt_size) rfl ⟨rfl, below_setRow bel (by omega) _⟩
  have hk := hok he
  rw [if_pos he, he] at hpt
  obtain ⟨m, y1, y2, y3, y4, y5, hy⟩ : ∃ (m : Nat) (y1 y2 y3 y4 y5 : Int), hdOf l = ⟨(m : Int), y1, y2, y3, y4, y5⟩ := ⟨(hdOf l).size.toNat, _, _, _, _, _, by rw [Int.toNat_of_nonneg (by omega)]⟩
  rw [hy] at hpt hcs hk hbad
  unfold Hd.val at hpt
  simp only [Int.toNat_natCast] at hpt hcs hk hbad
  obtain ⟨A2, hA2, hr2⟩ := hrB.cut (m := m) (cap := c) (by omega) (by omega)
  clear hok hy
  replace hpt := Lib.hid hpt
  rcases hcs with ⟨hlt, rfl⟩ | ⟨hge, hlt, rfl⟩ | ⟨hge, hle, hcs⟩
  · clear he hbad
    have d1 : decide (len - m < 8) = true := by simp; omega
    have d2 : decide (((len - m : Nat) : Int) < 8) = true := by simp; omega
    go_enter Try.func63, Try.ntmps63
    go_upto_region 1 with fail
    have bp := ((Blk.new w 86 #[.int .i64 pr, .int .u16 sr, .int .u16 ds, .int .i64 fl, .int .i64 ki, .int .i64 co, .bool er, .int .i64 i0, .int .i64 i1, .int .i64 i2, .int .i64 i3, .int .u32 i4, .int .u32 i5, .int .i64 pa, .bool ba]).alloc (.cells #[.int .i64 h0, .int .i64 h1, .int .i64 h2, .int .i64 h3, .int .u32 h4, .int .u32 h5] 82)).alloc (.cells #[.int .i64 0, .int .u16 0, .int .u16 0, .int .i64 0, .int .i64 0, .int .i64 0, .bool false, .int .i64 0, .int .i64 0, .int .i64 0, .int .i64 0, .int .u32 0, .int .u32 0, .int .i64 0, .bool false] 86)
    have bh := (Blk.new (w.alloc (.cells #[.int .i64 pr, .int .u16 sr, .int .u16 ds, .int .i64 fl, .int .i64 ki, .int .i64 co, .bool er, .int .i64 i0, .int .i64 i1, .int .i64 i2, .int .i64 i3, .int .u32 i4, .int .u32 i5, .int .i64 pa, .bool ba] 86)) 82 #[.int .i64 h0, .int .i64 h1, .int .i64 h2, .int .i64 h3, .int .u32 h4, .int .u32 h5]).alloc (.cells #[.int .i64 0, .int .u16 0, .int .u16 0, .int .i64 0, .int .i64 0, .int .i64 0, .bool false, .int .i64 0, .int .i64 0, .int .i64 0, .int .i64 0, .int .u32 0, .int .u32 0, .int .i64 0, .bool false] 86)
    have bk := Blk.new ((w.alloc (.cells #[.int .i64 pr, .int .u16 sr, .int .u16 ds, .int .i64 fl, .int .i64 ki, .int .i64 co, .bool er, .int .i64 i0, .int .i64 i1, .int .i64 i2, .int .i64 i3, .int .u32 i4, .int .u32 i5, .int .i64 pa, .bool ba] 86)).alloc (.cells #[.int .i64 h0, .int .i64 h1, .int .i64 h2, .int .i64 h3, .int .u32 h4, .int .u32 h5] 82)) 86 #[.int .i64 0, .int .u16 0, .int .u16 0, .int .i64 0, .int .i64 0, .int .i64 0, .bool false, .int .i64 0, .int .i64 0, .int .i64 0, .int .i64 0, .int .u32 0, .int .u32 0, .int .i64 0, .bool false]
    rw [show (w.alloc (.cells #[.int .i64 pr, .int .u16 sr, .int .u16 ds, .int .i64 fl, .int .i64 ki, .int .i64 co, .bool er, .int .i64 i0, .int .i64 i1, .int .i64 i2, .int .i64 i3, .int .u32 i4, .int .u32 i5, .int .i64 pa, .bool ba] 86)).heap.size = w.heap.size + 1 by simp] at bh
    rw [show ((w.alloc (.cells #[.int .i64 pr, .int .u16 sr, .int .u16 ds, .int .i64 fl, .int .i64 ki, .int .i64 co, .bool er, .int .i64 i0, .int .i64 i1, .int .i64 i2, .int .i64 i3, .int .u32 i4, .int .u32 i5, .int .i64 pa, .bool ba] 86)).alloc (.cells #[.int .i64 h0, .int .i64 h1, .int .i64 h2, .int .i64 h3, .int .u32 h4, .int .u32 h5] 82)).heap.size = w.heap.size + 2 by simp] at bk
    have bel : Below w.heap.size w (((w.alloc (.cells #[.int .i64 pr, .int .u16 sr, .int .u16 ds, .int .i64 fl, .int .i64 ki, .int .i64 co, .bool er, .int .i64 i0, .int .i64 i1, .int .i64 i2, .int .i64 i3, .int .u32 i4, .int .u32 i5, .int .i64 pa, .bool ba] 86)).alloc (.cells #[.int .i64 h0, .int .i64 h1, .int .i64 h2, .int .i64 h3, .int .u32 h4, .int .u32 h5] 82)).alloc (.cells #[.int .i64 0, .int .u16 0, .int .u16 0, .int .i64 0, .int .i64 0, .int .i64 0, .bool false, .int .i64 0, .int .i64 0, .int .i64 0, .int .i64 0, .int .u32 0, .int .u32 0, .int .i64 0, .bool false] 86)) := ((bel_alloc _ _).alloc (by simp) _).alloc (by simp; omega) _
    generalize (((w.alloc (.cells #[.int .i64 pr, .int .u16 sr, .int .u16 ds, .int .i64 fl, .int .i64 ki, .int .i64 co, .bool er, .int .i64 i0, .int .i64 i1, .int .i64 i2, .int .i64 i3, .int .u32 i4, .int .u32 i5, .int .i64 pa, .bool ba] 86)).alloc (.cells #[.int .i64 h0, .int .i64 h1, .int .i64 h2, .int .i64 h3, .int .u32 h4, .int .u32 h5] 82)).alloc (.cells #[.int .i64 0, .int .u16 0, .int .u16 0, .int .i64 0, .int .i64 0, .int .i64 0, .bool false, .int .i64 0, .int .i64 0, .int .i64 0, .int .i64 0, .int .u32 0, .int .u32 0, .int .i64 0, .bool false] 86)) = W at *
    go_wp2_with fail
    refine (hpt.out _ bel).mono ?_
    rintro e w' ⟨rfl, hb⟩
    replace bk := bk.bel hb
    replace bh := bh.bel hb
    replace bp := bp.bel hb
    replace bel := bel_after bel hb
    clear hb
    have bkl := bk.lt
    go_wp2_with (first | (refine wpList_stRow rfl rfl rfl rfl rfl (Blk.new _ _ _) hd_size rfl (by simp [Value.oneCell']) ?_; have by_ := (Blk.new w' 82 #[.int .i64 0, .int .i64 0, .int .i64 0, .int .i64 0, .int .u32 0, .int .u32 0]).setRow #[.int .i64 (m : Int), .int .i64 y1, .int .i64 y2, .int .i64 y3, .int .u32 y4, .int .u32 y5]; replace bk := (bk.alloc (.cells #[.int .i64 0, .int .i64 0, .int .i64 0, .int .i64 0, .int .u32 0, .int .u32 0] 82)).setRow_far (g' := w'.heap.size) (by have := bk.lt; omega) #[.int .i64 (m : Int), .int .i64 y1, .int .i64 y2, .int .i64 y3, .int .u32 y4, .int .u32 y5]; replace bh := (bh.alloc (.cells #[.int .i64 0, .int .i64 0, .int .i64 0, .int .i64 0, .int .u32 0, .int .u32 0] 82)).setRow_far (g' := w'.heap.size) (by have := bh.lt; omega) #[.int .i64 (m : Int), .int .i64 y1, .int .i64 y2, .int .i64 y3, .int .u32 y4, .int .u32 y5]; replace bp := (bp.alloc (.cells #[.int .i64 0, .int .i64 0, .int .i64 0, .int .i64 0, .int .u32 0, .int .u32 0] 82)).setRow_far (g' := w'.heap.size) (by have := bp.lt; omega) #[.int .i64 (m : Int), .int .i64 y1, .int .i64 y2, .int .i64 y3, .int .u32 y4, .int .u32 y5]; replace bel := below_setRow (bel.alloc bel.size (.cells #[.int .i64 0, .int .i64 0, .int .i64 0, .int .i64 0, .int .u32 0, .int .u32 0] 82)) bel.size #[.int .i64 (m : Int), .int .i64 y1, .int .i64 y2, .int .i64 y3, .int .u32 y4, .int .u32 y5]; have hg3 : w.heap.size + 2 < w'.heap.size := (by have := bkl; omega); generalize (w'.alloc (.cells #[.int .i64 0, .int .i64 0, .int .i64 0, .int .i64 0, .int .u32 0, .int .u32 0] 82)).setRow w'.heap.size #[.int .i64 (m : Int), .int .i64 y1, .int .i64 y2, .int .i64 y3, .int .u32 y4, .int .u32 y5] = W3 at *; generalize w'.heap.size = g3 at *; have q0 := by_.cell 0; have q1 := by_.cell 1; have q3 := by_.cell 3) | (refine wpList_stRow rfl rfl rfl rfl rfl bk pt_size rfl (by simp [Value.oneCell', Pt.z, Hd.z, portsP]) ?_))
    exact bodyPost_ret (results_row2 rfl _ rfl (bk.setRow _) Try.underlying86 pt_size) rfl ⟨rfl, below_setRow bel (by omega) _⟩
  · clear he hbad
    have d1 : decide (len - m < 8) = false := by simp; omega
    have d2 : decide (((len - m : Nat) : Int) < 8) = false := by simp; omega
    have d3 : decide (y1 < (m : Int) + 8) = true := by simp; omega
    go_enter Try.func63, Try.ntmps63
    go_upto_region 1 with fail
    have bp := ((Blk.new w 86 #[.int .i64 pr, .int .u16 sr, .int .u16 ds, .int .i64 fl, .int .i64 ki, .int .i64 co, .bool er, .int .i64 i0, .int .i64 i1, .int .i64 i2, .int .i64 i3, .int .u32 i4, .int .u32 i5, .int .i64 pa, .bool ba]).alloc (.cells #[.int .i64 h0, .int .i64 h1, .int .i64 h2, .int .i64 h3, .int .u32 h4, .int .u32 h5] 82)).alloc (.cells #[.int .i64 0, .int .u16 0, .int .u16 0, .int .i64 0, .int .i64 0, .int .i64 0, .bool false, .int .i64 0, .int .i64 0, .int .i64 0, .int .i64 0, .int .u32 0, .int .u32 0, .int .i64 0, .bool false] 86)
    have bh := (Blk.new (w.alloc (.cells #[.int .i64 pr, .int .u16 sr, .int .u16 ds, .int .i64 fl, .int .i64 ki, .int .i64 co, .bool er, .int .i64 i0, .int .i64 i1, .int .i64 i2, .int .i64 i3, .int .u32 i4, .int .u32 i5, .int .i64 pa, .bool ba] 86)) 82 #[.int .i64 h0, .int .i64 h1, .int .i64 h2, .int .i64 h3, .int .u32 h4, .int .u32 h5]).alloc (.cells #[.int .i64 0, .int .u16 0, .int .u16 0, .int .i64 0, .int .i64 0, .int .i64 0, .bool false, .int .i64 0, .int .i64 0, .int .i64 0, .int .i64 0, .int .u32 0, .int .u32 0, .int .i64 0, .bool false] 86)
    have bk := Blk.new ((w.alloc (.cells #[.int .i64 pr, .int .u16 sr, .int .u16 ds, .int .i64 fl, .int .i64 ki, .int .i64 co, .bool er, .int .i64 i0, .int .i64 i1, .int .i64 i2, .int .i64 i3, .int .u32 i4, .int .u32 i5, .int .i64 pa, .bool ba] 86)).alloc (.cells #[.int .i64 h0, .int .i64 h1, .int .i64 h2, .int .i64 h3, .int .u32 h4, .int .u32 h5] 82)) 86 #[.int .i64 0, .int .u16 0, .int .u16 0, .int .i64 0, .int .i64 0, .int .i64 0, .bool false, .int .i64 0, .int .i64 0, .int .i64 0, .int .i64 0, .int .u32 0, .int .u32 0, .int .i64 0, .bool false]
    rw [show (w.alloc (.cells #[.int .i64 pr, .int .u16 sr, .int .u16 ds, .int .i64 fl, .int .i64 ki, .int .i64 co, .bool er, .int .i64 i0, .int .i64 i1, .int .i64 i2, .int .i64 i3, .int .u32 i4, .int .u32 i5, .int .i64 pa, .bool ba] 86)).heap.size = w.heap.size + 1 by simp] at bh
    rw [show ((w.alloc (.cells #[.int .i64 pr, .int .u16 sr, .int .u16 ds, .int .i64 fl, .int .i64 ki, .int .i64 co, .bool er, .int .i64 i0, .int .i64 i1, .int .i64 i2, .int .i64 i3, .int .u32 i4, .int .u32 i5, .int .i64 pa, .bool ba] 86)).alloc (.cells #[.int .i64 h0, .int .i64 h1, .int .i64 h2, .int .i64 h3, .int .u32 h4, .int .u32 h5] 82)).heap.size = w.heap.size + 2 by simp] at bk
    have bel : Below w.heap.size w (((w.alloc (.cells #[.int .i64 pr, .int .u16 sr, .int .u16 ds, .int .i64 fl, .int .i64 ki, .int .i64 co, .bool er, .int .i64 i0, .int .i64 i1, .int .i64 i2, .int .i64 i3, .int .u32 i4, .int .u32 i5, .int .i64 pa, .bool ba] 86)).alloc (.cells #[.int .i64 h0, .int .i64 h1, .int .i64 h2, .int .i64 h3, .int .u32 h4, .int .u32 h5] 82)).alloc (.cells #[.int .i64 0, .int .u16 0, .int .u16 0, .int .i64 0, .int .i64 0, .int .i64 0, .bool false, .int .i64 0, .int .i64 0, .int .i64 0, .int .i64 0, .int .u32 0, .int .u32 0, .int .i64 0, .bool false] 86)) := ((bel_alloc _ _).alloc (by simp) _).alloc (by simp; omega) _
    generalize (((w.alloc (.cells #[.int .i64 pr, .int .u16 sr, .int .u16 ds, .int .i64 fl, .int .i64 ki, .int .i64 co, .bool er, .int .i64 i0, .int .i64 i1, .int .i64 i2, .int .i64 i3, .int .u32 i4, .int .u32 i5, .int .i64 pa, .bool ba] 86)).alloc (.cells #[.int .i64 h0, .int .i64 h1, .int .i64 h2, .int .i64 h3, .int .u32 h4, .int .u32 h5] 82)).alloc (.cells #[.int .i64 0, .int .u16 0, .int .u16 0, .int .i64 0, .int .i64 0, .int .i64 0, .bool false, .int .i64 0, .int .i64 0, .int .i64 0, .int .i64 0, .int .u32 0, .int .u32 0, .int .i64 0, .bool false] 86)) = W at *
    go_wp2_with fail
    refine (hpt.out _ bel).mono ?_
    rintro e w' ⟨rfl, hb⟩
    replace bk := bk.bel hb
    replace bh := bh.bel hb
    replace bp := bp.bel hb
    replace bel := bel_after bel hb
    clear hb
    have bkl := bk.lt
    go_wp2_with (first | (refine wpList_stRow rfl rfl rfl rfl rfl (Blk.new _ _ _) hd_size rfl (by simp [Value.oneCell']) ?_; have by_ := (Blk.new w' 82 #[.int .i64 0, .int .i64 0, .int .i64 0, .int .i64 0, .int .u32 0, .int .u32 0]).setRow #[.int .i64 (m : Int), .int .i64 y1, .int .i64 y2, .int .i64 y3, .int .u32 y4, .int .u32 y5]; replace bk := (bk.alloc (.cells #[.int .i64 0, .int .i64 0, .int .i64 0, .int .i64 0, .int .u32 0, .int .u32 0] 82)).setRow_far (g' := w'.heap.size) (by have := bk.lt; omega) #[.int .i64 (m : Int), .int .i64 y1, .int .i64 y2, .int .i64 y3, .int .u32 y4, .int .u32 y5]; replace bh := (bh.alloc (.cells #[.int .i64 0, .int .i64 0, .int .i64 0, .int .i64 0, .int .u32 0, .int .u32 0] 82)).setRow_far (g' := w'.heap.size) (by have := bh.lt; omega) #[.int .i64 (m : Int), .int .i64 y1, .int .i64 y2, .int .i64 y3, .int .u32 y4, .int .u32 y5]; replace bp := (bp.alloc (.cells #[.int .i64 0, .int .i64 0, .int .i64 0, .int .i64 0, .int .u32 0, .int .u32 0] 82)).setRow_far (g' := w'.heap.size) (by have := bp.lt; omega) #[.int .i64 (m : Int), .int .i64 y1, .int .i64 y2, .int .i64 y3, .int .u32 y4, .int .u32 y5]; replace bel := below_setRow (bel.alloc bel.size (.cells #[.int .i64 0, .int .i64 0, .int .i64 0, .int .i64 0, .int .u32 0, .int .u32 0] 82)) bel.size #[.int .i64 (m : Int), .int .i64 y1, .int .i64 y2, .int .i64 y3, .int .u32 y4, .int .u32 y5]; have hg3 : w.heap.size + 2 < w'.heap.size := (by have := bkl; omega); generalize (w'.alloc (.cells #[.int .i64 0, .int .i64 0, .int .i64 0, .int .i64 0, .int .u32 0, .int .u32 0] 82)).setRow w'.heap.size #[.int .i64 (m : Int), .int .i64 y1, .int .i64 y2, .int .i64 y3, .int .u32 y4, .int .u32 y5] = W3 at *; generalize w'.heap.size = g3 at *; have q0 := by_.cell 0; have q1 := by_.cell 1; have q3 := by_.cell 3) | (refine wpList_stRow rfl rfl rfl rfl rfl bk pt_size rfl (by simp [Value.oneCell', Pt.z, Hd.z, portsP]) ?_))
    exact bodyPost_ret (results_row2 rfl _ rfl (bk.setRow _) Try.underlying86 pt_size) rfl ⟨rfl, below_setRow bel (by omega) _⟩
  · exact absurd ⟨he, hge, hle⟩ hbad
end Go.Proofs.Ytjaacmecniijgaa
