/- Every input of PartBare answers true, and reads behind the call as it read before. No condition. -/
import Derived.Test.YtfkmallagficfaaPartFacts3
import Derived.Test.YtfkmallagficfaaPartGets
namespace Go.Proofs.Ytfkmallagficfaa
set_option linter.unusedVariables false
set_option linter.unusedSimpArgs false
open Go.RowKit
set_option maxRecDepth 100000 in
set_option maxHeartbeats 4000000 in
theorem PartBare_walk (wt s d a b f T : Int) (l : List Int) (A : Option Addr) (len cap : Nat) (w : World) (hr : Rd .u8 w w.heap.size A len l) (hlc : len ≤ cap) (hcm : cap ≤ maxLen) (hs : 0 ≤ s ∧ s ≤ 4294967295) (hd : 0 ≤ d ∧ d ≤ 4294967295) (ha : 0 ≤ a ∧ a ≤ 65535) (hb : 0 ≤ b ∧ b ≤ 65535) (hT : 0 ≤ T ∧ T ≤ 65535) :
    Calls Try.prog 6 #[.agg #[.int .i64 wt, .int .u32 s, .int .u32 d, .int .u16 a, .int .u16 b, .int .i64 f, .slice A len cap], .int .u16 T] w fun e w' => e = .returned (.bool true) ∧ Below w.heap.size w w' := by
  unfold maxLen at hcm
  have hfr := fun w' (h : Below w.heap.size w w') => Frame_any 0 s d a b f l A len cap 0 w' ((hr.below h).more h.size) hlc hcm hs hd ha hb (by rfl) (by omega)
  have hl8 : Bytes8 (l.take 40) := fun x hx => inr_u8 (hr.rng x (List.mem_of_mem_take hx))
  have hlt : (l.take 40).length ≤ 40 := by rw [List.length_take]; omega
  have hbd := frame_bd (k := 0) (s := s) (d := d) (a := a) (b := b) (f := f) hlt
  have hgt := frame_get (k := 0) (a := a) (b := b) (f := f) hs hd hlt
  obtain ⟨S, hS0, hS1, h26, h27, hsum⟩ := frame_sum (f := f) hs hd ha hb hl8 hlt
  obtain ⟨X, hXe⟩ : ∃ X, X = frameL 0 s d a b f (l.take 40) := ⟨_, rfl⟩
  obtain ⟨n, hX⟩ : ∃ n, X.length = n := ⟨_, rfl⟩
  rw [← hXe, hX] at hgt hsum
  rw [← hXe] at hfr hbd h26 h27
  rw [hX] at hbd
  rw [show carP 0 = 17 from rfl] at hgt
  clear hXe hr hl8 hlt
  replace hsum := hsum T hT
  replace hX := Lib.hid hX
  replace hfr := Lib.hid hfr
  replace hsum := Lib.hid hsum
  replace hgt := Lib.hid hgt
  replace h26 := Lib.hid h26
  replace h27 := Lib.hid h27
  go_enter Try.func6, Try.ntmps6
  go_upto_region 1 with fail
  have bn := Blk.new w 26 #[.int .i64 wt, .int .u32 s, .int .u32 d, .int .u16 a, .int .u16 b, .int .i64 f, .slice A len cap]
  have bel := bel_alloc w (.cells #[.int .i64 wt, .int .u32 s, .int .u32 d, .int .u16 a, .int .u16 b, .int .i64 f, .slice A len cap] 26)
  generalize w.alloc (.cells #[.int .i64 wt, .int .u32 s, .int .u32 d, .int .u16 a, .int .u16 b, .int .i64 f, .slice A len cap] 26) = W at *
  have q0 := bn.cell 0
  have f0 := bn.frozen 0
  replace bel := bel.setCell (p := ⟨w.heap.size, 0, none⟩) (Nat.le_refl _) (.int .i64 0)
  replace bn := bn.set_ 0 (.int .i64 0)
  go_upto_region 2 with fail
  clear q0 f0
  generalize W.setCell ⟨w.heap.size, 0, none⟩ (.int .i64 0) = W1 at *
  go_wp2_with (refine wpList_ldRow rfl rfl rfl bn Try.underlying26 sn_size ?_)
  refine (hfr.out _ bel).mono ?_
  rintro e w1 ⟨v1, rfl, own1, bel1⟩
  replace own1 := own1.mono_ bel.size
  replace bn := bn.bel bel1
  replace bel := bel_after bel bel1
  clear bel1
  obtain ⟨g, c1, rfl, hc1, hc2, hg1, hg2⟩ := own1.formG hX.out (by omega)
  unfold maxLen at hc2
  have hget := Get_any X (some ⟨g, 0, none⟩) n c1 _ w1 (own1.rd hX.out) (Nat.le_refl _) hc1 (by omega) (by omega)
  rw [hgt.out.1, hgt.out.2] at hget
  simp only [Hd.val] at hget
  replace hget := Lib.hid hget
  go_wp2_with fail
  refine hget.out.mono ?_
  rintro e w2 ⟨rfl, hb2⟩
  clear hget hgt
  replace own1 := own1.below hb2
  replace bn := bn.bel hb2
  replace bel := bel_after bel hb2
  clear hb2
  have hgl : g < w2.heap.size := (own1.lt g rfl).2
  have hnl := bn.lt
  have bh := (Blk.new w2 35 #[.int .i64 0, .int .i64 0, .int .i64 0, .int .i64 0, .int .u32 0, .int .u32 0]).setRow #[.int .i64 20, .int .i64 (n : Int), .int .i64 64, .int .i64 17, .int .u32 s, .int .u32 d]
  replace own1 := (own1.alloc (.cells #[.int .i64 0, .int .i64 0, .int .i64 0, .int .i64 0, .int .u32 0, .int .u32 0] 35)).upd (Upd.row (w2.alloc (.cells #[.int .i64 0, .int .i64 0, .int .i64 0, .int .i64 0, .int .u32 0, .int .u32 0] 35)) w2.heap.size #[.int .i64 20, .int .i64 (n : Int), .int .i64 64, .int .i64 17, .int .u32 s, .int .u32 d]) (by intro x hx e; simp [Value.ownBlock] at hx; omega)
  replace bn := (bn.alloc (.cells #[.int .i64 0, .int .i64 0, .int .i64 0, .int .i64 0, .int .u32 0, .int .u32 0] 35)).setRow_far (g' := w2.heap.size) (by omega) #[.int .i64 20, .int .i64 (n : Int), .int .i64 64, .int .i64 17, .int .u32 s, .int .u32 d]
  replace bel := below_setRow (bel.alloc bel.size (.cells #[.int .i64 0, .int .i64 0, .int .i64 0, .int .i64 0, .int .u32 0, .int .u32 0] 35)) bel.size #[.int .i64 20, .int .i64 (n : Int), .int .i64 64, .int .i64 17, .int .u32 s, .int .u32 d]
  go_upto_region 4 with (refine wpList_stRow rfl rfl rfl rfl rfl (Blk.new _ _ _) hd_size rfl (by simp [Value.oneCell']) ?_; generalize (w2.alloc (.cells #[.int .i64 0, .int .i64 0, .int .i64 0, .int .i64 0, .int .u32 0, .int .u32 0] 35)).setRow w2.heap.size #[.int .i64 20, .int .i64 (n : Int), .int .i64 64, .int .i64 17, .int .u32 s, .int .u32 d] = W3 at *; generalize w2.heap.size = g3 at *)
  obtain ⟨c26, f26, x26⟩ := own1.at_ hX.out (j := 26) (by omega)
  obtain ⟨c27, f27, x27⟩ := own1.at_ hX.out (j := 27) (by omega)
  rw [h26.out] at c26
  rw [h27.out] at c27
  clear x26 x27 h26 h27
  have hgne : g ≠ g3 := by omega
  have hgn2 : w.heap.size ≠ g := own1.ne bn (by decide)
  have hor : bits .or .u16 (S / 256 * 256) (S % 256) = S := by rw [u16_shl_or _ _ (by omega) (by omega)]; omega
  go_region
  clear hor
  replace own1 := own1.drew
  replace bh := bh.drew
  replace bn := bn.drew
  replace bel := bel.drew
  replace c26 : W3.drew.cell? ⟨g, 26, none⟩ = _ := c26
  replace c27 : W3.drew.cell? ⟨g, 27, none⟩ = _ := c27
  replace f26 : W3.drew.frozen? ⟨g, 26, none⟩ = _ := f26
  replace f27 : W3.drew.frozen? ⟨g, 27, none⟩ = _ := f27
  generalize W3.drew = W4 at *
  have own2 := (own1.set hX.out 26 (x := T / 256) (u8_inr (by omega))).set (by rw [List.length_set]; exact hX.out) 27 (x := T % 256) (u8_inr (by omega))
  have hl2 : ((X.set 26 (T / 256)).set 27 (T % 256)).length = n := by rw [List.length_set, List.length_set]; exact hX.out
  go_upto_region 6 with fail
  replace bh := (bh.far (p := ⟨g, 26, none⟩) (by show g3 ≠ g; omega) (.int .u8 (T / 256))).far (p := ⟨g, 27, none⟩) (by show g3 ≠ g; omega) (.int .u8 (T % 256))
  replace bn := (bn.far (p := ⟨g, 26, none⟩) (by show w.heap.size ≠ g; omega) (.int .u8 (T / 256))).far (p := ⟨g, 27, none⟩) (by show w.heap.size ≠ g; omega) (.int .u8 (T % 256))
  replace bel := (bel.setCell (p := ⟨g, 26, none⟩) hg1 (.int .u8 (T / 256))).setCell (p := ⟨g, 27, none⟩) hg1 (.int .u8 (T % 256))
  clear c26 c27 f26 f27 own1
  generalize (X.set 26 (T / 256)).set 27 (T % 256) = F at *
  generalize (W4.setCell ⟨g, 26, none⟩ (.int .u8 (T / 256))).setCell ⟨g, 27, none⟩ (.int .u8 (T % 256)) = W5 at *
  have h1 := PGet_any ⟨20, n, 64, 17, s, d⟩ F (some ⟨g, 0, none⟩) n c1 _ W5 (own2.rd hl2) (Nat.le_refl _) hc1 (by omega) (by omega) hs hd
  obtain ⟨E, ⟨pr, sr, ds, fl, ki, co, er, ⟨i0, i1, i2, i3, i4, i5⟩, pa, ba⟩, hR⟩ : ∃ (E : Int) (p : Pt), getR ⟨20, n, 64, 17, s, d⟩ F = (E, p) := ⟨_, _, rfl⟩
  replace hsum := hsum.out
  rw [hR] at h1 hsum
  simp only [Tells, Pt.val, Hd.val] at h1
  clear hR own2
  replace h1 := Lib.hid h1
  replace hl2 := Lib.hid hl2
  replace hsum := Lib.hid hsum
  go_wp2_with (refine wpList_ldRow rfl rfl rfl bh Try.underlying35 hd_size ?_)
  refine h1.out.mono ?_
  rintro e w5 ⟨rfl, hb5⟩
  replace bn := bn.bel hb5
  replace bel := bel_after bel hb5
  clear hb5 h1
  have hnl2 := bn.lt
  have bp := (Blk.new w5 37 #[.int .i64 0, .int .u16 0, .int .u16 0, .int .i64 0, .int .i64 0, .int .i64 0, .bool false, .int .i64 0, .int .i64 0, .int .i64 0, .int .i64 0, .int .u32 0, .int .u32 0, .int .i64 0, .bool false]).setRow #[.int .i64 pr, .int .u16 sr, .int .u16 ds, .int .i64 fl, .int .i64 ki, .int .i64 co, .bool er, .int .i64 i0, .int .i64 i1, .int .i64 i2, .int .i64 i3, .int .u32 i4, .int .u32 i5, .int .i64 pa, .bool ba]
  replace bn := (bn.alloc (.cells #[.int .i64 0, .int .u16 0, .int .u16 0, .int .i64 0, .int .i64 0, .int .i64 0, .bool false, .int .i64 0, .int .i64 0, .int .i64 0, .int .i64 0, .int .u32 0, .int .u32 0, .int .i64 0, .bool false] 37)).setRow_far (g' := w5.heap.size) (by omega) #[.int .i64 pr, .int .u16 sr, .int .u16 ds, .int .i64 fl, .int .i64 ki, .int .i64 co, .bool er, .int .i64 i0, .int .i64 i1, .int .i64 i2, .int .i64 i3, .int .u32 i4, .int .u32 i5, .int .i64 pa, .bool ba]
  replace bel := below_setRow (bel.alloc bel.size (.cells #[.int .i64 0, .int .u16 0, .int .u16 0, .int .i64 0, .int .i64 0, .int .i64 0, .bool false, .int .i64 0, .int .i64 0, .int .i64 0, .int .i64 0, .int .u32 0, .int .u32 0, .int .i64 0, .bool false] 37)) bel.size #[.int .i64 pr, .int .u16 sr, .int .u16 ds, .int .i64 fl, .int .i64 ki, .int .i64 co, .bool er, .int .i64 i0, .int .i64 i1, .int .i64 i2, .int .i64 i3, .int .u32 i4, .int .u32 i5, .int .i64 pa, .bool ba]
  clear bh
  go_wp2_with (refine wpList_stRow rfl rfl rfl rfl rfl (Blk.new _ _ _) pt_size rfl (by simp [Value.oneCell']) ?_; generalize (w5.alloc (.cells #[.int .i64 0, .int .u16 0, .int .u16 0, .int .i64 0, .int .i64 0, .int .i64 0, .bool false, .int .i64 0, .int .i64 0, .int .i64 0, .int .i64 0, .int .u32 0, .int .u32 0, .int .i64 0, .bool false] 37)).setRow w5.heap.size #[.int .i64 pr, .int .u16 sr, .int .u16 ds, .int .i64 fl, .int .i64 ki, .int .i64 co, .bool er, .int .i64 i0, .int .i64 i1, .int .i64 i2, .int .i64 i3, .int .u32 i4, .int .u32 i5, .int .i64 pa, .bool ba] = W6 at *; generalize w5.heap.size = g1 at *)
  refine (parts_any _).mono ?_
  rintro e w6 ⟨rfl, hb6⟩
  replace bp := bp.bel hb6
  replace bn := bn.bel hb6
  replace bel := bel_after bel hb6
  clear hb6
  have p1 := bp.cell 1
  have p2 := bp.cell 2
  have p14 := bp.cell 14
  have s3 := bn.cell 3
  have s4 := bn.cell 4
  clear bp bn
  by_cases hT0 : T = 0
  · obtain ⟨e1, e2⟩ := Prod.mk.inj (hsum.out.1 (.inl hT0))
    simp only [Pt.mk.injEq] at e2
    obtain ⟨rfl, rfl, rfl, _, _, _, _, _, _, rfl⟩ := e2
    subst e1
    clear hsum
    have d1 : (T == 0) = true := by simpa using hT0
    have d2 : decide (T = 0) = true := by simpa using hT0
    rw [d2] at p14
    clear d2
    subst hT0
    go_wp2
    go_ret
    exact ⟨rfl, bel⟩
  have d1 : (T == 0) = false := by simpa using hT0
  by_cases hTS : T = S
  · obtain ⟨e1, e2⟩ := Prod.mk.inj (hsum.out.1 (.inr hTS))
    simp only [Pt.mk.injEq] at e2
    obtain ⟨rfl, rfl, rfl, _, _, _, _, _, _, rfl⟩ := e2
    subst e1
    clear hsum
    have d3 : (T == S) = true := by simpa using hTS
    have d2 : decide (T = 0) = false := by simpa using hT0
    rw [d2] at p14
    clear d2
    replace hTS := Lib.hid hTS
    go_wp2
    go_ret
    exact ⟨rfl, bel⟩
  · have hE := hsum.out.2 hT0 hTS
    have hE1 : (E != 0) = true := by simpa using hE
    have d3 : (T == S) = false := by simpa using hTS
    clear hsum hE hT0 hTS
    go_wp2
    go_ret
    exact ⟨rfl, bel⟩
theorem PartBare_args (W : World) (args : Array Value) (hs : args.size = Try.f6.params.size) (hA : ∀ (j : Nat) t v, Try.f6.params[j]? = some t → args[j]? = some v → Arg Try.prog W t v) :
    Calls Try.prog 6 args W fun e W' => e = .returned (.bool true) ∧ Below W.heap.size W W' := by
  obtain ⟨v0, v1, rfl⟩ := args2 hs
  obtain ⟨wt, s, d, a, b, f, A, len, cap, l, rfl, h1, h2, h3, h4, h5, h6, h7⟩ := arg_sent (hA 0 26 v0 rfl rfl)
  obtain ⟨x, rfl, hx⟩ := arg_int Try.underlying23 (hA 1 23 v1 rfl rfl)
  exact PartBare_walk wt s d a b f x l A len cap W h7 h5 h6 h1 h2 h3 h4 (inr_u16 hx)

set_option maxRecDepth 100000 in
theorem PartBare_lifted (os : Os) (started : os.Started) (H : Type) (enc : TypeId × Value → H) :
    ReturnsInHanded {} Try.checked os 6 .any (Rows.partBareSpec.pre6 enc Try.prog Try.f6 Rows.partBareRow.domain false) (Rows.partBareSpec.post enc Try.prog Try.f6 false true false false) :=
  law_lifted os started H enc (by kernel_rfl) Try.func6 rfl rfl (fun H ds h => by match ds, h with | [_, _], _ => exact ⟨rfl, rfl, rfl⟩) (by kernel_rfl)
    (ChangeSpec.witness6 (enc := enc) (C := Try.checked) false ⟨#[], #[.agg #[.int .i64 0, .int .u32 0, .int .u32 0, .int .u16 0, .int .u16 0, .int .i64 0, .slice none 0 0], .int .u16 0], []⟩ 8 (by kernel_rfl) (by kernel_rfl) (by kernel_rfl) (by kernel_rfl))
    PartBare_args

/-- the statement -/
theorem partBare_holds : Rows.PartBareSaid :=
  OpenClaim.holds_of_wide 6 Try.f6 rfl rfl rfl rfl rfl rfl rfl ⟨rfl, rfl, rfl, rfl, rfl⟩ rfl rfl rfl rfl rfl (by kernel_rfl) Try.func6 (by kernel_rfl)
    (of_decide_eq_true (by kernel_rfl)) (by unfold Func.isWrapper; first | (rw [if_pos (by decide +kernel)]; kernel_rfl) | (rw [if_neg (by decide +kernel)]; exact ⟨rfl, rfl⟩))
    (fun os started H enc _ => PartBare_lifted os started H enc)

end Go.Proofs.Ytfkmallagficfaa
