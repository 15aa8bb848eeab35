/- Every input of PartRaw answers true, and reads behind the call as it read before. No condition. -/
import Derived.Test.YtfkmallagficfaaPart19
namespace Go.Proofs.Ytfkmallagficfaa
set_option linter.unusedVariables false
set_option linter.unusedSimpArgs false
open Go.RowKit
set_option maxRecDepth 100000 in
set_option maxHeartbeats 4000000 in
theorem PartRaw_walk (y0 y1 y2 y3 y4 y5 : Int) (A : Option Addr) (len cap : Nat) (l : List Int) (w : World) (hr : Rd .u8 w w.heap.size A len l) (hlc : len ≤ cap) (hm : cap ≤ maxLen) (hs : 0 ≤ y4 ∧ y4 ≤ 4294967295) (hd : 0 ≤ y5 ∧ y5 ≤ 4294967295) :
    Calls Try.prog 4 #[.agg #[.int .i64 y0, .int .i64 y1, .int .i64 y2, .int .i64 y3, .int .u32 y4, .int .u32 y5], .slice A len cap] w fun e w' => e = .returned (.bool true) ∧ Below w.heap.size w w' := by
  unfold maxLen at hm
  obtain ⟨m, hmn, hm1, hm2⟩ := minc 150 (by omega) len
  have hr2 := hr.take hm1
  obtain ⟨L, hL⟩ : ∃ L, L = l.take m := ⟨_, rfl⟩
  rw [← hL] at hr2
  clear hL hr
  have h1 := fun W (h : Below w.heap.size w W) => PGet_any ⟨y0, y1, y2, y3, y4, y5⟩ L A m cap _ W ((hr2.below h).more h.size) (Nat.le_refl _) (by omega) (by omega) (by omega) hs hd
  have h2 := fun W (h : Below w.heap.size w W) => rPGet_any ⟨y0, y1, y2, y3, y4, y5⟩ L A m cap _ W ((hr2.below h).more h.size) (Nat.le_refl _) (by omega) (by omega) (by omega) hs hd
  obtain ⟨E, ⟨pr, sr, ds, fl, ki, co, er, ⟨i0, i1, i2, i3, i4, i5⟩, pa, ba⟩, hR⟩ : ∃ (E : Int) (p : Pt), getR ⟨y0, y1, y2, y3, y4, y5⟩ L = (E, p) := ⟨_, _, rfl⟩
  have h3 := fun W => PFrom_any ⟨pr, sr, ds, fl, ki, co, er, ⟨i0, i1, i2, i3, i4, i5⟩, pa, ba⟩ W
  rw [hR] at h1 h2
  simp only [Tells, Pt.val, Hd.val] at h1 h2 h3
  clear hR
  replace h1 := Lib.hid h1
  replace h2 := Lib.hid h2
  replace h3 := Lib.hid h3
  go_enter Try.func4, Try.ntmps4
  go_upto_region 2 with fail
  have bh := Blk.new w 31 #[.int .i64 y0, .int .i64 y1, .int .i64 y2, .int .i64 y3, .int .u32 y4, .int .u32 y5]
  have bel := bel_alloc w (.cells #[.int .i64 y0, .int .i64 y1, .int .i64 y2, .int .i64 y3, .int .u32 y4, .int .u32 y5] 31)
  generalize w.alloc (.cells #[.int .i64 y0, .int .i64 y1, .int .i64 y2, .int .i64 y3, .int .u32 y4, .int .u32 y5] 31) = W at *
  have q0 := bh.cell 0
  have q1 := bh.cell 1
  have q2 := bh.cell 2
  have q3 := bh.cell 3
  have q4 := bh.cell 4
  have q5 := bh.cell 5
  go_wp2_with fail
  clear q0 q1 q2 q3 q4 q5
  refine (h1.out _ bel).mono ?_
  rintro e w1 ⟨rfl, hb⟩
  replace bh := bh.bel hb
  replace bel := bel_after bel hb
  clear hb
  have bp := (Blk.new w1 37 #[.int .i64 0, .int .u16 0, .int .u16 0, .int .i64 0, .int .i64 0, .int .i64 0, .bool false, .int .i64 0, .int .i64 0, .int .i64 0, .int .i64 0, .int .u32 0, .int .u32 0, .int .i64 0, .bool false]).setRow #[.int .i64 pr, .int .u16 sr, .int .u16 ds, .int .i64 fl, .int .i64 ki, .int .i64 co, .bool er, .int .i64 i0, .int .i64 i1, .int .i64 i2, .int .i64 i3, .int .u32 i4, .int .u32 i5, .int .i64 pa, .bool ba]
  have hg1 := bh.lt
  replace bh := (bh.alloc (.cells #[.int .i64 0, .int .u16 0, .int .u16 0, .int .i64 0, .int .i64 0, .int .i64 0, .bool false, .int .i64 0, .int .i64 0, .int .i64 0, .int .i64 0, .int .u32 0, .int .u32 0, .int .i64 0, .bool false] 37)).setRow_far (g' := w1.heap.size) (by omega) #[.int .i64 pr, .int .u16 sr, .int .u16 ds, .int .i64 fl, .int .i64 ki, .int .i64 co, .bool er, .int .i64 i0, .int .i64 i1, .int .i64 i2, .int .i64 i3, .int .u32 i4, .int .u32 i5, .int .i64 pa, .bool ba]
  replace bel := below_setRow (bel.alloc bel.size (.cells #[.int .i64 0, .int .u16 0, .int .u16 0, .int .i64 0, .int .i64 0, .int .i64 0, .bool false, .int .i64 0, .int .i64 0, .int .i64 0, .int .i64 0, .int .u32 0, .int .u32 0, .int .i64 0, .bool false] 37)) bel.size #[.int .i64 pr, .int .u16 sr, .int .u16 ds, .int .i64 fl, .int .i64 ki, .int .i64 co, .bool er, .int .i64 i0, .int .i64 i1, .int .i64 i2, .int .i64 i3, .int .u32 i4, .int .u32 i5, .int .i64 pa, .bool ba]
  go_wp2_with (first
    | (refine wpList_stRow rfl rfl rfl rfl rfl (Blk.new _ _ _) pt_size rfl (by simp [Value.oneCell']) ?_; generalize (w1.alloc (.cells #[.int .i64 0, .int .u16 0, .int .u16 0, .int .i64 0, .int .i64 0, .int .i64 0, .bool false, .int .i64 0, .int .i64 0, .int .i64 0, .int .i64 0, .int .u32 0, .int .u32 0, .int .i64 0, .bool false] 37)).setRow w1.heap.size #[.int .i64 pr, .int .u16 sr, .int .u16 ds, .int .i64 fl, .int .i64 ki, .int .i64 co, .bool er, .int .i64 i0, .int .i64 i1, .int .i64 i2, .int .i64 i3, .int .u32 i4, .int .u32 i5, .int .i64 pa, .bool ba] = W1 at *; generalize w1.heap.size = g1 at *)
    | (refine wpList_ldRow rfl rfl rfl bh Try.underlying31 rhd_size ?_))
  refine (h2.out _ bel).mono ?_
  rintro e w2 ⟨rfl, hb⟩
  replace bh := bh.bel hb
  replace bp := bp.bel hb
  replace bel := bel_after bel hb
  clear hb
  have bq := (Blk.new w2 42 #[.int .i64 0, .int .u16 0, .int .u16 0, .int .i64 0, .int .i64 0, .int .i64 0, .bool false, .int .i64 0, .int .i64 0, .int .i64 0, .int .i64 0, .int .u32 0, .int .u32 0, .int .i64 0, .bool false]).setRow #[.int .i64 pr, .int .u16 sr, .int .u16 ds, .int .i64 fl, .int .i64 ki, .int .i64 co, .bool er, .int .i64 i0, .int .i64 i1, .int .i64 i2, .int .i64 i3, .int .u32 i4, .int .u32 i5, .int .i64 pa, .bool ba]
  have hg2 := bp.lt
  replace bp := (bp.alloc (.cells #[.int .i64 0, .int .u16 0, .int .u16 0, .int .i64 0, .int .i64 0, .int .i64 0, .bool false, .int .i64 0, .int .i64 0, .int .i64 0, .int .i64 0, .int .u32 0, .int .u32 0, .int .i64 0, .bool false] 42)).setRow_far (g' := w2.heap.size) (by omega) #[.int .i64 pr, .int .u16 sr, .int .u16 ds, .int .i64 fl, .int .i64 ki, .int .i64 co, .bool er, .int .i64 i0, .int .i64 i1, .int .i64 i2, .int .i64 i3, .int .u32 i4, .int .u32 i5, .int .i64 pa, .bool ba]
  replace bel := below_setRow (bel.alloc bel.size (.cells #[.int .i64 0, .int .u16 0, .int .u16 0, .int .i64 0, .int .i64 0, .int .i64 0, .bool false, .int .i64 0, .int .i64 0, .int .i64 0, .int .i64 0, .int .u32 0, .int .u32 0, .int .i64 0, .bool false] 42)) bel.size #[.int .i64 pr, .int .u16 sr, .int .u16 ds, .int .i64 fl, .int .i64 ki, .int .i64 co, .bool er, .int .i64 i0, .int .i64 i1, .int .i64 i2, .int .i64 i3, .int .u32 i4, .int .u32 i5, .int .i64 pa, .bool ba]
  clear bh
  go_wp2_with (refine wpList_stRow rfl rfl rfl rfl rfl (Blk.new _ _ _) rpt_size rfl (by simp [Value.oneCell']) ?_; generalize (w2.alloc (.cells #[.int .i64 0, .int .u16 0, .int .u16 0, .int .i64 0, .int .i64 0, .int .i64 0, .bool false, .int .i64 0, .int .i64 0, .int .i64 0, .int .i64 0, .int .u32 0, .int .u32 0, .int .i64 0, .bool false] 42)).setRow w2.heap.size #[.int .i64 pr, .int .u16 sr, .int .u16 ds, .int .i64 fl, .int .i64 ki, .int .i64 co, .bool er, .int .i64 i0, .int .i64 i1, .int .i64 i2, .int .i64 i3, .int .u32 i4, .int .u32 i5, .int .i64 pa, .bool ba] = W2 at *; generalize w2.heap.size = g2 at *)
  have k1 : ∀ w', clsS (fun w' => Below W2.heap.size W2 w') w' → Blk w' g1 37 #[.int .i64 pr, .int .u16 sr, .int .u16 ds, .int .i64 fl, .int .i64 ki, .int .i64 co, .bool er, .int .i64 i0, .int .i64 i1, .int .i64 i2, .int .i64 i3, .int .u32 i4, .int .u32 i5, .int .i64 pa, .bool ba] := fun w' ⟨t, ht⟩ => ht ▸ bp.below t.h bp.lt
  have k2 : ∀ w', clsS (fun w' => Below W2.heap.size W2 w') w' → Blk w' g2 42 #[.int .i64 pr, .int .u16 sr, .int .u16 ds, .int .i64 fl, .int .i64 ki, .int .i64 co, .bool er, .int .i64 i0, .int .i64 i1, .int .i64 i2, .int .i64 i3, .int .u32 i4, .int .u32 i5, .int .i64 pa, .bool ba] := fun w' ⟨t, ht⟩ => ht ▸ bq.below t.h bq.lt
  have : Nonempty (Tw (fun w' => Below W2.heap.size W2 w')) := ⟨⟨_, Below.refl _ _⟩⟩
  refine region_tw (fun w' => Below W2.heap.size W2 w') (by kernel_rfl) (by kernel_rfl) (Below.refl _ _).drew ?_
  replace k1 := Lib.hid k1
  replace k2 := Lib.hid k2
  repeat (first
    | go_big_quiet_skip
    | (go_big_quiet_want; first
        | (refine quiet_ldRow rfl rfl k1.out Try.underlying37 pt_size ?_; go_simp; go_big_quiet_on)
        | (refine quiet_ldRow rfl rfl k2.out Try.underlying42 rpt_size ?_; go_simp; go_big_quiet_on)
        | (unfold clsS; go_big_quiet_op; first | go_big_quiet_on | go_big_quiet_call (
            (first
              | (go_at_call 14; exact q_tw (Nat.le_refl _) (parts_any _))
              | (go_at_call 15; exact q_tw (Nat.le_refl _) (h3.out _)))))))
  refine wpQuiet_nil ?_
  intro tq
  go_wp2
  go_ret
  exact ⟨rfl, bel_after bel tq.h⟩
theorem PartRaw_args (W : World) (args : Array Value) (hs : args.size = Try.f4.params.size) (hA : ∀ (j : Nat) t v, Try.f4.params[j]? = some t → args[j]? = some v → Arg Try.prog W t v) :
    Calls Try.prog 4 args W fun e W' => e = .returned (.bool true) ∧ Below W.heap.size W W' := by
  obtain ⟨v0, v1, rfl⟩ := args2 hs
  obtain ⟨a, b, c, d, e, f, rfl, he, hf⟩ := arg_head (hA 0 31 v0 rfl rfl)
  obtain ⟨A, len, cap, l, rfl, h1, h2, h3⟩ := arg_ints Try.underlying24 Try.underlying5 (by kernel_rfl) (hA 1 24 v1 rfl rfl)
  exact PartRaw_walk a b c d e f A len cap l W h3 h1 h2 (inr_u32 he) (inr_u32 hf)

set_option maxRecDepth 100000 in
theorem PartRaw_lifted (os : Os) (started : os.Started) (H : Type) (enc : TypeId × Value → H) :
    ReturnsInHanded {} Try.checked os 4 .any (Rows.partRawSpec.pre6 enc Try.prog Try.f4 Rows.partRawRow.domain false) (Rows.partRawSpec.post enc Try.prog Try.f4 false true false false) :=
  law_lifted os started H enc (by kernel_rfl) Try.func4 rfl rfl (fun H ds h => by match ds, h with | [_, _], _ => exact ⟨rfl, rfl, rfl⟩) (by kernel_rfl)
    (ChangeSpec.witness6 (enc := enc) (C := Try.checked) false ⟨#[], #[.agg #[.int .i64 0, .int .i64 0, .int .i64 0, .int .i64 0, .int .u32 0, .int .u32 0], .slice none 0 0], []⟩ 8 (by kernel_rfl) (by kernel_rfl) (by kernel_rfl) (by kernel_rfl))
    PartRaw_args

/-- the statement -/
theorem partRaw_holds : Rows.PartRawSaid :=
  OpenClaim.holds_of_wide 4 Try.f4 rfl rfl rfl rfl rfl rfl rfl ⟨rfl, rfl, rfl, rfl, rfl⟩ rfl rfl rfl rfl rfl (by kernel_rfl) Try.func4 (by kernel_rfl)
    (of_decide_eq_true (by kernel_rfl)) (by unfold Func.isWrapper; first | (rw [if_pos (by decide +kernel)]; kernel_rfl) | (rw [if_neg (by decide +kernel)]; exact ⟨rfl, rfl⟩))
    (fun os started H enc _ => PartRaw_lifted os started H enc)

end Go.Proofs.Ytfkmallagficfaa
