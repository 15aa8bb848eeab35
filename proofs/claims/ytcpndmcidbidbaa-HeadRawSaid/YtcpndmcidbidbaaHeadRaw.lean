/- Every input of HeadRaw answers true, and reads behind the call as it read before. No condition. -/
import Derived.Test.YtcpndmcidbidbaaHeadLaw
import Derived.Test.YtcpndmcidbidbaaFrame
namespace Go.Proofs.Ytcpndmcidbidbaa
set_option linter.unusedVariables false
open Go.RowKit
theorem get_at (l : List Int) (A : Option Addr) (len c B : Nat) (w : World) (hr : Rd .u8 w B A len l) (hB : B ≤ w.heap.size) (hlc : len ≤ c) (hcm : c ≤ 9223372036854775807) (hl : len ≤ 100000) (y0 y1 y2 y3 y4 y5 E : Int) (hE : getE l = E) (hy : hdIf l E = ⟨y0, y1, y2, y3, y4, y5⟩) :
    Calls Try.prog 13 #[.slice A len c] w fun e w' => e = .returned (.tuple #[.agg #[.int .i64 y0, .int .i64 y1, .int .i64 y2, .int .i64 y3, .int .u32 y4, .int .u32 y5], .int .i64 E]) ∧ Below w.heap.size w w' := by
  have := Get_any l A len c B w hr hB hlc hcm hl
  rw [hE, hy] at this; exact this
theorem part_at (l : List Int) (A : Option Addr) (len c B : Nat) (w : World) (hr : Rd .u8 w B A len l) (hB : B ≤ w.heap.size) (hlc : len ≤ c) (hcm : c ≤ 9223372036854775807) (y0 y1 y2 y3 y4 y5 E : Int) (hE : partE l = E) (hy : hdIf l E = ⟨y0, y1, y2, y3, y4, y5⟩) :
    Calls Try.prog 16 #[.slice A len c] w fun e w' => e = .returned (.tuple #[.agg #[.int .i64 y0, .int .i64 y1, .int .i64 y2, .int .i64 y3, .int .u32 y4, .int .u32 y5], .int .i64 E]) ∧ Below w.heap.size w w' := by
  have := Part_any l A len c B w hr hB hlc hcm
  rw [hE, hy] at this; exact this
theorem rget_at (l : List Int) (p : Bool) (A : Option Addr) (len c B : Nat) (w : World) (hr : Rd .u8 w B A len l) (hB : B ≤ w.heap.size) (hlc : len ≤ c) (hcm : c ≤ 9223372036854775807) (hl : len ≤ 100000) (y0 y1 y2 y3 y4 y5 E : Int) (hE : getP l p = E) (hy : hdIf l E = ⟨y0, y1, y2, y3, y4, y5⟩) :
    Calls Try.prog 15 #[.slice A len c, .bool p] w fun e w' => e = .returned (.tuple #[.agg #[.int .i64 y0, .int .i64 y1, .int .i64 y2, .int .i64 y3, .int .u32 y4, .int .u32 y5], .int .i64 E]) ∧ Below w.heap.size w w' := by
  have := rGet_any l p A len c B w hr hB hlc hcm hl
  rw [hE, hy] at this; exact this
set_option maxRecDepth 100000 in
set_option maxHeartbeats 4000000 in
theorem HeadRaw_walk (A : Option Addr) (len cap : Nat) (l : List Int) (w : World) (hr : Rd .u8 w w.heap.size A len l) (hlc : len ≤ cap) (hm : cap ≤ maxLen) :
    Calls Try.prog 7 #[.slice A len cap] w fun e w' => e = .returned (.bool true) ∧ Below w.heap.size w w' := by
  unfold maxLen at hm
  obtain ⟨m, hmn, hm1, hm2⟩ := minc 100 (by omega) len
  have hr2 := hr.take hm1
  obtain ⟨L, hL⟩ : ∃ L, L = l.take m := ⟨_, rfl⟩
  rw [← hL] at hr2
  clear hL hr
  obtain ⟨E, hE⟩ : ∃ E, getE L = E := ⟨_, rfl⟩
  obtain ⟨D, hD⟩ : ∃ E, partE L = E := ⟨_, rfl⟩
  obtain ⟨y0, y1, y2, y3, y4, y5, hy⟩ : ∃ y0 y1 y2 y3 y4 y5 : Int, hdIf L E = ⟨y0, y1, y2, y3, y4, y5⟩ := ⟨_, _, _, _, _, _, rfl⟩
  obtain ⟨z0, z1, z2, z3, z4, z5, hz⟩ : ∃ y0 y1 y2 y3 y4 y5 : Int, hdIf L D = ⟨y0, y1, y2, y3, y4, y5⟩ := ⟨_, _, _, _, _, _, rfl⟩
  have h1 := fun W h => get_at L A m cap w.heap.size W h
  have h1 : ∀ W, Below w.heap.size w W → Calls Try.prog 13 #[.slice A m cap] W fun e w' => e = .returned (.tuple #[.agg #[.int .i64 y0, .int .i64 y1, .int .i64 y2, .int .i64 y3, .int .u32 y4, .int .u32 y5], .int .i64 E]) ∧ Below W.heap.size W w' := fun W h => get_at L A m cap w.heap.size W (hr2.below h) h.size (by omega) (by omega) (by omega) _ _ _ _ _ _ _ hE hy
  have h2 : ∀ W, Below w.heap.size w W → Calls Try.prog 15 #[.slice A m cap, .bool false] W fun e w' => e = .returned (.tuple #[.agg #[.int .i64 y0, .int .i64 y1, .int .i64 y2, .int .i64 y3, .int .u32 y4, .int .u32 y5], .int .i64 E]) ∧ Below W.heap.size W w' := fun W h => rget_at L false A m cap w.heap.size W (hr2.below h) h.size (by omega) (by omega) (by omega) _ _ _ _ _ _ _ hE hy
  have h3 : ∀ W, Below w.heap.size w W → Calls Try.prog 16 #[.slice A m cap] W fun e w' => e = .returned (.tuple #[.agg #[.int .i64 z0, .int .i64 z1, .int .i64 z2, .int .i64 z3, .int .u32 z4, .int .u32 z5], .int .i64 D]) ∧ Below W.heap.size W w' := fun W h => part_at L A m cap w.heap.size W (hr2.below h) h.size (by omega) (by omega) _ _ _ _ _ _ _ hD hz
  have h4 : ∀ W, Below w.heap.size w W → Calls Try.prog 15 #[.slice A m cap, .bool true] W fun e w' => e = .returned (.tuple #[.agg #[.int .i64 z0, .int .i64 z1, .int .i64 z2, .int .i64 z3, .int .u32 z4, .int .u32 z5], .int .i64 D]) ∧ Below W.heap.size W w' := fun W h => rget_at L true A m cap w.heap.size W (hr2.below h) h.size (by omega) (by omega) (by omega) _ _ _ _ _ _ _ hD hz
  replace h1 := Lib.hid h1
  replace h2 := Lib.hid h2
  replace h3 := Lib.hid h3
  replace h4 := Lib.hid h4
  clear hE hD hy hz
  go_enter Try.func7, Try.ntmps7
  go_wp2_with fail
  refine (h1.out _ (Below.refl _ _)).mono ?_
  rintro e w1 ⟨rfl, b1⟩
  go_wp2_with fail
  have k1 := Blk.new w1 29 #[.int .i64 y0, .int .i64 y1, .int .i64 y2, .int .i64 y3, .int .u32 y4, .int .u32 y5]
  have b1' : Below w.heap.size w (w1.alloc (.cells #[.int .i64 y0, .int .i64 y1, .int .i64 y2, .int .i64 y3, .int .u32 y4, .int .u32 y5] 29)) := b1.alloc b1.size _
  generalize hW1 : w1.alloc (.cells #[.int .i64 y0, .int .i64 y1, .int .i64 y2, .int .i64 y3, .int .u32 y4, .int .u32 y5] 29) = W1 at *
  clear hW1
  refine (h2.out _ b1').mono ?_
  rintro e w2 ⟨rfl, b2⟩
  have k1' := k1.bel b2
  have b2' := bel_after b1' b2
  go_wp2_with fail
  have k2 := Blk.new w2 24 #[.int .i64 y0, .int .i64 y1, .int .i64 y2, .int .i64 y3, .int .u32 y4, .int .u32 y5]
  replace k1 := k1'.alloc (.cells #[.int .i64 y0, .int .i64 y1, .int .i64 y2, .int .i64 y3, .int .u32 y4, .int .u32 y5] 24)
  have b3' : Below w.heap.size w (w2.alloc (.cells #[.int .i64 y0, .int .i64 y1, .int .i64 y2, .int .i64 y3, .int .u32 y4, .int .u32 y5] 24)) := b2'.alloc b2'.size _
  generalize hW2 : w2.alloc (.cells #[.int .i64 y0, .int .i64 y1, .int .i64 y2, .int .i64 y3, .int .u32 y4, .int .u32 y5] 24) = W2 at *
  clear hW2 k1' b2 b2' b1 b1'
  refine (h3.out _ b3').mono ?_
  rintro e w3 ⟨rfl, b3⟩
  replace k1 := k1.bel b3
  replace k2 := k2.bel b3
  have b4' := bel_after b3' b3
  go_wp2_with fail
  have k3 := Blk.new w3 29 #[.int .i64 z0, .int .i64 z1, .int .i64 z2, .int .i64 z3, .int .u32 z4, .int .u32 z5]
  replace k1 := k1.alloc (.cells #[.int .i64 z0, .int .i64 z1, .int .i64 z2, .int .i64 z3, .int .u32 z4, .int .u32 z5] 29)
  replace k2 := k2.alloc (.cells #[.int .i64 z0, .int .i64 z1, .int .i64 z2, .int .i64 z3, .int .u32 z4, .int .u32 z5] 29)
  have b5' : Below w.heap.size w (w3.alloc (.cells #[.int .i64 z0, .int .i64 z1, .int .i64 z2, .int .i64 z3, .int .u32 z4, .int .u32 z5] 29)) := b4'.alloc b4'.size _
  generalize hW3 : w3.alloc (.cells #[.int .i64 z0, .int .i64 z1, .int .i64 z2, .int .i64 z3, .int .u32 z4, .int .u32 z5] 29) = W3 at *
  clear hW3 b3 b4' b3'
  refine (h4.out _ b5').mono ?_
  rintro e w4 ⟨rfl, b6⟩
  replace k1 := k1.bel b6
  replace k2 := k2.bel b6
  replace k3 := k3.bel b6
  have b6' := bel_after b5' b6
  go_wp2_with fail
  have k4 := Blk.new w4 24 #[.int .i64 z0, .int .i64 z1, .int .i64 z2, .int .i64 z3, .int .u32 z4, .int .u32 z5]
  replace k1 := k1.alloc (.cells #[.int .i64 z0, .int .i64 z1, .int .i64 z2, .int .i64 z3, .int .u32 z4, .int .u32 z5] 24)
  replace k2 := k2.alloc (.cells #[.int .i64 z0, .int .i64 z1, .int .i64 z2, .int .i64 z3, .int .u32 z4, .int .u32 z5] 24)
  replace k3 := k3.alloc (.cells #[.int .i64 z0, .int .i64 z1, .int .i64 z2, .int .i64 z3, .int .u32 z4, .int .u32 z5] 24)
  have b7' : Below w.heap.size w (w4.alloc (.cells #[.int .i64 z0, .int .i64 z1, .int .i64 z2, .int .i64 z3, .int .u32 z4, .int .u32 z5] 24)) := b6'.alloc b6'.size _
  generalize hW4 : w4.alloc (.cells #[.int .i64 z0, .int .i64 z1, .int .i64 z2, .int .i64 z3, .int .u32 z4, .int .u32 z5] 24) = W4 at *
  clear hW4 b6 b6' b5'
  have t1 := fun t i => k1.tw k1.lt t i
  have t2 := fun t i => k2.tw k2.lt t i
  have t3 := fun t i => k3.tw k3.lt t i
  have t4 := fun t i => k4.tw k4.lt t i
  haveI : Nonempty (Tw (fun w' => Below W4.heap.size W4 w')) := ⟨⟨_, Below.refl _ _⟩⟩
  refine region_tw (fun w' => Below (W4).heap.size (W4) w') (by kernel_rfl) (by kernel_rfl) (Below.refl _ _).drew ?_
  unfold clsS
  repeat (first
    | go_big_quiet_skip
    | (go_big_quiet_want; go_big_quiet_op; first | go_big_quiet_on | go_big_quiet_call (
      (first 
      | (go_at_call 12; exact q_tw (Nat.le_refl _) (heads_any _))
      | (go_at_call 17; exact q_tw (Nat.le_refl _) (From_any _ _ _ _ _ _ _))
  ))))
  refine wpQuiet_nil ?_
  intro tq
  go_wp2
  go_ret
  exact ⟨rfl, bel_after b7' tq.h⟩
theorem HeadRaw_args (W : World) (args : Array Value) (hs : args.size = Try.f7.params.size) (hA : ∀ (j : Nat) t v, Try.f7.params[j]? = some t → args[j]? = some v → Arg Try.prog W t v) :
    Calls Try.prog 7 args W fun e W' => e = .returned (.bool true) ∧ Below W.heap.size W W' := by
  obtain ⟨v0, rfl⟩ := args1 hs
  obtain ⟨A, len, cap, l, rfl, h1, h2, h3⟩ := arg_ints Try.underlying25 Try.underlying5 (by kernel_rfl) (hA 0 25 v0 rfl rfl)
  exact HeadRaw_walk A len cap l W h3 h1 h2

set_option maxRecDepth 100000 in
theorem HeadRaw_lifted (os : Os) (started : os.Started) (H : Type) (enc : TypeId × Value → H) :
    ReturnsInHanded {} Try.checked os 7 .any (Rows.headRawSpec.pre6 enc Try.prog Try.f7 Rows.headRawRow.domain false) (Rows.headRawSpec.post enc Try.prog Try.f7 false true false false) :=
  law_lifted os started H enc (by kernel_rfl) Try.func7 rfl rfl (fun H ds h => by match ds, h with | [_], _ => exact ⟨rfl, rfl, rfl⟩) (by kernel_rfl)
    (ChangeSpec.witness6 (enc := enc) (C := Try.checked) false ⟨#[], #[.slice none 0 0], []⟩ 8 (by kernel_rfl) (by kernel_rfl) (by kernel_rfl) (by kernel_rfl))
    HeadRaw_args

/-- the statement -/
theorem headRaw_holds : Rows.HeadRawSaid :=
  OpenClaim.holds_of_wide 7 Try.f7 rfl rfl rfl rfl rfl rfl rfl ⟨rfl, rfl, rfl, rfl, rfl⟩ rfl rfl rfl rfl rfl (by kernel_rfl) Try.func7 (by kernel_rfl)
    (of_decide_eq_true (by kernel_rfl)) (by unfold Func.isWrapper; first | (rw [if_pos (by decide +kernel)]; kernel_rfl) | (rw [if_neg (by decide +kernel)]; exact ⟨rfl, rfl⟩))
    (fun os started H enc _ => HeadRaw_lifted os started H enc)

end Go.Proofs.Ytcpndmcidbidbaa
