/- Every input of HeadGets answers true, and reads behind the call as it read before. No condition. -/
import Derived.Test.YtcpndmcidbidbaaHeadPieces
import Derived.Lib.SlBytesConst
namespace Go.Proofs.Ytcpndmcidbidbaa
set_option linter.unusedVariables false
set_option linter.unusedSimpArgs false
open Go.RowKit
def GLR (W : World) (i : Value) (wr : World) : Prop := (i = .int .i64 0 ∨ i = .int .i64 1 ∨ i = .int .i64 2) ∧ Below W.heap.size W wr
theorem Rd.newF (k : IntKind) (w : World) (t : TypeId) (fr : Nat × Nat) (l : List Int) (hr : ∀ x, x ∈ l → inr k x) (cs : Array Value) (hcs : cs = (l.map (Value.int k)).toArray) (n : Nat) (hn : l.length = n) :
    Rd k (w.alloc (.cells cs t fr)) (w.heap.size + 1) (some ⟨w.heap.size, 0, none⟩) n l := by
  subst hcs
  refine ⟨hn, hr, fun h0 => ⟨_, 0, rfl, by omega, fun j hj => ?_⟩⟩
  rw [cell_of_row _ _ _ _ _ _ (heap_alloc_new w _)]
  simp [List.getElem?_eq_getElem (show j < l.length by omega)]
set_option maxRecDepth 100000 in
set_option maxHeartbeats 600000 in
theorem HeadGets_no (a b c d e f x y : Int) (fix : Bool) (w : World) (hn : ¬ canPut c d 10) :
    Calls Try.prog 6 #[.agg #[.int .i64 a, .int .i64 b, .int .i64 c, .int .i64 d, .int .u32 e, .int .u32 f], .agg #[.int .i64 x, .int .i64 y], .bool fix] w fun e w' => e = .returned (.bool true) ∧ Below w.heap.size w w' := by
  have hcv : (convert 25 25 (.slice (some ⟨w.heap.size + 1 + 1, 0, none⟩) 10 10)).run Try.prog (((w.alloc (.cells #[.int .i64 a, .int .i64 b, .int .i64 c, .int .i64 d, .int .u32 e, .int .u32 f] 24)).alloc (.cells #[.int .i64 x, .int .i64 y] 39)).alloc (.cells #[.int .u8 115, .int .u8 111, .int .u8 109, .int .u8 101, .int .u8 32, .int .u8 98, .int .u8 121, .int .u8 116, .int .u8 101, .int .u8 115] 5)) = .ok (.slice (some ⟨w.heap.size + 1 + 1, 0, none⟩) 10 10) (((w.alloc (.cells #[.int .i64 a, .int .i64 b, .int .i64 c, .int .i64 d, .int .u32 e, .int .u32 f] 24)).alloc (.cells #[.int .i64 x, .int .i64 y] 39)).alloc (.cells #[.int .u8 115, .int .u8 111, .int .u8 109, .int .u8 101, .int .u8 32, .int .u8 98, .int .u8 121, .int .u8 116, .int .u8 101, .int .u8 115] 5 (10, 11))) := by
    have := Lib.run_convert_bytes_const (P := Try.prog) ((w.alloc (.cells #[.int .i64 a, .int .i64 b, .int .i64 c, .int .i64 d, .int .u32 e, .int .u32 f] 24)).alloc (.cells #[.int .i64 x, .int .i64 y] 39)) 25 5 #[.int .u8 115, .int .u8 111, .int .u8 109, .int .u8 101, .int .u8 32, .int .u8 98, .int .u8 121, .int .u8 116, .int .u8 101, .int .u8 115] 10 10 Try.underlying25 Try.underlying5
    simpa using this
  go_enter Try.func6, Try.ntmps6
  go_wp2_with fail
  refine (rPut_no _ _ _ _ _ _ _ _ _ _ hn).mono ?_
  rintro e w1 ⟨rfl, b1⟩
  have bw1 : Below w.heap.size w w1 := bel_after (((bel_alloc _ _).alloc (by simp) _).alloc (by simp; omega) _) b1
  go_wp2_with fail
  refine (heads_any _).mono ?_
  rintro e w2 ⟨rfl, b2⟩
  go_wp2_with fail
  refine (heads_any _).mono ?_
  rintro e w3 ⟨rfl, b3⟩
  go_wp2
  go_ret
  exact ⟨rfl, bel_after (bel_after bw1 b2) b3⟩
theorem q_of (x N : Int) (hN : 0 < N) : ∃ q : Nat, (IntKind.u64.wrap x).tmod N = (q : Int) ∧ (q : Int) < N := modn x N hN
set_option maxRecDepth 100000 in
set_option maxHeartbeats 600000 in
theorem HeadGets_yes (a b c d e f x y : Int) (fix : Bool) (w : World) (hc : 0 ≤ c ∧ c ≤ 255) (hd : 0 ≤ d ∧ d ≤ 255) (he : 0 ≤ e ∧ e ≤ 4294967295) (hf : 0 ≤ f ∧ f ≤ 4294967295) :
    Calls Try.prog 6 #[.agg #[.int .i64 a, .int .i64 b, .int .i64 c, .int .i64 d, .int .u32 e, .int .u32 f], .agg #[.int .i64 x, .int .i64 y], .bool fix] w fun e w' => e = .returned (.bool true) ∧ Below w.heap.size w w' := by
  have hcv : (convert 25 25 (.slice (some ⟨w.heap.size + 1 + 1, 0, none⟩) 10 10)).run Try.prog (((w.alloc (.cells #[.int .i64 a, .int .i64 b, .int .i64 c, .int .i64 d, .int .u32 e, .int .u32 f] 24)).alloc (.cells #[.int .i64 x, .int .i64 y] 39)).alloc (.cells #[.int .u8 115, .int .u8 111, .int .u8 109, .int .u8 101, .int .u8 32, .int .u8 98, .int .u8 121, .int .u8 116, .int .u8 101, .int .u8 115] 5)) = .ok (.slice (some ⟨w.heap.size + 1 + 1, 0, none⟩) 10 10) (((w.alloc (.cells #[.int .i64 a, .int .i64 b, .int .i64 c, .int .i64 d, .int .u32 e, .int .u32 f] 24)).alloc (.cells #[.int .i64 x, .int .i64 y] 39)).alloc (.cells #[.int .u8 115, .int .u8 111, .int .u8 109, .int .u8 101, .int .u8 32, .int .u8 98, .int .u8 121, .int .u8 116, .int .u8 101, .int .u8 115] 5 (10, 11))) := by
    have := Lib.run_convert_bytes_const (P := Try.prog) ((w.alloc (.cells #[.int .i64 a, .int .i64 b, .int .i64 c, .int .i64 d, .int .u32 e, .int .u32 f] 24)).alloc (.cells #[.int .i64 x, .int .i64 y] 39)) 25 5 #[.int .u8 115, .int .u8 111, .int .u8 109, .int .u8 101, .int .u8 32, .int .u8 98, .int .u8 121, .int .u8 116, .int .u8 101, .int .u8 115] 10 10 Try.underlying25 Try.underlying5
    simpa using this
  have rd0 : Rd .u8 (((w.alloc (.cells #[.int .i64 a, .int .i64 b, .int .i64 c, .int .i64 d, .int .u32 e, .int .u32 f] 24)).alloc (.cells #[.int .i64 x, .int .i64 y] 39)).alloc (.cells #[.int .u8 115, .int .u8 111, .int .u8 109, .int .u8 101, .int .u8 32, .int .u8 98, .int .u8 121, .int .u8 116, .int .u8 101, .int .u8 115] 5 (10, 11))) (w.heap.size + 1 + 1 + 1) (some ⟨w.heap.size + 1 + 1, 0, none⟩) 10 [115, 111, 109, 101, 32, 98, 121, 116, 101, 115] := by
    have := Rd.newF .u8 ((w.alloc (.cells #[.int .i64 a, .int .i64 b, .int .i64 c, .int .i64 d, .int .u32 e, .int .u32 f] 24)).alloc (.cells #[.int .i64 x, .int .i64 y] 39)) 5 (10, 11) [115, 111, 109, 101, 32, 98, 121, 116, 101, 115] (by intro x hx; simp at hx; exact u8_inr (by omega)) #[.int .u8 115, .int .u8 111, .int .u8 109, .int .u8 101, .int .u8 32, .int .u8 98, .int .u8 121, .int .u8 116, .int .u8 101, .int .u8 115] rfl 10 rfl
    simpa using this
  obtain ⟨X, hXe⟩ : ∃ X, X = putL c d e f [115, 111, 109, 101, 32, 98, 121, 116, 101, 115] := ⟨_, rfl⟩
  have hX : X.length = 30 := by rw [hXe, put_len]; rfl
  obtain ⟨q, hq, hq1⟩ := q_of x 30 (by omega)
  obtain ⟨j, hj, hj1⟩ := q_of x 20 (by omega)
  have hput : ∀ W A B, Rd .u8 W B A 10 [115, 111, 109, 101, 32, 98, 121, 116, 101, 115] → B ≤ W.heap.size → Calls Try.prog 11 #[.agg #[.int .i64 a, .int .i64 b, .int .i64 c, .int .i64 d, .int .u32 e, .int .u32 f], .slice A 10 10] W fun r w' => ∃ v', r = .returned (.tuple #[v', .bool true]) ∧ Own .u8 5 w' W.heap.size v' X ∧ Below W.heap.size W w' := fun W A B hr hB => (rPut_any a b c d e f _ A 10 10 B W hr hB hc hd he hf (by omega)).mono fun r w' ⟨v', h1, h2, h3⟩ => ⟨v', h1, hXe ▸ h2, h3⟩
  replace hput := Lib.hid hput
  replace hX := Lib.hid hX
  clear hXe
  go_enter Try.func6, Try.ntmps6
  go_wp2_with fail
  refine (hput.out _ _ _ rd0 (by simp)).mono ?_
  rintro e w1 ⟨v1, rfl, own1, b1⟩
  have k1 := ((Blk.new (w.alloc (.cells #[.int .i64 a, .int .i64 b, .int .i64 c, .int .i64 d, .int .u32 e, .int .u32 f] 24)) 39 #[.int .i64 x, .int .i64 y]).alloc (.cells #[.int .u8 115, .int .u8 111, .int .u8 109, .int .u8 101, .int .u8 32, .int .u8 98, .int .u8 121, .int .u8 116, .int .u8 101, .int .u8 115] 5 (10, 11))).bel b1
  have bw1 : Below w.heap.size w w1 := bel_after (((bel_alloc _ _).alloc (by simp) _).alloc (by simp; omega) _) b1
  obtain ⟨g, c1, rfl, hc1, hc2, hg1, hg2⟩ := own1.formG hX.out (by omega)
  unfold maxLen at hc2
  have hgw : w.heap.size ≤ g := by simp at hg1; omega
  clear b1
  cases hy5 : (y.tmod 5 == 4)
  case true =>
    go_wp2_with (go_at_call 12; refine (heads_any _).mono ?_; rintro e w2 ⟨rfl, b2⟩; have own2 := own1.below b2; have k2 := k1.bel b2; have bw2 : Below w.heap.size w w2 := bel_after bw1 b2; have kx : w2.cell? ⟨w.heap.size + 1, 0, none⟩ = some (.int .i64 x) := (by have := k2.cell 0; simpa using this); have ky : w2.cell? ⟨w.heap.size + 1, 1, none⟩ = some (.int .i64 y) := (by have := k2.cell 1; simpa using this))
    · have hq20 : 20 ≤ q := by omega
      have hrt := (own2.rd hX.out).take (m := q) (by omega)
      refine (rFix_any _ _ q c1 _ _ hrt (Nat.le_refl _) hq20 (by omega)).mono ?_
      rintro e w4 ⟨v4, rfl, own4, b4⟩
      have hFl : (fixL (X.take q)).length = q := by rw [fixL_len]; exact hrt.len
      obtain ⟨g4, c4, rfl, hc41, hc42, hg41, hg42⟩ := own4.formG hFl (by omega)
      unfold maxLen at hc42
      have rd4 := own4.rd hFl
      have bw4 := bel_after bw2 b4
      clear hFl hrt
      obtain ⟨W, hWe⟩ : ∃ W, W = w4 := ⟨_, rfl⟩
      have rdW : Rd .u8 W W.heap.size (some ⟨g4, 0, none⟩) q (fixL (X.take q)) := by rw [hWe]; exact rd4
      have bWW : Below w.heap.size w W := by rw [hWe]; exact bw4
      rw [← hWe]
      clear hWe
      obtain ⟨E, hE⟩ : ∃ E, getE (fixL (X.take q)) = E := ⟨_, rfl⟩
      obtain ⟨D, hD⟩ : ∃ E, partE (fixL (X.take q)) = E := ⟨_, rfl⟩
      obtain ⟨y0, y1, y2, y3, y4, y5, hy⟩ : ∃ y0 y1 y2 y3 y4 y5 : Int, hdIf (fixL (X.take q)) E = ⟨y0, y1, y2, y3, y4, y5⟩ := ⟨_, _, _, _, _, _, rfl⟩
      obtain ⟨z0, z1, z2, z3, z4, z5, hz⟩ : ∃ y0 y1 y2 y3 y4 y5 : Int, hdIf (fixL (X.take q)) D = ⟨y0, y1, y2, y3, y4, y5⟩ := ⟨_, _, _, _, _, _, rfl⟩
      have q1 : ∀ V, Below W.heap.size W V → Calls Try.prog 13 #[.slice (some ⟨g4, 0, none⟩) q c4] V fun e w' => e = .returned (.tuple #[.agg #[.int .i64 y0, .int .i64 y1, .int .i64 y2, .int .i64 y3, .int .u32 y4, .int .u32 y5], .int .i64 E]) ∧ Below V.heap.size V w' := fun V h => get_at _ _ q c4 W.heap.size V (rdW.below h) h.size (by omega) (by omega) (by omega) _ _ _ _ _ _ _ hE hy
      have q2 : ∀ V, Below W.heap.size W V → Calls Try.prog 15 #[.slice (some ⟨g4, 0, none⟩) q c4, .bool false] V fun e w' => e = .returned (.tuple #[.agg #[.int .i64 y0, .int .i64 y1, .int .i64 y2, .int .i64 y3, .int .u32 y4, .int .u32 y5], .int .i64 E]) ∧ Below V.heap.size V w' := fun V h => rget_at _ false _ q c4 W.heap.size V (rdW.below h) h.size (by omega) (by omega) (by omega) _ _ _ _ _ _ _ hE hy
      have q3 : ∀ V, Below W.heap.size W V → Calls Try.prog 16 #[.slice (some ⟨g4, 0, none⟩) q c4] V fun e w' => e = .returned (.tuple #[.agg #[.int .i64 z0, .int .i64 z1, .int .i64 z2, .int .i64 z3, .int .u32 z4, .int .u32 z5], .int .i64 D]) ∧ Below V.heap.size V w' := fun V h => part_at _ _ q c4 W.heap.size V (rdW.below h) h.size (by omega) (by omega) _ _ _ _ _ _ _ hD hz
      have q4 : ∀ V, Below W.heap.size W V → Calls Try.prog 15 #[.slice (some ⟨g4, 0, none⟩) q c4, .bool true] V fun e w' => e = .returned (.tuple #[.agg #[.int .i64 z0, .int .i64 z1, .int .i64 z2, .int .i64 z3, .int .u32 z4, .int .u32 z5], .int .i64 D]) ∧ Below V.heap.size V w' := fun V h => rget_at _ true _ q c4 W.heap.size V (rdW.below h) h.size (by omega) (by omega) (by omega) _ _ _ _ _ _ _ hD hz
      replace q1 := Lib.hid q1
      replace q2 := Lib.hid q2
      replace q3 := Lib.hid q3
      replace q4 := Lib.hid q4
      clear hE hD hy hz rdW
      go_wp2_with fail
      go_loopw [9] (fun i wr => GLR W i wr) (fun i _ => (2 - intOf i).toNat)
      case atStart => exact ⟨.inl rfl, Below.refl _ _⟩
      case round =>
        obtain ⟨hi, br⟩ := hrel
        rcases hi with rfl | rfl | rfl
        · go_wp2_with fail
          refine (q2.out _ br).mono ?_
          rintro e u1 ⟨rfl, e1⟩
          have br1 := bel_after br e1
          go_wp2_with fail
          have k10 := Blk.new u1 24 #[.int .i64 y0, .int .i64 y1, .int .i64 y2, .int .i64 y3, .int .u32 y4, .int .u32 y5]
          have br2 := br1.alloc br1.size (.cells #[.int .i64 y0, .int .i64 y1, .int .i64 y2, .int .i64 y3, .int .u32 y4, .int .u32 y5] 24)
          generalize hU : u1.alloc (.cells #[.int .i64 y0, .int .i64 y1, .int .i64 y2, .int .i64 y3, .int .u32 y4, .int .u32 y5] 24) = U1 at *
          clear hU
          refine (q1.out _ br2).mono ?_
          rintro e u2 ⟨rfl, e2⟩
          have br3 := bel_after br2 e2
          replace k10 := k10.bel e2
          go_wp2_with fail
          have k12 := Blk.new u2 29 #[.int .i64 y0, .int .i64 y1, .int .i64 y2, .int .i64 y3, .int .u32 y4, .int .u32 y5]
          replace k10 := k10.alloc (.cells #[.int .i64 y0, .int .i64 y1, .int .i64 y2, .int .i64 y3, .int .u32 y4, .int .u32 y5] 29)
          have br4 := br3.alloc br3.size (.cells #[.int .i64 y0, .int .i64 y1, .int .i64 y2, .int .i64 y3, .int .u32 y4, .int .u32 y5] 29)
          generalize hU : u2.alloc (.cells #[.int .i64 y0, .int .i64 y1, .int .i64 y2, .int .i64 y3, .int .u32 y4, .int .u32 y5] 29) = U2 at *
          clear hU
          have t1 := fun t i => k10.tw k10.lt t i
          have t2 := fun t i => k12.tw k12.lt t i
          have : Nonempty (Tw (fun w' => Below U2.heap.size U2 w')) := ⟨⟨_, Below.refl _ _⟩⟩
          refine region_tw (fun w' => Below (U2).heap.size (U2) w') (by kernel_rfl) (by kernel_rfl) (Below.refl _ _).drew ?_
          unfold clsS
          repeat (first
            | go_big_quiet_skip
            | (go_big_quiet_want; go_big_quiet_op; first | go_big_quiet_on | go_big_quiet_call (
              (first 
                | (go_at_call 17; exact q_tw (Nat.le_refl _) (From_any _ _ _ _ _ _ _))
              ))))
          refine wpQuiet_nil ?_
          intro tq
          go_wp2
          exact ⟨⟨.inr (.inl rfl), bel_after br4 tq.h⟩, by simp [intOf]⟩
        · go_wp2_with fail
          refine (q4.out _ br).mono ?_
          rintro e u1 ⟨rfl, e1⟩
          have br1 := bel_after br e1
          go_wp2_with fail
          have k10 := Blk.new u1 24 #[.int .i64 z0, .int .i64 z1, .int .i64 z2, .int .i64 z3, .int .u32 z4, .int .u32 z5]
          have br2 := br1.alloc br1.size (.cells #[.int .i64 z0, .int .i64 z1, .int .i64 z2, .int .i64 z3, .int .u32 z4, .int .u32 z5] 24)
          generalize hU : u1.alloc (.cells #[.int .i64 z0, .int .i64 z1, .int .i64 z2, .int .i64 z3, .int .u32 z4, .int .u32 z5] 24) = U1 at *
          clear hU
          refine (q1.out _ br2).mono ?_
          rintro e u2 ⟨rfl, e2⟩
          have br3 := bel_after br2 e2
          replace k10 := k10.bel e2
          go_wp2_with fail
          have k12 := Blk.new u2 29 #[.int .i64 y0, .int .i64 y1, .int .i64 y2, .int .i64 y3, .int .u32 y4, .int .u32 y5]
          replace k10 := k10.alloc (.cells #[.int .i64 y0, .int .i64 y1, .int .i64 y2, .int .i64 y3, .int .u32 y4, .int .u32 y5] 29)
          have br4 := br3.alloc br3.size (.cells #[.int .i64 y0, .int .i64 y1, .int .i64 y2, .int .i64 y3, .int .u32 y4, .int .u32 y5] 29)
          generalize hU : u2.alloc (.cells #[.int .i64 y0, .int .i64 y1, .int .i64 y2, .int .i64 y3, .int .u32 y4, .int .u32 y5] 29) = U2 at *
          clear hU
          refine (q3.out _ br4).mono ?_
          rintro e u3 ⟨rfl, e3⟩
          have br5 := bel_after br4 e3
          replace k10 := k10.bel e3
          replace k12 := k12.bel e3
          have hne : u2.heap.size ≠ u1.heap.size := by have := k10.lt; have := k12.lt; intro h; rw [h] at k12; have := k10.symm.trans k12; simp at this
          have cc := fun i => k12.cell i
          have ff := fun i => k12.frozen i
          go_wp2_with fail
          have k12' := (((((k12.set_ 0 (.int .i64 z0)).set_ 1 (.int .i64 z1)).set_ 2 (.int .i64 z2)).set_ 3 (.int .i64 z3)).set_ 4 (.int .u32 z4)).set_ 5 (.int .u32 z5)
          have k10' := (((((k10.far (p := ⟨u2.heap.size, 0, none⟩) (Ne.symm hne) (.int .i64 z0)).far (p := ⟨u2.heap.size, 1, none⟩) (Ne.symm hne) (.int .i64 z1)).far (p := ⟨u2.heap.size, 2, none⟩) (Ne.symm hne) (.int .i64 z2)).far (p := ⟨u2.heap.size, 3, none⟩) (Ne.symm hne) (.int .i64 z3)).far (p := ⟨u2.heap.size, 4, none⟩) (Ne.symm hne) (.int .u32 z4)).far (p := ⟨u2.heap.size, 5, none⟩) (Ne.symm hne) (.int .u32 z5)
          have hlo : W.heap.size ≤ u2.heap.size := br3.size
          have br6 := (((((br5.setCell (p := ⟨u2.heap.size, 0, none⟩) hlo (.int .i64 z0)).setCell (p := ⟨u2.heap.size, 1, none⟩) hlo (.int .i64 z1)).setCell (p := ⟨u2.heap.size, 2, none⟩) hlo (.int .i64 z2)).setCell (p := ⟨u2.heap.size, 3, none⟩) hlo (.int .i64 z3)).setCell (p := ⟨u2.heap.size, 4, none⟩) hlo (.int .u32 z4)).setCell (p := ⟨u2.heap.size, 5, none⟩) hlo (.int .u32 z5)
          generalize hU : (((((u3.setCell ⟨u2.heap.size, 0, none⟩ (.int .i64 z0)).setCell ⟨u2.heap.size, 1, none⟩ (.int .i64 z1)).setCell ⟨u2.heap.size, 2, none⟩ (.int .i64 z2)).setCell ⟨u2.heap.size, 3, none⟩ (.int .i64 z3)).setCell ⟨u2.heap.size, 4, none⟩ (.int .u32 z4)).setCell ⟨u2.heap.size, 5, none⟩ (.int .u32 z5) = U3 at *
          clear hU k12 k10 cc ff
          have k12 : Blk U3 u2.heap.size 29 #[.int .i64 z0, .int .i64 z1, .int .i64 z2, .int .i64 z3, .int .u32 z4, .int .u32 z5] := by simpa using k12'
          clear k12'
          have t1 := fun t i => k10'.tw k10'.lt t i
          have t2 := fun t i => k12.tw k12.lt t i
          have : Nonempty (Tw (fun w' => Below U3.heap.size U3 w')) := ⟨⟨_, Below.refl _ _⟩⟩
          refine region_tw (fun w' => Below (U3).heap.size (U3) w') (by kernel_rfl) (by kernel_rfl) (Below.refl _ _).drew ?_
          unfold clsS
          repeat (first
            | go_big_quiet_skip
            | (go_big_quiet_want; go_big_quiet_op; first | go_big_quiet_on | go_big_quiet_call (
              (first 
                | (go_at_call 17; exact q_tw (Nat.le_refl _) (From_any _ _ _ _ _ _ _))
              ))))
          refine wpQuiet_nil ?_
          intro tq
          go_wp2
          exact ⟨⟨.inr (.inr rfl), bel_after br6 tq.h⟩, by simp [intOf]⟩
        · go_wp2
          go_ret
          exact ⟨rfl, bel_after bWW br⟩
    · have hrt := (own2.rd hX.out).take (m := q) (by omega)
      obtain ⟨W, hWe⟩ : ∃ W, W = w2 := ⟨_, rfl⟩
      have rdW : Rd .u8 W W.heap.size (some ⟨g, 0, none⟩) q (X.take q) := by rw [hWe]; exact hrt
      have bWW : Below w.heap.size w W := by rw [hWe]; exact bw2
      rw [← hWe]
      clear hWe
      obtain ⟨E, hE⟩ : ∃ E, getE (X.take q) = E := ⟨_, rfl⟩
      obtain ⟨D, hD⟩ : ∃ E, partE (X.take q) = E := ⟨_, rfl⟩
      obtain ⟨y0, y1, y2, y3, y4, y5, hy⟩ : ∃ y0 y1 y2 y3 y4 y5 : Int, hdIf (X.take q) E = ⟨y0, y1, y2, y3, y4, y5⟩ := ⟨_, _, _, _, _, _, rfl⟩
      obtain ⟨z0, z1, z2, z3, z4, z5, hz⟩ : ∃ y0 y1 y2 y3 y4 y5 : Int, hdIf (X.take q) D = ⟨y0, y1, y2, y3, y4, y5⟩ := ⟨_, _, _, _, _, _, rfl⟩
      have q1 : ∀ V, Below W.heap.size W V → Calls Try.prog 13 #[.slice (some ⟨g, 0, none⟩) q c1] V fun e w' => e = .returned (.tuple #[.agg #[.int .i64 y0, .int .i64 y1, .int .i64 y2, .int .i64 y3, .int .u32 y4, .int .u32 y5], .int .i64 E]) ∧ Below V.heap.size V w' := fun V h => get_at _ _ q c1 W.heap.size V (rdW.below h) h.size (by omega) (by omega) (by omega) _ _ _ _ _ _ _ hE hy
      have q2 : ∀ V, Below W.heap.size W V → Calls Try.prog 15 #[.slice (some ⟨g, 0, none⟩) q c1, .bool false] V fun e w' => e = .returned (.tuple #[.agg #[.int .i64 y0, .int .i64 y1, .int .i64 y2, .int .i64 y3, .int .u32 y4, .int .u32 y5], .int .i64 E]) ∧ Below V.heap.size V w' := fun V h => rget_at _ false _ q c1 W.heap.size V (rdW.below h) h.size (by omega) (by omega) (by omega) _ _ _ _ _ _ _ hE hy
      have q3 : ∀ V, Below W.heap.size W V → Calls Try.prog 16 #[.slice (some ⟨g, 0, none⟩) q c1] V fun e w' => e = .returned (.tuple #[.agg #[.int .i64 z0, .int .i64 z1, .int .i64 z2, .int .i64 z3, .int .u32 z4, .int .u32 z5], .int .i64 D]) ∧ Below V.heap.size V w' := fun V h => part_at _ _ q c1 W.heap.size V (rdW.below h) h.size (by omega) (by omega) _ _ _ _ _ _ _ hD hz
      have q4 : ∀ V, Below W.heap.size W V → Calls Try.prog 15 #[.slice (some ⟨g, 0, none⟩) q c1, .bool true] V fun e w' => e = .returned (.tuple #[.agg #[.int .i64 z0, .int .i64 z1, .int .i64 z2, .int .i64 z3, .int .u32 z4, .int .u32 z5], .int .i64 D]) ∧ Below V.heap.size V w' := fun V h => rget_at _ true _ q c1 W.heap.size V (rdW.below h) h.size (by omega) (by omega) (by omega) _ _ _ _ _ _ _ hD hz
      replace q1 := Lib.hid q1
      replace q2 := Lib.hid q2
      replace q3 := Lib.hid q3
      replace q4 := Lib.hid q4
      clear hE hD hy hz rdW
      go_wp2_with fail
      go_loopw [9] (fun i wr => GLR W i wr) (fun i _ => (2 - intOf i).toNat)
      case atStart => exact ⟨.inl rfl, Below.refl _ _⟩
      case round =>
        obtain ⟨hi, br⟩ := hrel
        rcases hi with rfl | rfl | rfl
        · go_wp2_with fail
          refine (q2.out _ br).mono ?_
          rintro e u1 ⟨rfl, e1⟩
          have br1 := bel_after br e1
          go_wp2_with fail
          have k10 := Blk.new u1 24 #[.int .i64 y0, .int .i64 y1, .int .i64 y2, .int .i64 y3, .int .u32 y4, .int .u32 y5]
          have br2 := br1.alloc br1.size (.cells #[.int .i64 y0, .int .i64 y1, .int .i64 y2, .int .i64 y3, .int .u32 y4, .int .u32 y5] 24)
          generalize hU : u1.alloc (.cells #[.int .i64 y0, .int .i64 y1, .int .i64 y2, .int .i64 y3, .int .u32 y4, .int .u32 y5] 24) = U1 at *
          clear hU
          refine (q1.out _ br2).mono ?_
          rintro e u2 ⟨rfl, e2⟩
          have br3 := bel_after br2 e2
          replace k10 := k10.bel e2
          go_wp2_with fail
          have k12 := Blk.new u2 29 #[.int .i64 y0, .int .i64 y1, .int .i64 y2, .int .i64 y3, .int .u32 y4, .int .u32 y5]
          replace k10 := k10.alloc (.cells #[.int .i64 y0, .int .i64 y1, .int .i64 y2, .int .i64 y3, .int .u32 y4, .int .u32 y5] 29)
          have br4 := br3.alloc br3.size (.cells #[.int .i64 y0, .int .i64 y1, .int .i64 y2, .int .i64 y3, .int .u32 y4, .int .u32 y5] 29)
          generalize hU : u2.alloc (.cells #[.int .i64 y0, .int .i64 y1, .int .i64 y2, .int .i64 y3, .int .u32 y4, .int .u32 y5] 29) = U2 at *
          clear hU
          have t1 := fun t i => k10.tw k10.lt t i
          have t2 := fun t i => k12.tw k12.lt t i
          have : Nonempty (Tw (fun w' => Below U2.heap.size U2 w')) := ⟨⟨_, Below.refl _ _⟩⟩
          refine region_tw (fun w' => Below (U2).heap.size (U2) w') (by kernel_rfl) (by kernel_rfl) (Below.refl _ _).drew ?_
          unfold clsS
          repeat (first
            | go_big_quiet_skip
            | (go_big_quiet_want; go_big_quiet_op; first | go_big_quiet_on | go_big_quiet_call (
              (first 
                | (go_at_call 17; exact q_tw (Nat.le_refl _) (From_any _ _ _ _ _ _ _))
              ))))
          refine wpQuiet_nil ?_
          intro tq
          go_wp2
          exact ⟨⟨.inr (.inl rfl), bel_after br4 tq.h⟩, by simp [intOf]⟩
        · go_wp2_with fail
          refine (q4.out _ br).mono ?_
          rintro e u1 ⟨rfl, e1⟩
          have br1 := bel_after br e1
          go_wp2_with fail
          have k10 := Blk.new u1 24 #[.int .i64 z0, .int .i64 z1, .int .i64 z2, .int .i64 z3, .int .u32 z4, .int .u32 z5]
          have br2 := br1.alloc br1.size (.cells #[.int .i64 z0, .int .i64 z1, .int .i64 z2, .int .i64 z3, .int .u32 z4, .int .u32 z5] 24)
          generalize hU : u1.alloc (.cells #[.int .i64 z0, .int .i64 z1, .int .i64 z2, .int .i64 z3, .int .u32 z4, .int .u32 z5] 24) = U1 at *
          clear hU
          refine (q1.out _ br2).mono ?_
          rintro e u2 ⟨rfl, e2⟩
          have br3 := bel_after br2 e2
          replace k10 := k10.bel e2
          go_wp2_with fail
          have k12 := Blk.new u2 29 #[.int .i64 y0, .int .i64 y1, .int .i64 y2, .int .i64 y3, .int .u32 y4, .int .u32 y5]
          replace k10 := k10.alloc (.cells #[.int .i64 y0, .int .i64 y1, .int .i64 y2, .int .i64 y3, .int .u32 y4, .int .u32 y5] 29)
          have br4 := br3.alloc br3.size (.cells #[.int .i64 y0, .int .i64 y1, .int .i64 y2, .int .i64 y3, .int .u32 y4, .int .u32 y5] 29)
          generalize hU : u2.alloc (.cells #[.int .i64 y0, .int .i64 y1, .int .i64 y2, .int .i64 y3, .int .u32 y4, .int .u32 y5] 29) = U2 at *
          clear hU
          refine (q3.out _ br4).mono ?_
          rintro e u3 ⟨rfl, e3⟩
          have br5 := bel_after br4 e3
          replace k10 := k10.bel e3
          replace k12 := k12.bel e3
          have hne : u2.heap.size ≠ u1.heap.size := by have := k10.lt; have := k12.lt; intro h; rw [h] at k12; have := k10.symm.trans k12; simp at this
          have cc := fun i => k12.cell i
          have ff := fun i => k12.frozen i
          go_wp2_with fail
          have k12' := (((((k12.set_ 0 (.int .i64 z0)).set_ 1 (.int .i64 z1)).set_ 2 (.int .i64 z2)).set_ 3 (.int .i64 z3)).set_ 4 (.int .u32 z4)).set_ 5 (.int .u32 z5)
          have k10' := (((((k10.far (p := ⟨u2.heap.size, 0, none⟩) (Ne.symm hne) (.int .i64 z0)).far (p := ⟨u2.heap.size, 1, none⟩) (Ne.symm hne) (.int .i64 z1)).far (p := ⟨u2.heap.size, 2, none⟩) (Ne.symm hne) (.int .i64 z2)).far (p := ⟨u2.heap.size, 3, none⟩) (Ne.symm hne) (.int .i64 z3)).far (p := ⟨u2.heap.size, 4, none⟩) (Ne.symm hne) (.int .u32 z4)).far (p := ⟨u2.heap.size, 5, none⟩) (Ne.symm hne) (.int .u32 z5)
          have hlo : W.heap.size ≤ u2.heap.size := br3.size
          have br6 := (((((br5.setCell (p := ⟨u2.heap.size, 0, none⟩) hlo (.int .i64 z0)).setCell (p := ⟨u2.heap.size, 1, none⟩) hlo (.int .i64 z1)).setCell (p := ⟨u2.heap.size, 2, none⟩) hlo (.int .i64 z2)).setCell (p := ⟨u2.heap.size, 3, none⟩) hlo (.int .i64 z3)).setCell (p := ⟨u2.heap.size, 4, none⟩) hlo (.int .u32 z4)).setCell (p := ⟨u2.heap.size, 5, none⟩) hlo (.int .u32 z5)
          generalize hU : (((((u3.setCell ⟨u2.heap.size, 0, none⟩ (.int .i64 z0)).setCell ⟨u2.heap.size, 1, none⟩ (.int .i64 z1)).setCell ⟨u2.heap.size, 2, none⟩ (.int .i64 z2)).setCell ⟨u2.heap.size, 3, none⟩ (.int .i64 z3)).setCell ⟨u2.heap.size, 4, none⟩ (.int .u32 z4)).setCell ⟨u2.heap.size, 5, none⟩ (.int .u32 z5) = U3 at *
          clear hU k12 k10 cc ff
          have k12 : Blk U3 u2.heap.size 29 #[.int .i64 z0, .int .i64 z1, .int .i64 z2, .int .i64 z3, .int .u32 z4, .int .u32 z5] := by simpa using k12'
          clear k12'
          have t1 := fun t i => k10'.tw k10'.lt t i
          have t2 := fun t i => k12.tw k12.lt t i
          have : Nonempty (Tw (fun w' => Below U3.heap.size U3 w')) := ⟨⟨_, Below.refl _ _⟩⟩
          refine region_tw (fun w' => Below (U3).heap.size (U3) w') (by kernel_rfl) (by kernel_rfl) (Below.refl _ _).drew ?_
          unfold clsS
          repeat (first
            | go_big_quiet_skip
            | (go_big_quiet_want; go_big_quiet_op; first | go_big_quiet_on | go_big_quiet_call (
              (first 
                | (go_at_call 17; exact q_tw (Nat.le_refl _) (From_any _ _ _ _ _ _ _))
              ))))
          refine wpQuiet_nil ?_
          intro tq
          go_wp2
          exact ⟨⟨.inr (.inr rfl), bel_after br6 tq.h⟩, by simp [intOf]⟩
        · go_wp2
          go_ret
          exact ⟨rfl, bel_after bWW br⟩
    · have hrt := (own2.rd hX.out).take (m := q) (by omega)
      obtain ⟨W, hWe⟩ : ∃ W, W = w2 := ⟨_, rfl⟩
      have rdW : Rd .u8 W W.heap.size (some ⟨g, 0, none⟩) q (X.take q) := by rw [hWe]; exact hrt
      have bWW : Below w.heap.size w W := by rw [hWe]; exact bw2
      rw [← hWe]
      clear hWe
      obtain ⟨E, hE⟩ : ∃ E, getE (X.take q) = E := ⟨_, rfl⟩
      obtain ⟨D, hD⟩ : ∃ E, partE (X.take q) = E := ⟨_, rfl⟩
      obtain ⟨y0, y1, y2, y3, y4, y5, hy⟩ : ∃ y0 y1 y2 y3 y4 y5 : Int, hdIf (X.take q) E = ⟨y0, y1, y2, y3, y4, y5⟩ := ⟨_, _, _, _, _, _, rfl⟩
      obtain ⟨z0, z1, z2, z3, z4, z5, hz⟩ : ∃ y0 y1 y2 y3 y4 y5 : Int, hdIf (X.take q) D = ⟨y0, y1, y2, y3, y4, y5⟩ := ⟨_, _, _, _, _, _, rfl⟩
      have q1 : ∀ V, Below W.heap.size W V → Calls Try.prog 13 #[.slice (some ⟨g, 0, none⟩) q c1] V fun e w' => e = .returned (.tuple #[.agg #[.int .i64 y0, .int .i64 y1, .int .i64 y2, .int .i64 y3, .int .u32 y4, .int .u32 y5], .int .i64 E]) ∧ Below V.heap.size V w' := fun V h => get_at _ _ q c1 W.heap.size V (rdW.below h) h.size (by omega) (by omega) (by omega) _ _ _ _ _ _ _ hE hy
      have q2 : ∀ V, Below W.heap.size W V → Calls Try.prog 15 #[.slice (some ⟨g, 0, none⟩) q c1, .bool false] V fun e w' => e = .returned (.tuple #[.agg #[.int .i64 y0, .int .i64 y1, .int .i64 y2, .int .i64 y3, .int .u32 y4, .int .u32 y5], .int .i64 E]) ∧ Below V.heap.size V w' := fun V h => rget_at _ false _ q c1 W.heap.size V (rdW.below h) h.size (by omega) (by omega) (by omega) _ _ _ _ _ _ _ hE hy
      have q3 : ∀ V, Below W.heap.size W V → Calls Try.prog 16 #[.slice (some ⟨g, 0, none⟩) q c1] V fun e w' => e = .returned (.tuple #[.agg #[.int .i64 z0, .int .i64 z1, .int .i64 z2, .int .i64 z3, .int .u32 z4, .int .u32 z5], .int .i64 D]) ∧ Below V.heap.size V w' := fun V h => part_at _ _ q c1 W.heap.size V (rdW.below h) h.size (by omega) (by omega) _ _ _ _ _ _ _ hD hz
      have q4 : ∀ V, Below W.heap.size W V → Calls Try.prog 15 #[.slice (some ⟨g, 0, none⟩) q c1, .bool true] V fun e w' => e = .returned (.tuple #[.agg #[.int .i64 z0, .int .i64 z1, .int .i64 z2, .int .i64 z3, .int .u32 z4, .int .u32 z5], .int .i64 D]) ∧ Below V.heap.size V w' := fun V h => rget_at _ true _ q c1 W.heap.size V (rdW.below h) h.size (by omega) (by omega) (by omega) _ _ _ _ _ _ _ hD hz
      replace q1 := Lib.hid q1
      replace q2 := Lib.hid q2
      replace q3 := Lib.hid q3
      replace q4 := Lib.hid q4
      clear hE hD hy hz rdW
      go_wp2_with fail
      go_loopw [9] (fun i wr => GLR W i wr) (fun i _ => (2 - intOf i).toNat)
      case atStart => exact ⟨.inl rfl, Below.refl _ _⟩
      case round =>
        obtain ⟨hi, br⟩ := hrel
        rcases hi with rfl | rfl | rfl
        · go_wp2_with fail
          refine (q2.out _ br).mono ?_
          rintro e u1 ⟨rfl, e1⟩
          have br1 := bel_after br e1
          go_wp2_with fail
          have k10 := Blk.new u1 24 #[.int .i64 y0, .int .i64 y1, .int .i64 y2, .int .i64 y3, .int .u32 y4, .int .u32 y5]
          have br2 := br1.alloc br1.size (.cells #[.int .i64 y0, .int .i64 y1, .int .i64 y2, .int .i64 y3, .int .u32 y4, .int .u32 y5] 24)
          generalize hU : u1.alloc (.cells #[.int .i64 y0, .int .i64 y1, .int .i64 y2, .int .i64 y3, .int .u32 y4, .int .u32 y5] 24) = U1 at *
          clear hU
          refine (q1.out _ br2).mono ?_
          rintro e u2 ⟨rfl, e2⟩
          have br3 := bel_after br2 e2
          replace k10 := k10.bel e2
          go_wp2_with fail
          have k12 := Blk.new u2 29 #[.int .i64 y0, .int .i64 y1, .int .i64 y2, .int .i64 y3, .int .u32 y4, .int .u32 y5]
          replace k10 := k10.alloc (.cells #[.int .i64 y0, .int .i64 y1, .int .i64 y2, .int .i64 y3, .int .u32 y4, .int .u32 y5] 29)
          have br4 := br3.alloc br3.size (.cells #[.int .i64 y0, .int .i64 y1, .int .i64 y2, .int .i64 y3, .int .u32 y4, .int .u32 y5] 29)
          generalize hU : u2.alloc (.cells #[.int .i64 y0, .int .i64 y1, .int .i64 y2, .int .i64 y3, .int .u32 y4, .int .u32 y5] 29) = U2 at *
          clear hU
          have t1 := fun t i => k10.tw k10.lt t i
          have t2 := fun t i => k12.tw k12.lt t i
          have : Nonempty (Tw (fun w' => Below U2.heap.size U2 w')) := ⟨⟨_, Below.refl _ _⟩⟩
          refine region_tw (fun w' => Below (U2).heap.size (U2) w') (by kernel_rfl) (by kernel_rfl) (Below.refl _ _).drew ?_
          unfold clsS
          repeat (first
            | go_big_quiet_skip
            | (go_big_quiet_want; go_big_quiet_op; first | go_big_quiet_on | go_big_quiet_call (
              (first 
                | (go_at_call 17; exact q_tw (Nat.le_refl _) (From_any _ _ _ _ _ _ _))
              ))))
          refine wpQuiet_nil ?_
          intro tq
          go_wp2
          exact ⟨⟨.inr (.inl rfl), bel_after br4 tq.h⟩, by simp [intOf]⟩
        · go_wp2_with fail
          refine (q4.out _ br).mono ?_
          rintro e u1 ⟨rfl, e1⟩
          have br1 := bel_after br e1
          go_wp2_with fail
          have k10 := Blk.new u1 24 #[.int .i64 z0, .int .i64 z1, .int .i64 z2, .int .i64 z3, .int .u32 z4, .int .u32 z5]
          have br2 := br1.alloc br1.size (.cells #[.int .i64 z0, .int .i64 z1, .int .i64 z2, .int .i64 z3, .int .u32 z4, .int .u32 z5] 24)
          generalize hU : u1.alloc (.cells #[.int .i64 z0, .int .i64 z1, .int .i64 z2, .int .i64 z3, .int .u32 z4, .int .u32 z5] 24) = U1 at *
          clear hU
          refine (q1.out _ br2).mono ?_
          rintro e u2 ⟨rfl, e2⟩
          have br3 := bel_after br2 e2
          replace k10 := k10.bel e2
          go_wp2_with fail
          have k12 := Blk.new u2 29 #[.int .i64 y0, .int .i64 y1, .int .i64 y2, .int .i64 y3, .int .u32 y4, .int .u32 y5]
          replace k10 := k10.alloc (.cells #[.int .i64 y0, .int .i64 y1, .int .i64 y2, .int .i64 y3, .int .u32 y4, .int .u32 y5] 29)
          have br4 := br3.alloc br3.size (.cells #[.int .i64 y0, .int .i64 y1, .int .i64 y2, .int .i64 y3, .int .u32 y4, .int .u32 y5] 29)
          generalize hU : u2.alloc (.cells #[.int .i64 y0, .int .i64 y1, .int .i64 y2, .int .i64 y3, .int .u32 y4, .int .u32 y5] 29) = U2 at *
          clear hU
          refine (q3.out _ br4).mono ?_
          rintro e u3 ⟨rfl, e3⟩
          have br5 := bel_after br4 e3
          replace k10 := k10.bel e3
          replace k12 := k12.bel e3
          have hne : u2.heap.size ≠ u1.heap.size := by have := k10.lt; have := k12.lt; intro h; rw [h] at k12; have := k10.symm.trans k12; simp at this
          have cc := fun i => k12.cell i
          have ff := fun i => k12.frozen i
          go_wp2_with fail
          have k12' := (((((k12.set_ 0 (.int .i64 z0)).set_ 1 (.int .i64 z1)).set_ 2 (.int .i64 z2)).set_ 3 (.int .i64 z3)).set_ 4 (.int .u32 z4)).set_ 5 (.int .u32 z5)
          have k10' := (((((k10.far (p := ⟨u2.heap.size, 0, none⟩) (Ne.symm hne) (.int .i64 z0)).far (p := ⟨u2.heap.size, 1, none⟩) (Ne.symm hne) (.int .i64 z1)).far (p := ⟨u2.heap.size, 2, none⟩) (Ne.symm hne) (.int .i64 z2)).far (p := ⟨u2.heap.size, 3, none⟩) (Ne.symm hne) (.int .i64 z3)).far (p := ⟨u2.heap.size, 4, none⟩) (Ne.symm hne) (.int .u32 z4)).far (p := ⟨u2.heap.size, 5, none⟩) (Ne.symm hne) (.int .u32 z5)
          have hlo : W.heap.size ≤ u2.heap.size := br3.size
          have br6 := (((((br5.setCell (p := ⟨u2.heap.size, 0, none⟩) hlo (.int .i64 z0)).setCell (p := ⟨u2.heap.size, 1, none⟩) hlo (.int .i64 z1)).setCell (p := ⟨u2.heap.size, 2, none⟩) hlo (.int .i64 z2)).setCell (p := ⟨u2.heap.size, 3, none⟩) hlo (.int .i64 z3)).setCell (p := ⟨u2.heap.size, 4, none⟩) hlo (.int .u32 z4)).setCell (p := ⟨u2.heap.size, 5, none⟩) hlo (.int .u32 z5)
          generalize hU : (((((u3.setCell ⟨u2.heap.size, 0, none⟩ (.int .i64 z0)).setCell ⟨u2.heap.size, 1, none⟩ (.int .i64 z1)).setCell ⟨u2.heap.size, 2, none⟩ (.int .i64 z2)).setCell ⟨u2.heap.size, 3, none⟩ (.int .i64 z3)).setCell ⟨u2.heap.size, 4, none⟩ (.int .u32 z4)).setCell ⟨u2.heap.size, 5, none⟩ (.int .u32 z5) = U3 at *
          clear hU k12 k10 cc ff
          have k12 : Blk U3 u2.heap.size 29 #[.int .i64 z0, .int .i64 z1, .int .i64 z2, .int .i64 z3, .int .u32 z4, .int .u32 z5] := by simpa using k12'
          clear k12'
          have t1 := fun t i => k10'.tw k10'.lt t i
          have t2 := fun t i => k12.tw k12.lt t i
          have : Nonempty (Tw (fun w' => Below U3.heap.size U3 w')) := ⟨⟨_, Below.refl _ _⟩⟩
          refine region_tw (fun w' => Below (U3).heap.size (U3) w') (by kernel_rfl) (by kernel_rfl) (Below.refl _ _).drew ?_
          unfold clsS
          repeat (first
            | go_big_quiet_skip
            | (go_big_quiet_want; go_big_quiet_op; first | go_big_quiet_on | go_big_quiet_call (
              (first 
                | (go_at_call 17; exact q_tw (Nat.le_refl _) (From_any _ _ _ _ _ _ _))
              ))))
          refine wpQuiet_nil ?_
          intro tq
          go_wp2
          exact ⟨⟨.inr (.inr rfl), bel_after br6 tq.h⟩, by simp [intOf]⟩
        · go_wp2
          go_ret
          exact ⟨rfl, bel_after bWW br⟩
  go_wp2_with (go_at_call 12; refine (heads_any _).mono ?_; rintro e w2 ⟨rfl, b2⟩; have own2 := own1.below b2; have k2 := k1.bel b2; have bw2 : Below w.heap.size w w2 := bel_after bw1 b2; have kx : w2.cell? ⟨w.heap.size + 1, 0, none⟩ = some (.int .i64 x) := (by have := k2.cell 0; simpa using this); have ky : w2.cell? ⟨w.heap.size + 1, 1, none⟩ = some (.int .i64 y) := (by have := k2.cell 1; simpa using this))
  have hj20 : j < 30 := by omega
  have hj0 : (0 : Int) ≤ (j : Int) := by omega
  have hj30 : (j : Int) < 30 := by omega
  obtain ⟨cj, fj, _⟩ := own2.at_ hX.out (j := j) hj20
  obtain ⟨xj, hxj⟩ : ∃ v, v = X.getD j 0 := ⟨_, rfl⟩
  rw [← hxj] at cj
  obtain ⟨xv, hxv⟩ : ∃ v, bits .xor .u8 xj (y % 256) = v := ⟨_, rfl⟩
  have hxb : 0 ≤ xv ∧ xv ≤ 255 := by
    rw [← hxv]
    have h : ∀ v : Int, 0 ≤ IntKind.u8.wrap v ∧ IntKind.u8.wrap v ≤ 255 := fun v => by rw [IntKind.wrap_u8' v]; omega
    exact h _
  clear hxj
  have own5 := own2.set hX.out j (x := xv) (u8_inr hxb)
  have hl5 : (X.set j xv).length = 30 := by rw [List.length_set]; exact hX.out
  have bw5 : Below w.heap.size w (w2.setCell ⟨g, j, none⟩ (.int .u8 xv)) := bw2.setCell hgw _
  have rd5 := own5.rd hl5
  replace hl5 := Lib.hid hl5
  go_region
  cases fix
  · go_wp2_with fail
    obtain ⟨W, hWe⟩ : ∃ W, W = (w2.setCell ⟨g, j, none⟩ (.int .u8 xv)).drew := ⟨_, rfl⟩
    have rdW : Rd .u8 W W.heap.size (some ⟨g, 0, none⟩) 30 (X.set j xv) := by rw [hWe]; exact rd5.drew
    have bWW : Below w.heap.size w W := by rw [hWe]; exact bw5.drew
    rw [← hWe]
    clear hWe
    obtain ⟨E, hE⟩ : ∃ E, getE (X.set j xv) = E := ⟨_, rfl⟩
    obtain ⟨D, hD⟩ : ∃ E, partE (X.set j xv) = E := ⟨_, rfl⟩
    obtain ⟨y0, y1, y2, y3, y4, y5, hy⟩ : ∃ y0 y1 y2 y3 y4 y5 : Int, hdIf (X.set j xv) E = ⟨y0, y1, y2, y3, y4, y5⟩ := ⟨_, _, _, _, _, _, rfl⟩
    obtain ⟨z0, z1, z2, z3, z4, z5, hz⟩ : ∃ y0 y1 y2 y3 y4 y5 : Int, hdIf (X.set j xv) D = ⟨y0, y1, y2, y3, y4, y5⟩ := ⟨_, _, _, _, _, _, rfl⟩
    have q1 : ∀ V, Below W.heap.size W V → Calls Try.prog 13 #[.slice (some ⟨g, 0, none⟩) 30 c1] V fun e w' => e = .returned (.tuple #[.agg #[.int .i64 y0, .int .i64 y1, .int .i64 y2, .int .i64 y3, .int .u32 y4, .int .u32 y5], .int .i64 E]) ∧ Below V.heap.size V w' := fun V h => get_at _ _ 30 c1 W.heap.size V (rdW.below h) h.size (by omega) (by omega) (by omega) _ _ _ _ _ _ _ hE hy
    have q2 : ∀ V, Below W.heap.size W V → Calls Try.prog 15 #[.slice (some ⟨g, 0, none⟩) 30 c1, .bool false] V fun e w' => e = .returned (.tuple #[.agg #[.int .i64 y0, .int .i64 y1, .int .i64 y2, .int .i64 y3, .int .u32 y4, .int .u32 y5], .int .i64 E]) ∧ Below V.heap.size V w' := fun V h => rget_at _ false _ 30 c1 W.heap.size V (rdW.below h) h.size (by omega) (by omega) (by omega) _ _ _ _ _ _ _ hE hy
    have q3 : ∀ V, Below W.heap.size W V → Calls Try.prog 16 #[.slice (some ⟨g, 0, none⟩) 30 c1] V fun e w' => e = .returned (.tuple #[.agg #[.int .i64 z0, .int .i64 z1, .int .i64 z2, .int .i64 z3, .int .u32 z4, .int .u32 z5], .int .i64 D]) ∧ Below V.heap.size V w' := fun V h => part_at _ _ 30 c1 W.heap.size V (rdW.below h) h.size (by omega) (by omega) _ _ _ _ _ _ _ hD hz
    have q4 : ∀ V, Below W.heap.size W V → Calls Try.prog 15 #[.slice (some ⟨g, 0, none⟩) 30 c1, .bool true] V fun e w' => e = .returned (.tuple #[.agg #[.int .i64 z0, .int .i64 z1, .int .i64 z2, .int .i64 z3, .int .u32 z4, .int .u32 z5], .int .i64 D]) ∧ Below V.heap.size V w' := fun V h => rget_at _ true _ 30 c1 W.heap.size V (rdW.below h) h.size (by omega) (by omega) (by omega) _ _ _ _ _ _ _ hD hz
    replace q1 := Lib.hid q1
    replace q2 := Lib.hid q2
    replace q3 := Lib.hid q3
    replace q4 := Lib.hid q4
    clear hE hD hy hz rdW
    go_wp2_with fail
    go_loopw [9] (fun i wr => GLR W i wr) (fun i _ => (2 - intOf i).toNat)
    case atStart => exact ⟨.inl rfl, Below.refl _ _⟩
    case round =>
      obtain ⟨hi, br⟩ := hrel
      rcases hi with rfl | rfl | rfl
      · go_wp2_with fail
        refine (q2.out _ br).mono ?_
        rintro e u1 ⟨rfl, e1⟩
        have br1 := bel_after br e1
        go_wp2_with fail
        have k10 := Blk.new u1 24 #[.int .i64 y0, .int .i64 y1, .int .i64 y2, .int .i64 y3, .int .u32 y4, .int .u32 y5]
        have br2 := br1.alloc br1.size (.cells #[.int .i64 y0, .int .i64 y1, .int .i64 y2, .int .i64 y3, .int .u32 y4, .int .u32 y5] 24)
        generalize hU : u1.alloc (.cells #[.int .i64 y0, .int .i64 y1, .int .i64 y2, .int .i64 y3, .int .u32 y4, .int .u32 y5] 24) = U1 at *
        clear hU
        refine (q1.out _ br2).mono ?_
        rintro e u2 ⟨rfl, e2⟩
        have br3 := bel_after br2 e2
        replace k10 := k10.bel e2
        go_wp2_with fail
        have k12 := Blk.new u2 29 #[.int .i64 y0, .int .i64 y1, .int .i64 y2, .int .i64 y3, .int .u32 y4, .int .u32 y5]
        replace k10 := k10.alloc (.cells #[.int .i64 y0, .int .i64 y1, .int .i64 y2, .int .i64 y3, .int .u32 y4, .int .u32 y5] 29)
        have br4 := br3.alloc br3.size (.cells #[.int .i64 y0, .int .i64 y1, .int .i64 y2, .int .i64 y3, .int .u32 y4, .int .u32 y5] 29)
        generalize hU : u2.alloc (.cells #[.int .i64 y0, .int .i64 y1, .int .i64 y2, .int .i64 y3, .int .u32 y4, .int .u32 y5] 29) = U2 at *
        clear hU
        have t1 := fun t i => k10.tw k10.lt t i
        have t2 := fun t i => k12.tw k12.lt t i
        have : Nonempty (Tw (fun w' => Below U2.heap.size U2 w')) := ⟨⟨_, Below.refl _ _⟩⟩
        refine region_tw (fun w' => Below (U2).heap.size (U2) w') (by kernel_rfl) (by kernel_rfl) (Below.refl _ _).drew ?_
        unfold clsS
        repeat (first
          | go_big_quiet_skip
          | (go_big_quiet_want; go_big_quiet_op; first | go_big_quiet_on | go_big_quiet_call (
            (first 
              | (go_at_call 17; exact q_tw (Nat.le_refl _) (From_any _ _ _ _ _ _ _))
            ))))
        refine wpQuiet_nil ?_
        intro tq
        go_wp2
        exact ⟨⟨.inr (.inl rfl), bel_after br4 tq.h⟩, by simp [intOf]⟩
      · go_wp2_with fail
        refine (q4.out _ br).mono ?_
        rintro e u1 ⟨rfl, e1⟩
        have br1 := bel_after br e1
        go_wp2_with fail
        have k10 := Blk.new u1 24 #[.int .i64 z0, .int .i64 z1, .int .i64 z2, .int .i64 z3, .int .u32 z4, .int .u32 z5]
        have br2 := br1.alloc br1.size (.cells #[.int .i64 z0, .int .i64 z1, .int .i64 z2, .int .i64 z3, .int .u32 z4, .int .u32 z5] 24)
        generalize hU : u1.alloc (.cells #[.int .i64 z0, .int .i64 z1, .int .i64 z2, .int .i64 z3, .int .u32 z4, .int .u32 z5] 24) = U1 at *
        clear hU
        refine (q1.out _ br2).mono ?_
        rintro e u2 ⟨rfl, e2⟩
        have br3 := bel_after br2 e2
        replace k10 := k10.bel e2
        go_wp2_with fail
        have k12 := Blk.new u2 29 #[.int .i64 y0, .int .i64 y1, .int .i64 y2, .int .i64 y3, .int .u32 y4, .int .u32 y5]
        replace k10 := k10.alloc (.cells #[.int .i64 y0, .int .i64 y1, .int .i64 y2, .int .i64 y3, .int .u32 y4, .int .u32 y5] 29)
        have br4 := br3.alloc br3.size (.cells #[.int .i64 y0, .int .i64 y1, .int .i64 y2, .int .i64 y3, .int .u32 y4, .int .u32 y5] 29)
        generalize hU : u2.alloc (.cells #[.int .i64 y0, .int .i64 y1, .int .i64 y2, .int .i64 y3, .int .u32 y4, .int .u32 y5] 29) = U2 at *
        clear hU
        refine (q3.out _ br4).mono ?_
        rintro e u3 ⟨rfl, e3⟩
        have br5 := bel_after br4 e3
        replace k10 := k10.bel e3
        replace k12 := k12.bel e3
        have hne : u2.heap.size ≠ u1.heap.size := by have := k10.lt; have := k12.lt; intro h; rw [h] at k12; have := k10.symm.trans k12; simp at this
        have cc := fun i => k12.cell i
        have ff := fun i => k12.frozen i
        go_wp2_with fail
        have k12' := (((((k12.set_ 0 (.int .i64 z0)).set_ 1 (.int .i64 z1)).set_ 2 (.int .i64 z2)).set_ 3 (.int .i64 z3)).set_ 4 (.int .u32 z4)).set_ 5 (.int .u32 z5)
        have k10' := (((((k10.far (p := ⟨u2.heap.size, 0, none⟩) (Ne.symm hne) (.int .i64 z0)).far (p := ⟨u2.heap.size, 1, none⟩) (Ne.symm hne) (.int .i64 z1)).far (p := ⟨u2.heap.size, 2, none⟩) (Ne.symm hne) (.int .i64 z2)).far (p := ⟨u2.heap.size, 3, none⟩) (Ne.symm hne) (.int .i64 z3)).far (p := ⟨u2.heap.size, 4, none⟩) (Ne.symm hne) (.int .u32 z4)).far (p := ⟨u2.heap.size, 5, none⟩) (Ne.symm hne) (.int .u32 z5)
        have hlo : W.heap.size ≤ u2.heap.size := br3.size
        have br6 := (((((br5.setCell (p := ⟨u2.heap.size, 0, none⟩) hlo (.int .i64 z0)).setCell (p := ⟨u2.heap.size, 1, none⟩) hlo (.int .i64 z1)).setCell (p := ⟨u2.heap.size, 2, none⟩) hlo (.int .i64 z2)).setCell (p := ⟨u2.heap.size, 3, none⟩) hlo (.int .i64 z3)).setCell (p := ⟨u2.heap.size, 4, none⟩) hlo (.int .u32 z4)).setCell (p := ⟨u2.heap.size, 5, none⟩) hlo (.int .u32 z5)
        generalize hU : (((((u3.setCell ⟨u2.heap.size, 0, none⟩ (.int .i64 z0)).setCell ⟨u2.heap.size, 1, none⟩ (.int .i64 z1)).setCell ⟨u2.heap.size, 2, none⟩ (.int .i64 z2)).setCell ⟨u2.heap.size, 3, none⟩ (.int .i64 z3)).setCell ⟨u2.heap.size, 4, none⟩ (.int .u32 z4)).setCell ⟨u2.heap.size, 5, none⟩ (.int .u32 z5) = U3 at *
        clear hU k12 k10 cc ff
        have k12 : Blk U3 u2.heap.size 29 #[.int .i64 z0, .int .i64 z1, .int .i64 z2, .int .i64 z3, .int .u32 z4, .int .u32 z5] := by simpa using k12'
        clear k12'
        have t1 := fun t i => k10'.tw k10'.lt t i
        have t2 := fun t i => k12.tw k12.lt t i
        have : Nonempty (Tw (fun w' => Below U3.heap.size U3 w')) := ⟨⟨_, Below.refl _ _⟩⟩
        refine region_tw (fun w' => Below (U3).heap.size (U3) w') (by kernel_rfl) (by kernel_rfl) (Below.refl _ _).drew ?_
        unfold clsS
        repeat (first
          | go_big_quiet_skip
          | (go_big_quiet_want; go_big_quiet_op; first | go_big_quiet_on | go_big_quiet_call (
            (first 
              | (go_at_call 17; exact q_tw (Nat.le_refl _) (From_any _ _ _ _ _ _ _))
            ))))
        refine wpQuiet_nil ?_
        intro tq
        go_wp2
        exact ⟨⟨.inr (.inr rfl), bel_after br6 tq.h⟩, by simp [intOf]⟩
      · go_wp2
        go_ret
        exact ⟨rfl, bel_after bWW br⟩
  · go_wp2_with fail
    refine (rFix_any _ _ 30 c1 _ _ rd5.drew (Nat.le_refl _) (by omega) (by omega)).mono ?_
    rintro e w4 ⟨v4, rfl, own4, b4⟩
    have hFl : (fixL (X.set j xv)).length = 30 := by rw [fixL_len]; exact hl5.out
    obtain ⟨g4, c4, rfl, hc41, hc42, hg41, hg42⟩ := own4.formG hFl (by omega)
    unfold maxLen at hc42
    have rd4 := own4.rd hFl
    have bw4 := bel_after bw5.drew b4
    clear hFl
    obtain ⟨W, hWe⟩ : ∃ W, W = w4 := ⟨_, rfl⟩
    have rdW : Rd .u8 W W.heap.size (some ⟨g4, 0, none⟩) 30 (fixL (X.set j xv)) := by rw [hWe]; exact rd4
    have bWW : Below w.heap.size w W := by rw [hWe]; exact bw4
    rw [← hWe]
    clear hWe
    obtain ⟨E, hE⟩ : ∃ E, getE (fixL (X.set j xv)) = E := ⟨_, rfl⟩
    obtain ⟨D, hD⟩ : ∃ E, partE (fixL (X.set j xv)) = E := ⟨_, rfl⟩
    obtain ⟨y0, y1, y2, y3, y4, y5, hy⟩ : ∃ y0 y1 y2 y3 y4 y5 : Int, hdIf (fixL (X.set j xv)) E = ⟨y0, y1, y2, y3, y4, y5⟩ := ⟨_, _, _, _, _, _, rfl⟩
    obtain ⟨z0, z1, z2, z3, z4, z5, hz⟩ : ∃ y0 y1 y2 y3 y4 y5 : Int, hdIf (fixL (X.set j xv)) D = ⟨y0, y1, y2, y3, y4, y5⟩ := ⟨_, _, _, _, _, _, rfl⟩
    have q1 : ∀ V, Below W.heap.size W V → Calls Try.prog 13 #[.slice (some ⟨g4, 0, none⟩) 30 c4] V fun e w' => e = .returned (.tuple #[.agg #[.int .i64 y0, .int .i64 y1, .int .i64 y2, .int .i64 y3, .int .u32 y4, .int .u32 y5], .int .i64 E]) ∧ Below V.heap.size V w' := fun V h => get_at _ _ 30 c4 W.heap.size V (rdW.below h) h.size (by omega) (by omega) (by omega) _ _ _ _ _ _ _ hE hy
    have q2 : ∀ V, Below W.heap.size W V → Calls Try.prog 15 #[.slice (some ⟨g4, 0, none⟩) 30 c4, .bool false] V fun e w' => e = .returned (.tuple #[.agg #[.int .i64 y0, .int .i64 y1, .int .i64 y2, .int .i64 y3, .int .u32 y4, .int .u32 y5], .int .i64 E]) ∧ Below V.heap.size V w' := fun V h => rget_at _ false _ 30 c4 W.heap.size V (rdW.below h) h.size (by omega) (by omega) (by omega) _ _ _ _ _ _ _ hE hy
    have q3 : ∀ V, Below W.heap.size W V → Calls Try.prog 16 #[.slice (some ⟨g4, 0, none⟩) 30 c4] V fun e w' => e = .returned (.tuple #[.agg #[.int .i64 z0, .int .i64 z1, .int .i64 z2, .int .i64 z3, .int .u32 z4, .int .u32 z5], .int .i64 D]) ∧ Below V.heap.size V w' := fun V h => part_at _ _ 30 c4 W.heap.size V (rdW.below h) h.size (by omega) (by omega) _ _ _ _ _ _ _ hD hz
    have q4 : ∀ V, Below W.heap.size W V → Calls Try.prog 15 #[.slice (some ⟨g4, 0, none⟩) 30 c4, .bool true] V fun e w' => e = .returned (.tuple #[.agg #[.int .i64 z0, .int .i64 z1, .int .i64 z2, .int .i64 z3, .int .u32 z4, .int .u32 z5], .int .i64 D]) ∧ Below V.heap.size V w' := fun V h => rget_at _ true _ 30 c4 W.heap.size V (rdW.below h) h.size (by omega) (by omega) (by omega) _ _ _ _ _ _ _ hD hz
    replace q1 := Lib.hid q1
    replace q2 := Lib.hid q2
    replace q3 := Lib.hid q3
    replace q4 := Lib.hid q4
    clear hE hD hy hz rdW
    go_wp2_with fail
    go_loopw [9] (fun i wr => GLR W i wr) (fun i _ => (2 - intOf i).toNat)
    case atStart => exact ⟨.inl rfl, Below.refl _ _⟩
    case round =>
      obtain ⟨hi, br⟩ := hrel
      rcases hi with rfl | rfl | rfl
      · go_wp2_with fail
        refine (q2.out _ br).mono ?_
        rintro e u1 ⟨rfl, e1⟩
        have br1 := bel_after br e1
        go_wp2_with fail
        have k10 := Blk.new u1 24 #[.int .i64 y0, .int .i64 y1, .int .i64 y2, .int .i64 y3, .int .u32 y4, .int .u32 y5]
        have br2 := br1.alloc br1.size (.cells #[.int .i64 y0, .int .i64 y1, .int .i64 y2, .int .i64 y3, .int .u32 y4, .int .u32 y5] 24)
        generalize hU : u1.alloc (.cells #[.int .i64 y0, .int .i64 y1, .int .i64 y2, .int .i64 y3, .int .u32 y4, .int .u32 y5] 24) = U1 at *
        clear hU
        refine (q1.out _ br2).mono ?_
        rintro e u2 ⟨rfl, e2⟩
        have br3 := bel_after br2 e2
        replace k10 := k10.bel e2
        go_wp2_with fail
        have k12 := Blk.new u2 29 #[.int .i64 y0, .int .i64 y1, .int .i64 y2, .int .i64 y3, .int .u32 y4, .int .u32 y5]
        replace k10 := k10.alloc (.cells #[.int .i64 y0, .int .i64 y1, .int .i64 y2, .int .i64 y3, .int .u32 y4, .int .u32 y5] 29)
        have br4 := br3.alloc br3.size (.cells #[.int .i64 y0, .int .i64 y1, .int .i64 y2, .int .i64 y3, .int .u32 y4, .int .u32 y5] 29)
        generalize hU : u2.alloc (.cells #[.int .i64 y0, .int .i64 y1, .int .i64 y2, .int .i64 y3, .int .u32 y4, .int .u32 y5] 29) = U2 at *
        clear hU
        have t1 := fun t i => k10.tw k10.lt t i
        have t2 := fun t i => k12.tw k12.lt t i
        have : Nonempty (Tw (fun w' => Below U2.heap.size U2 w')) := ⟨⟨_, Below.refl _ _⟩⟩
        refine region_tw (fun w' => Below (U2).heap.size (U2) w') (by kernel_rfl) (by kernel_rfl) (Below.refl _ _).drew ?_
        unfold clsS
        repeat (first
          | go_big_quiet_skip
          | (go_big_quiet_want; go_big_quiet_op; first | go_big_quiet_on | go_big_quiet_call (
            (first 
              | (go_at_call 17; exact q_tw (Nat.le_refl _) (From_any _ _ _ _ _ _ _))
            ))))
        refine wpQuiet_nil ?_
        intro tq
        go_wp2
        exact ⟨⟨.inr (.inl rfl), bel_after br4 tq.h⟩, by simp [intOf]⟩
      · go_wp2_with fail
        refine (q4.out _ br).mono ?_
        rintro e u1 ⟨rfl, e1⟩
        have br1 := bel_after br e1
        go_wp2_with fail
        have k10 := Blk.new u1 24 #[.int .i64 z0, .int .i64 z1, .int .i64 z2, .int .i64 z3, .int .u32 z4, .int .u32 z5]
        have br2 := br1.alloc br1.size (.cells #[.int .i64 z0, .int .i64 z1, .int .i64 z2, .int .i64 z3, .int .u32 z4, .int .u32 z5] 24)
        generalize hU : u1.alloc (.cells #[.int .i64 z0, .int .i64 z1, .int .i64 z2, .int .i64 z3, .int .u32 z4, .int .u32 z5] 24) = U1 at *
        clear hU
        refine (q1.out _ br2).mono ?_
        rintro e u2 ⟨rfl, e2⟩
        have br3 := bel_after br2 e2
        replace k10 := k10.bel e2
        go_wp2_with fail
        have k12 := Blk.new u2 29 #[.int .i64 y0, .int .i64 y1, .int .i64 y2, .int .i64 y3, .int .u32 y4, .int .u32 y5]
        replace k10 := k10.alloc (.cells #[.int .i64 y0, .int .i64 y1, .int .i64 y2, .int .i64 y3, .int .u32 y4, .int .u32 y5] 29)
        have br4 := br3.alloc br3.size (.cells #[.int .i64 y0, .int .i64 y1, .int .i64 y2, .int .i64 y3, .int .u32 y4, .int .u32 y5] 29)
        generalize hU : u2.alloc (.cells #[.int .i64 y0, .int .i64 y1, .int .i64 y2, .int .i64 y3, .int .u32 y4, .int .u32 y5] 29) = U2 at *
        clear hU
        refine (q3.out _ br4).mono ?_
        rintro e u3 ⟨rfl, e3⟩
        have br5 := bel_after br4 e3
        replace k10 := k10.bel e3
        replace k12 := k12.bel e3
        have hne : u2.heap.size ≠ u1.heap.size := by have := k10.lt; have := k12.lt; intro h; rw [h] at k12; have := k10.symm.trans k12; simp at this
        have cc := fun i => k12.cell i
        have ff := fun i => k12.frozen i
        go_wp2_with fail
        have k12' := (((((k12.set_ 0 (.int .i64 z0)).set_ 1 (.int .i64 z1)).set_ 2 (.int .i64 z2)).set_ 3 (.int .i64 z3)).set_ 4 (.int .u32 z4)).set_ 5 (.int .u32 z5)
        have k10' := (((((k10.far (p := ⟨u2.heap.size, 0, none⟩) (Ne.symm hne) (.int .i64 z0)).far (p := ⟨u2.heap.size, 1, none⟩) (Ne.symm hne) (.int .i64 z1)).far (p := ⟨u2.heap.size, 2, none⟩) (Ne.symm hne) (.int .i64 z2)).far (p := ⟨u2.heap.size, 3, none⟩) (Ne.symm hne) (.int .i64 z3)).far (p := ⟨u2.heap.size, 4, none⟩) (Ne.symm hne) (.int .u32 z4)).far (p := ⟨u2.heap.size, 5, none⟩) (Ne.symm hne) (.int .u32 z5)
        have hlo : W.heap.size ≤ u2.heap.size := br3.size
        have br6 := (((((br5.setCell (p := ⟨u2.heap.size, 0, none⟩) hlo (.int .i64 z0)).setCell (p := ⟨u2.heap.size, 1, none⟩) hlo (.int .i64 z1)).setCell (p := ⟨u2.heap.size, 2, none⟩) hlo (.int .i64 z2)).setCell (p := ⟨u2.heap.size, 3, none⟩) hlo (.int .i64 z3)).setCell (p := ⟨u2.heap.size, 4, none⟩) hlo (.int .u32 z4)).setCell (p := ⟨u2.heap.size, 5, none⟩) hlo (.int .u32 z5)
        generalize hU : (((((u3.setCell ⟨u2.heap.size, 0, none⟩ (.int .i64 z0)).setCell ⟨u2.heap.size, 1, none⟩ (.int .i64 z1)).setCell ⟨u2.heap.size, 2, none⟩ (.int .i64 z2)).setCell ⟨u2.heap.size, 3, none⟩ (.int .i64 z3)).setCell ⟨u2.heap.size, 4, none⟩ (.int .u32 z4)).setCell ⟨u2.heap.size, 5, none⟩ (.int .u32 z5) = U3 at *
        clear hU k12 k10 cc ff
        have k12 : Blk U3 u2.heap.size 29 #[.int .i64 z0, .int .i64 z1, .int .i64 z2, .int .i64 z3, .int .u32 z4, .int .u32 z5] := by simpa using k12'
        clear k12'
        have t1 := fun t i => k10'.tw k10'.lt t i
        have t2 := fun t i => k12.tw k12.lt t i
        have : Nonempty (Tw (fun w' => Below U3.heap.size U3 w')) := ⟨⟨_, Below.refl _ _⟩⟩
        refine region_tw (fun w' => Below (U3).heap.size (U3) w') (by kernel_rfl) (by kernel_rfl) (Below.refl _ _).drew ?_
        unfold clsS
        repeat (first
          | go_big_quiet_skip
          | (go_big_quiet_want; go_big_quiet_op; first | go_big_quiet_on | go_big_quiet_call (
            (first 
              | (go_at_call 17; exact q_tw (Nat.le_refl _) (From_any _ _ _ _ _ _ _))
            ))))
        refine wpQuiet_nil ?_
        intro tq
        go_wp2
        exact ⟨⟨.inr (.inr rfl), bel_after br6 tq.h⟩, by simp [intOf]⟩
      · go_wp2
        go_ret
        exact ⟨rfl, bel_after bWW br⟩
theorem arg_two {W : World} {v : Value} (h : Arg Try.prog W 39 v) : ∃ x y : Int, v = .agg #[.int .i64 x, .int .i64 y] := by
  obtain ⟨cs, m, rfl, hs, hf⟩ := arg_array Try.underlying39 h
  have hC : Try.prog.cellsOf 39 = 2 := by kernel_rfl
  have hCi : Try.prog.cellsOf 3 = 1 := by kernel_rfl
  rw [hC] at hs
  obtain ⟨l⟩ := cs
  match l, hs with
  | [x0, x1], _ =>
    have h0 := hf 0 (by omega)
    have h1 := hf 1 (by omega)
    rw [hCi] at h0 h1
    obtain ⟨a, ha, _⟩ := rdg_int Try.underlying3 h0
    obtain ⟨b, hb, _⟩ := rdg_int Try.underlying3 h1
    simp at ha hb
    exact ⟨a, b, by rw [ha, hb]⟩
theorem HeadGets_args (W : World) (args : Array Value) (hs : args.size = Try.f6.params.size) (hA : ∀ (j : Nat) t v, Try.f6.params[j]? = some t → args[j]? = some v → Arg Try.prog W t v) :
    Calls Try.prog 6 args W fun e W' => e = .returned (.bool true) ∧ Below W.heap.size W W' := by
  obtain ⟨v0, v1, v2, rfl⟩ := args3 hs
  obtain ⟨a, b, c, d, e, f, rfl, he, hf⟩ := arg_head (hA 0 24 v0 rfl rfl)
  obtain ⟨x, y, rfl⟩ := arg_two (hA 1 39 v1 rfl rfl)
  obtain ⟨fix, rfl⟩ := arg_bool Try.underlying4 (hA 2 4 v2 rfl rfl)
  by_cases hp : canPut c d 10
  · exact HeadGets_yes a b c d e f x y fix W hp.1 hp.2.1 (inr_u32 he) (inr_u32 hf)
  · exact HeadGets_no a b c d e f x y fix W hp

set_option maxRecDepth 100000 in
theorem HeadGets_lifted (os : Os) (started : os.Started) (H : Type) (enc : TypeId × Value → H) :
    ReturnsInHanded {} Try.checked os 6 .any (Rows.headGetsSpec.pre6 enc Try.prog Try.f6 Rows.headGetsRow.domain false) (Rows.headGetsSpec.post enc Try.prog Try.f6 false true false false) :=
  law_lifted os started H enc (by kernel_rfl) Try.func6 rfl rfl (fun H ds h => by match ds, h with | [_, _, _], _ => exact ⟨rfl, rfl, rfl⟩) (by kernel_rfl)
    (ChangeSpec.witness6 (enc := enc) (C := Try.checked) false ⟨#[], #[.agg #[.int .i64 0, .int .i64 0, .int .i64 0, .int .i64 0, .int .u32 0, .int .u32 0], .agg #[.int .i64 0, .int .i64 0], .bool false], []⟩ 8 (by kernel_rfl) (by kernel_rfl) (by kernel_rfl) (by kernel_rfl))
    HeadGets_args

/-- the statement -/
theorem headGets_holds : Rows.HeadGetsSaid :=
  OpenClaim.holds_of_wide 6 Try.f6 rfl rfl rfl rfl rfl rfl rfl ⟨rfl, rfl, rfl, rfl, rfl⟩ rfl rfl rfl rfl rfl (by kernel_rfl) Try.func6 (by kernel_rfl)
    (of_decide_eq_true (by kernel_rfl)) (by unfold Func.isWrapper; first | (rw [if_pos (by decide +kernel)]; kernel_rfl) | (rw [if_neg (by decide +kernel)]; exact ⟨rfl, rfl⟩))
    (fun os started H enc _ => HeadGets_lifted os started H enc)

end Go.Proofs.Ytcpndmcidbidbaa
