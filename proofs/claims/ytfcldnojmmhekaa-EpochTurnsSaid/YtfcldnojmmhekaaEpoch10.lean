/- Epochs in a law's call; an Advance while nobody is pinned; the law's moves. -/
import Derived.Test.YtfcldnojmmhekaaEpoch9
namespace Go.Proofs.Ytfcldnojmmhekaa
set_option linter.unusedVariables false
set_option linter.unusedSimpArgs false
open Go.RowKit
/-- epochs that the call made itself -/
structure EL (w0 : World) (b g h gr n : Nat) (L : List Int) (hs : List Value) (G : List (List Th)) (W : World) : Prop where
  eg : EG w0.heap.size b g h gr n L hs G W
  hh : w0.heap.size ≤ h
  hgr : w0.heap.size ≤ gr
  bel : Below w0.heap.size w0 W
section
variable {w0 W W' : World} {b g h gr n sb : Nat} {L L' : List Int} {hs hs' : List Value} {G G' : List (List Th)} {s s' : Es}
theorem EL.bel' (k : EL w0 b g h gr n L hs G W) (hb : Below W.heap.size W W') : EL w0 b g h gr n L hs G W' := ⟨k.eg.bel hb, k.hh, k.hgr, bel_after k.bel hb⟩
theorem EL.drew (k : EL w0 b g h gr n L hs G W) : EL w0 b g h gr n L hs G W.drew := ⟨k.eg.drew, k.hh, k.hgr, k.bel.drew⟩
theorem EL.step (k : EL w0 b g h gr n L hs G W) (st : EsAt W sb s) (hsb : w0.heap.size ≤ sb) (es : ES W b g h gr n sb s' L' W') : EL w0 b g h gr n L' hs G W' :=
  ⟨⟨es.ep, k.eg.gv.upd es.upd (fun x hx => by
    rcases hx with rfl | rfl
    · exact k.eg.notH
    · exact k.eg.gv.notS st (by decide) (by decide)), k.eg.len⟩, k.hh, k.hgr, k.bel.trans (es.upd.below k.bel.size (fun x hx e => by have := k.hh; rcases e with rfl | rfl <;> omega))⟩
theorem EL.gave (k : EL w0 b g h gr n L hs G W) (eg : EG w0.heap.size b g h gr n L hs' G' W') (up : Upd (GvS gr hs) W W') : EL w0 b g h gr n L hs' G' W' :=
  ⟨eg, k.hh, k.hgr, k.bel.trans (up.below k.bel.size (fun x hx e => by have := k.eg.gv.lt k.hgr e; omega))⟩
theorem EL.unpin (k : EL w0 b g h gr n L hs G W) (ep : EpAt W' b g h gr n L') (up : Upd (fun x => x = h) W W') : EL w0 b g h gr n L' hs G W' :=
  ⟨⟨ep, k.eg.gv.upd up (fun x hx => by subst hx; exact k.eg.notH), k.eg.len⟩, k.hh, k.hgr, k.bel.trans (up.below k.bel.size (fun x hx e => by have := k.hh; omega))⟩
end
/-- cells while nobody is pinned -/
def idleL (n : Nat) (E : Int) : List Int := E :: List.replicate n 0
theorem idle_at0 (n : Nat) (E : Int) : celAt (idleL n E) 0 = E := by simp [celAt, idleL]
theorem idle_at (n : Nat) (E : Int) (p : Nat) (h1 : 1 ≤ p) : celAt (idleL n E) p = 0 := by
  obtain ⟨q, rfl⟩ : ∃ q, p = q + 1 := ⟨p - 1, by omega⟩
  unfold celAt idleL
  split
  · rw [Int.toNat_natCast, List.getD_cons_succ, List.getD_eq_getElem?_getD]
    cases h : (List.replicate n (0 : Int))[q]? with
    | none => rfl
    | some x => exact (List.mem_replicate.1 (List.mem_of_getElem? h)).2
  · rfl
theorem idle_set (n : Nat) (E E' : Int) : celSet (idleL n E) 0 E' = idleL n E' := by
  unfold celSet idleL
  rw [if_pos ⟨by omega, by simp⟩]
  rfl
theorem idle_new (n : Nat) : List.replicate (n + 1) (0 : Int) = idleL n 0 := rfl
/-- an Advance that has done j steps -/
def advS (E : Int) (j : Nat) : Es := ⟨0, true, j, if j = 0 then 0 else E, false, false⟩
theorem advs_go (n : Nat) (E : Int) (j : Nat) (hj : j ≤ n) : (advS E j).does n (idleL n E) = (advS E (j + 1), idleL n E) := by
  unfold Es.does advS
  simp only [if_true]
  unfold Es.advs
  by_cases h0 : j = 0
  · subst h0
    simp [idle_at0]
  · simp only [h0, if_false, hj, if_true]
    rw [idle_at n E j (by omega)]
    simp
theorem advs_end (n : Nat) (E : Int) (hE : 0 ≤ E ∧ E ≤ 1000000) : (advS E (n + 1)).does n (idleL n E) = (⟨0, true, n + 2, E, true, true⟩, idleL n (E + 1)) := by
  unfold Es.does advS
  simp only [if_true]
  unfold Es.advs
  rw [if_neg (by simp), if_neg (by simp)]
  rw [idle_at0, if_pos (by simp)]
  have hw : IntKind.u64.wrap (E + 1) = E + 1 := by rw [IntKind.wrap_u64]; omega
  simp only [Nat.add_eq_zero_iff, Nat.one_ne_zero, and_false, if_false]
  rw [hw, idle_set]
set_option maxRecDepth 100000 in
set_option maxHeartbeats 1000000 in
theorem moves_any (w : World) :
    Calls Try.prog 9 #[] w fun e w' => e = .returned (.bool true) ∧ Below w.heap.size w w' := by
  go_enter Try.func9, Try.ntmps9
  go_wp2_with fail
  refine (EpNew_yes 2 _ (by omega) (by omega)).mono ?_
  rintro e w1 ⟨b, g, h, gr, rfl, bel, hb, hh, hgr, ep, gv⟩
  have el : EL w b g h gr 2 (idleL 2 0) _ _ w1 := ⟨⟨ep, gv, rfl⟩, hh, hgr, bel⟩
  clear ep gv bel
  go_wp2_with fail
  refine (EpGive_any w.heap.size b g h gr 2 0 7 (idleL 2 0) _ _ [] w1 el.eg (by omega) rfl (by simp) el.bel.size).mono ?_
  rintro e w2 ⟨hs2, rfl, eg2, up2⟩
  have el2 := el.gave eg2 up2
  rw [idle_at0] at el2
  replace el2 : EL w b g h gr 2 (idleL 2 0) hs2 [[⟨7, 0⟩], []] w2 := el2
  clear el eg2 up2
  go_wp2_with fail
  go_loopg [4] 2 (fun gk s4 wr => ∃ i : Nat, gk = 2 - i ∧ i ≤ 2 ∧ s4 = .int .i64 i ∧ EL w b g h gr 2 (idleL 2 i) hs2 [[⟨7, 0⟩], []] wr)
  case atStart => exact ⟨0, rfl, by omega, rfl, el2⟩
  case round =>
    clear el2
    obtain ⟨i, hgk, hi2, rfl, el⟩ := hrel
    by_cases hlt : i < 2
    · have hd : decide ((i : Int) < 2) = true := by simp; omega
      replace hgk := Lib.hid hgk
      go_wp2_with fail
      refine (EpAdvance_any b _).mono ?_
      rintro e w3 ⟨sb, rfl, hsb, st, bel3⟩
      have hsb2 : w.heap.size ≤ sb := Nat.le_trans el.bel.size hsb
      replace el := el.bel' bel3
      clear bel3 hsb
      have st0 : EsAt w3 sb (advS i 0) := st
      clear st
      go_wp2_with fail
      go_loopg [6] 20 (fun gt s6 wx => ∃ j : Nat, gt = 20 - j ∧ j ≤ 3 ∧ s6 = .int .i64 j ∧ EsAt wx sb (advS i j) ∧ EL w b g h gr 2 (idleL 2 i) hs2 [[⟨7, 0⟩], []] wx)
      case atStart => exact ⟨0, rfl, by omega, rfl, st0, el⟩
      case round =>
        clear st0 el
        obtain ⟨j, hgt, hj, rfl, st, el⟩ := hrel
        have hd2 : decide ((j : Int) < 20) = true := by simp; omega
        replace hgt := Lib.hid hgt
        go_wp2_with fail
        refine (EpDo_any b g h gr 2 sb (advS i j) (idleL 2 i) _ el.eg.ep st (by show j ≤ 1000; omega) (fun h => by cases h) rfl).mono ?_
        by_cases hj2 : j ≤ 2
        · rw [advs_go 2 i j hj2]
          rintro e w4 ⟨rfl, es⟩
          have el4 := el.step st hsb2 es
          have st4 : EsAt w4 sb (advS i (j + 1)) := es.st
          clear el st es
          simp only [show (advS (i : Int) (j + 1)).done = false from rfl]
          go_wp2_with fail
          go_roundg (20 - (j + 1))
          case measure => have := hgt.out; omega
          case rel => exact ⟨j + 1, rfl, by omega, by go_num, st4, el4⟩
        · obtain rfl : j = 2 + 1 := by omega
          rw [advs_end 2 i (by omega)]
          rintro e w4 ⟨rfl, es⟩
          have el4 := el.step st hsb2 es
          have st4 := es.st
          clear el st es
          simp only
          go_wp2_with fail
          refine (EpWon_any sb _ _ st4).mono ?_
          rintro e w5 ⟨rfl, rfl⟩
          go_wp2_with fail
          go_roundg (2 - (i + 1))
          case measure => have := hgk.out; omega
          case rel => exact ⟨i + 1, rfl, by omega, by go_num, el4⟩
    · obtain rfl : i = 2 := by omega
      have hd : decide ((2 : Int) < 2) = false := by simp
      go_wp2_with fail
      refine (EpTake_any w.heap.size b g h gr 2 0 _ _ _ [⟨7, 0⟩] _ el.eg (by omega) rfl (by simp) el.bel.size (by intro x hx; simp at hx; subst hx; exact u64_inr (by simp)) (by intro x hx; simp at hx; subst hx; simp)).mono ?_
      rw [idle_at0]
      rintro e w3 ⟨v, hs3, rfl, own, eg3, up3⟩
      have el3 := el.gave eg3 up3
      replace own : Own .u64 23 w3 _ v [7] := own
      obtain ⟨gg, c3, rfl, _, _, _, _⟩ := own.formG rfl (by simp)
      obtain ⟨cx, _, _⟩ := own.at_ rfl (j := 0) (by simp)
      replace cx : w3.cell? ⟨gg, 0, none⟩ = some (.int .u64 7) := cx
      clear el eg3 up3 own
      go_wp2_with (first | (go_at_call 13; refine (EpNow_any b g h gr 2 _ _ el3.eg.ep 2 (idle_at0 2 _) (by omega)).mono ?_; rintro e w4 ⟨rfl, rfl⟩) | (go_at_call 18; refine (EpPinned_any 0 b g h gr 2 _ _ el3.eg.ep ⟨by omega, by omega⟩ 0 rfl (by omega)).mono ?_; rintro e w4 ⟨rfl, rfl⟩))
      go_ret
      exact ⟨rfl, el3.bel⟩
end Go.Proofs.Ytfcldnojmmhekaa
