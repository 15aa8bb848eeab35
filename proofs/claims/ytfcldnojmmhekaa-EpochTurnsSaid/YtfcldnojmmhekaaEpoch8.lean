/- Epochs: Waiting, Given. -/
import Derived.Test.YtfcldnojmmhekaaEpoch7
namespace Go.Proofs.Ytfcldnojmmhekaa
set_option linter.unusedVariables false
set_option linter.unusedSimpArgs false
open Go.RowKit
theorem EpWaiting_any (base b g h gr n k : Nat) (L : List Int) (hs : List Value) (G : List (List Th)) (l : List Th) (w : World) (eg : EG base b g h gr n L hs G w) (hk : k < n) (hl : G[k]? = some l) :
    Calls Try.prog 15 #[.pointer (some ⟨b, 0, none⟩), .int .i64 k] w fun e w' => e = .returned (.int .i64 l.length) ∧ w = w' := by
  obtain ⟨hv, l2, hhv, hl2, own⟩ := eg.gv.at_ (i := k) (by rw [eg.len]; exact hk)
  obtain rfl : l2 = l := by rw [hl] at hl2; exact (Option.some.inj hl2).symm
  obtain ⟨A1, c1, rfl, _, _⟩ := own.form rfl
  have e1 := eg.ep.obj.cell 1
  have e2 := eg.gv.blk.cell k
  rw [show hs.toArray[k]? = _ by simpa using hhv] at e2
  have hk0 : (0 : Int) ≤ k := by omega
  have hkn : (k : Int) < n := by omega
  generalize l2.length = m at *
  go_enter Try.func15, Try.ntmps15
  go_wp2_with fail
  refine (known_yes k b g h gr n L w eg.ep ⟨hk0, hkn⟩).mono ?_
  rintro e w1 ⟨rfl, rfl⟩
  clear eg own hhv hl hl2
  go_wp2_with fail
  go_ret
  exact ⟨rfl, rfl⟩
set_option maxRecDepth 100000 in
set_option maxHeartbeats 1000000 in
theorem EpGiven_any (base b g h gr n k : Nat) (L : List Int) (hs : List Value) (G : List (List Th)) (l : List Th) (w : World) (eg : EG base b g h gr n L hs G w) (hk : k < n) (hl : G[k]? = some l) (hll : l.length ≤ 100000) (hwr : ∀ x ∈ l, inr .u64 x.what) :
    Calls Try.prog 20 #[.pointer (some ⟨b, 0, none⟩), .int .i64 k] w fun e w' => ∃ v, e = .returned v ∧ Own .u64 23 w' w.heap.size v (l.map Th.what) ∧ Below w.heap.size w w' := by
  obtain ⟨i0, hi, hz0, hz1, hz2⟩ := info_parts info_u64e
  obtain ⟨hv, l2, hhv, hl2, own⟩ := eg.gv.at_ (i := k) (by rw [eg.len]; exact hk)
  obtain rfl : l2 = l := by rw [hl] at hl2; exact (Option.some.inj hl2).symm
  obtain ⟨A1, c1, rfl, hc1, hc2⟩ := own.form rfl
  have rd := own.rd Th.cs_len rfl rfl
  have e1 := eg.ep.obj.cell 1
  have e2 := eg.gv.blk.cell k
  rw [show hs.toArray[k]? = _ by simpa using hhv] at e2
  have hk0 : (0 : Int) ≤ k := by omega
  have hkn : (k : Int) < n := by omega
  obtain ⟨m, hm⟩ : ∃ m, m = l2.length := ⟨_, rfl⟩
  rw [← hm] at e2 hc1 rd hll
  go_enter Try.func20, Try.ntmps20
  go_wp2_with fail
  refine (known_yes k b g h gr n L w eg.ep ⟨hk0, hkn⟩).mono ?_
  rintro e w1 ⟨rfl, rfl⟩
  clear own hhv hl hl2 eg
  replace hm := Lib.hid hm
  go_wp2_with fail
  go_loopg [5, 20] m (fun gk s5 s20 wr => ∃ i : Nat, gk = m - i ∧ i ≤ m ∧ s20 = .int .i64 i ∧ Own .u64 23 wr w.heap.size s5 ((l2.map Th.what).take i) ∧ Below w.heap.size w wr)
  case atStart => exact ⟨0, rfl, Nat.zero_le _, rfl, Own.nil _ _ _ _, Below.refl _ _⟩
  case round =>
    obtain ⟨i, hgk, him, rfl, own, bel⟩ := hrel
    by_cases hlt : i < m
    · have hd : decide (i < m) = true := by simpa using hlt
      replace hgk := Lib.hid hgk
      obtain ⟨bb, o, rfl, hbb, hcl⟩ := rd.cel (by omega)
      obtain ⟨d, hdi⟩ : ∃ d, l2[i]? = some d := ⟨_, List.getElem?_eq_getElem (by have := hm.out; omega)⟩
      have c0 : wr.cell? ⟨bb, o + i * 2, none⟩ = some (.int .u64 d.what) := (bel.cell (p := ⟨bb, o + i * 2, none⟩) hbb).trans (hcl i d hdi 0 _ rfl)
      have c1 : wr.cell? ⟨bb, o + i * 2 + 1, none⟩ = some (.int .u64 d.when) := (bel.cell (p := ⟨bb, o + i * 2 + 1, none⟩) hbb).trans (hcl i d hdi 1 _ rfl)
      have hwd := hwr d (List.mem_of_getElem? hdi)
      have htk : (l2.map Th.what).take (i + 1) = (l2.map Th.what).take i ++ [d.what] := by rw [List.take_add_one, List.getElem?_map, hdi]; rfl
      have hlen : ((l2.map Th.what).take i).length = i := by rw [List.length_take, List.length_map, ← hm.out]; omega
      generalize hTT : (l2.map Th.what).take i = T at *
      replace hTT := Lib.hid hTT
      replace htk := Lib.hid htk
      replace hlen := Lib.hid hlen
      obtain ⟨wt, wn⟩ := d
      simp only at c0 c1 hwd htk
      clear hdi hcl e1 e2
      have bel2 : Below w.heap.size w ((wr.alloc (.cells #[.int .u64 wt, .int .u64 wn] 74)).alloc (.cells #[.int .u64 wt] 23)) := (bel.alloc bel.size _).alloc (by simp; have := bel.size; omega) _
      have hx := Rd.new .u64 (wr.alloc (.cells #[.int .u64 wt, .int .u64 wn] 74)) 23 [wt] (by intro y hy; simp at hy; subst hy; exact hwd) #[.int .u64 wt] rfl 1 rfl
      rw [show (wr.alloc (.cells #[.int .u64 wt, .int .u64 wn] 74)).heap.size = wr.heap.size + 1 by simp] at hx
      have own2 := (own.alloc (.cells #[.int .u64 wt, .int .u64 wn] 74)).alloc (.cells #[.int .u64 wt] 23)
      have hbz := bel2.size
      have hleni : T.length ≤ 100000 := by rw [hlen.out]; omega
      go_wp2_with (at_builtin; go_loud (refine wpList_app _ rfl (.tmp 24) (.tmp 27) 37 rfl .u64 w.heap.size 23 i0 (.int .u64 0) 8 Try.underlying37 hi hz0 hz1 hz2 rfl _ (by rfl) T own2 _ _ 1 1 rfl [wt] hx (by omega) (by decide) hbz ?_; intro v1 w4 own4 hg4 hb4))
      have bel4 := bel2.grown hg4 hbz (fun g h => (own2.lt g h).1)
      rw [← htk.out] at own4
      clear own2 hx hg4 hb4 bel2 hbz own bel c0 c1
      go_wp2_with fail
      go_roundg (m - (i + 1))
      case measure => have := hgk.out; omega
      case rel => exact ⟨i + 1, rfl, by omega, by go_num, own4, bel4⟩
    · obtain rfl : i = m := by omega
      rw [List.take_of_length_le (by rw [List.length_map, ← hm.out]; exact Nat.le_refl _)] at own
      obtain ⟨A2, c2, rfl, _, _⟩ := own.form rfl
      obtain ⟨m2, hm2⟩ : ∃ m2, m2 = (l2.map Th.what).length := ⟨_, rfl⟩
      rw [← hm2] at own ⊢
      replace hm2 := Lib.hid hm2
      go_wp2
      go_ret
      exact ⟨_, rfl, own, bel⟩
end Go.Proofs.Ytfcldnojmmhekaa
