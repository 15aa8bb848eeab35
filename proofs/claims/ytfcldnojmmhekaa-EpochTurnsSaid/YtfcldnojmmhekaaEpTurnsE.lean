/- The document's Take and New; the law's unpinned. -/
import Derived.Test.YtfcldnojmmhekaaEpTurnsD
namespace Go.Proofs.Ytfcldnojmmhekaa
set_option linter.unusedVariables false
set_option linter.unusedSimpArgs false
open Go.RowKit
section
variable {base eb pb stb gb n E k : Nat} {pin : List Nat} {rs : List Rs} {hs : List Value} {G : List (List Th)} {w : World}
set_option maxRecDepth 100000 in
set_option maxHeartbeats 2000000 in
theorem rTake_any (q : RE base eb pb stb gb n E pin rs hs G w) (hk : k < n) (l : List Th) (hl : G[k]? = some l) (hll : l.length ≤ 100000) (hb : base ≤ w.heap.size) (hE : E ≤ 1000000)
    (hwr : ∀ x ∈ l, inr .u64 x.what) (hwn : ∀ x ∈ l, 0 ≤ x.when ∧ x.when ≤ 1000000) :
    Calls Try.prog 28 #[.pointer (some ⟨eb, 0, none⟩), .int .i64 k] w fun e w' => ∃ v hs', e = .returned v ∧ Own .u64 23 w' w.heap.size v (takes (E : Int) l) ∧ RE base eb pb stb gb n E pin rs hs' (G.set k (leaves (E : Int) l)) w' ∧ Upd (GvS gb hs) w w' := by
  obtain ⟨i0, hi, hz0, hz1, hz2⟩ := info_parts info_u64e
  obtain ⟨j0, hj, hy0, hy1, hy2⟩ := info_parts info_rthing
  obtain ⟨hv, l2, hhv, hl2, own⟩ := q.gv.at_ (i := k) (by rw [q.lg]; exact hk)
  obtain rfl : l2 = l := by rw [hl] at hl2; exact (Option.some.inj hl2).symm
  obtain ⟨A1, c1, rfl, hc1, hc2⟩ := own.form rfl
  have rd := own.rd csr_len rfl rfl
  have hk0 : (0 : Int) ≤ k := by omega
  have hkn : (k : Int) < n := by omega
  obtain ⟨m, hm⟩ : ∃ m, m = l2.length := ⟨_, rfl⟩
  have e0 := fun W (hW : Below w.heap.size w W) => (q.bel hW).obj.cell 0
  have e3 := fun W (hW : Below w.heap.size w W) => (q.bel hW).obj.cell 3
  have e5 : ∀ W, Below w.heap.size w W → W.cell? ⟨gb, k, none⟩ = some (.slice A1 m c1) := fun W hW => by
    rw [(q.bel hW).gv.blk.cell, hm]; simpa using hhv
  rw [← hm] at hc1 rd hll hhv
  obtain ⟨c0, hc0⟩ : ∃ c0 : Int, c0 = (E : Int) := ⟨_, rfl⟩
  rw [← hc0]
  have hc0b : 0 ≤ c0 ∧ c0 ≤ 1000000 := by omega
  replace hc0 := Lib.hid hc0
  replace e0 := Lib.hid e0
  replace e3 := Lib.hid e3
  replace e5 := Lib.hid e5
  replace hhv := Lib.hid hhv
  replace hm := Lib.hid hm
  clear own hl hl2
  go_enter Try.func28, Try.ntmps28
  go_wp2_with fail
  go_loopg [5, 6, 7] m (fun gk s5 s6 s7 wr => ∃ i : Nat, gk = m - i ∧ i ≤ m ∧ s7 = .int .i64 i ∧ Own .u64 23 wr w.heap.size s5 (takes c0 (l2.take i)) ∧ OwnT Th.csr 2 80 wr w.heap.size s6 (leaves c0 (l2.take i)) ∧ Below w.heap.size w wr)
  case atStart => exact ⟨0, rfl, Nat.zero_le _, rfl, Own.nil _ _ _ _, OwnT.nil _ _ _ _ _, Below.refl _ _⟩
  case round =>
    obtain ⟨i, hgk, him, rfl, own, ownT, bel⟩ := hrel
    have e3r := e3.out wr bel
    have e5r := e5.out wr bel
    by_cases hlt : i < m
    · have hd : decide (i < m) = true := by simpa using hlt
      replace hgk := Lib.hid hgk
      obtain ⟨bb, o, rfl, hbb, hcl⟩ := rd.cel (by omega)
      obtain ⟨d, hdi⟩ : ∃ d, l2[i]? = some d := ⟨_, List.getElem?_eq_getElem (by have := hm.out; omega)⟩
      have y0 : wr.cell? ⟨bb, o + i * 2, none⟩ = some (.int .u64 d.what) := (bel.cell (p := ⟨bb, o + i * 2, none⟩) hbb).trans (hcl i d hdi 0 _ rfl)
      have y1 : wr.cell? ⟨bb, o + i * 2 + 1, none⟩ = some (.int .i64 d.when) := (bel.cell (p := ⟨bb, o + i * 2 + 1, none⟩) hbb).trans (hcl i d hdi 1 _ rfl)
      have hwd := hwr d (List.mem_of_getElem? hdi)
      obtain ⟨hwn1, hwn2⟩ := hwn d (List.mem_of_getElem? hdi)
      have htk := takes_snoc c0 (l2.take i) d
      have hlv := leaves_snoc c0 (l2.take i) d
      rw [show l2.take i ++ [d] = l2.take (i + 1) by rw [List.take_add_one, hdi]; rfl] at htk hlv
      have hlen1 := takes_len c0 (l2.take i)
      have hlen2 := leaves_len c0 (l2.take i)
      have hlen : (l2.take i).length = i := by rw [List.length_take, ← hm.out]; omega
      rw [hlen] at hlen1 hlen2
      generalize takes c0 (l2.take i) = T at *
      generalize leaves c0 (l2.take i) = R at *
      obtain ⟨wt, wn⟩ := d
      simp only at y0 y1 hwd htk hwn1 hwn2 hlv
      replace htk := Lib.hid htk
      replace hlv := Lib.hid hlv
      have hik : (0 : Int) ≤ i := by omega
      have him2 : (i : Int) < m := by omega
      have hww : IntKind.i64.wrap (wn + 2) = wn + 2 := IntWalk.i64_in _ (by omega)
      have bt := Blk.new wr 80 #[.int .u64 wt, .int .i64 wn]
      have bel1 : Below w.heap.size w (wr.alloc (.cells #[.int .u64 wt, .int .i64 wn] 80)) := bel.alloc bel.size _
      have own1 := own.alloc (.cells #[.int .u64 wt, .int .i64 wn] 80)
      have ownT1 := ownT.alloc (.cells #[.int .u64 wt, .int .i64 wn] 80)
      clear hdi hcl hlen own ownT
      by_cases hp : wn + 2 ≤ c0
      · have hpd : decide (wn + 2 ≤ c0) = true := by simpa using hp
        have hT := htk.out
        have hR := hlv.out
        rw [if_pos hp] at hT hR
        clear htk hlv hp
        replace hT := Lib.hid hT
        replace hR := Lib.hid hR
        go_upto_region 7 with fail
        generalize wr.alloc (.cells #[.int .u64 wt, .int .i64 wn] 80) = W1 at *
        generalize wr.heap.size = tb at *
        clear y0 y1 e3r e5r
        have z0 : ∀ t : Tw (fun W' => Below W1.heap.size W1 W'), t.w.cell? ⟨eb, 0, none⟩ = some (.int .i64 c0) := fun t => by
          have := e0.out t.w (bel_after bel1 t.h)
          rw [this, hc0.out]; rfl
        have z1 : ∀ t : Tw (fun W' => Below W1.heap.size W1 W'), t.w.cell? ⟨tb, 1, none⟩ = some (.int .i64 wn) := fun t => bt.tw bt.lt t 1
        have : Nonempty (Tw (fun W' => Below W1.heap.size W1 W')) := ⟨⟨W1, Below.refl _ _⟩⟩
        refine region_tw (fun w' => Below (W1).heap.size (W1) w') (by kernel_rfl) (by kernel_rfl) (Below.refl _ _).drew ?_
        unfold clsS
        repeat (first
          | go_big_quiet_skip
          | (go_big_quiet_want; go_big_quiet_op; first | go_big_quiet_on | go_big_quiet_call (
            (first 
            | fail))))
        refine wpQuiet_nil ?_
        intro tq
        have bel3 := bel_after bel1 tq.h
        have own3 := own1.below tq.h
        have ownT3 := ownT1.below tq.h
        have bt3 := bt.bel tq.h
        clear z0 z1 this bel1 own1 ownT1 bt
        generalize tq.w = W3 at *
        have t0 := bt3.cell 0
        have t1 := bt3.cell 1
        have bel2 : Below w.heap.size w (W3.alloc (.cells #[.int .u64 wt] 23)) := bel3.alloc bel3.size _
        have hx := Rd.new .u64 W3 23 [wt] (by intro y hy; simp at hy; subst hy; exact hwd) #[.int .u64 wt] rfl 1 rfl
        have own2 := own3.alloc (.cells #[.int .u64 wt] 23)
        have ownT2 := ownT3.alloc (.cells #[.int .u64 wt] 23)
        have hbz := bel2.size
        go_wp2_with (at_builtin; go_loud (refine wpList_app _ rfl (.tmp 39) (.tmp 42) 37 rfl .u64 w.heap.size 23 i0 (.int .u64 0) 8 Try.underlying37 hi hz0 hz1 hz2 rfl _ (by rfl) T own2 _ _ 1 1 rfl [wt] hx (by omega) (by decide) hbz ?_; intro v1 w4 own4 hg4 hb4))
        have bel4 := bel2.grown hg4 hbz (fun g h => (own2.lt g h).1)
        have ownT4 : OwnT Th.csr 2 80 w4 w.heap.size _ R := ownT2.upd (Upd.of_grown (S := fun x => _ = some x) hg4 (fun g h => h)) (fun x hx1 hx2 => by
          obtain ⟨_, q1⟩ := ownT2.blk_ hx1
          obtain ⟨_, q2⟩ := own2.blk_ hx2
          exact q1.ne_ q2 (by decide) rfl)
        rw [← hT.out] at own4
        rw [← hR.out] at ownT4
        clear own2 hx hg4 hb4 bel2 hbz ownT2 own3 ownT3 bel3 bt3 t0 t1
        go_wp2_with fail
        go_roundg (m - (i + 1))
        case measure => have := hgk.out; omega
        case rel => exact ⟨i + 1, rfl, by omega, by go_num, own4, ownT4, bel4⟩
      · have hpd : decide (wn + 2 ≤ c0) = false := by simpa using hp
        have hT := htk.out
        have hR := hlv.out
        rw [if_neg hp] at hT hR
        clear htk hlv hp
        replace hT := Lib.hid hT
        replace hR := Lib.hid hR
        go_upto_region 7 with fail
        generalize wr.alloc (.cells #[.int .u64 wt, .int .i64 wn] 80) = W1 at *
        generalize wr.heap.size = tb at *
        clear y0 y1 e3r e5r
        have z0 : ∀ t : Tw (fun W' => Below W1.heap.size W1 W'), t.w.cell? ⟨eb, 0, none⟩ = some (.int .i64 c0) := fun t => by
          have := e0.out t.w (bel_after bel1 t.h)
          rw [this, hc0.out]; rfl
        have z1 : ∀ t : Tw (fun W' => Below W1.heap.size W1 W'), t.w.cell? ⟨tb, 1, none⟩ = some (.int .i64 wn) := fun t => bt.tw bt.lt t 1
        have : Nonempty (Tw (fun W' => Below W1.heap.size W1 W')) := ⟨⟨W1, Below.refl _ _⟩⟩
        refine region_tw (fun w' => Below (W1).heap.size (W1) w') (by kernel_rfl) (by kernel_rfl) (Below.refl _ _).drew ?_
        unfold clsS
        repeat (first
          | go_big_quiet_skip
          | (go_big_quiet_want; go_big_quiet_op; first | go_big_quiet_on | go_big_quiet_call (
            (first 
            | fail))))
        refine wpQuiet_nil ?_
        intro tq
        have bel3 := bel_after bel1 tq.h
        have own3 := own1.below tq.h
        have ownT3 := ownT1.below tq.h
        have bt3 := bt.bel tq.h
        clear z0 z1 this bel1 own1 ownT1 bt
        generalize tq.w = W3 at *
        have t0 := bt3.cell 0
        have t1 := bt3.cell 1
        have bel2 : Below w.heap.size w (W3.alloc (.cells #[.int .u64 wt, .int .i64 wn] 80)) := bel3.alloc bel3.size _
        have hx := RdT.new (cs := Th.csr) (sz := 2) csr_len W3 80 [⟨wt, wn⟩] #[.int .u64 wt, .int .i64 wn] rfl 1 rfl
        have own2 := own3.alloc (.cells #[.int .u64 wt, .int .i64 wn] 80)
        have ownT2 := ownT3.alloc (.cells #[.int .u64 wt, .int .i64 wn] 80)
        have hbz := bel2.size
        go_wp2_with (at_builtin; go_loud (refine wpList_appT csr_len csr_one (by decide) _ rfl (.tmp 44) (.tmp 46) 78 rfl w.heap.size 80 j0 (.agg #[.int .u64 0, .int .i64 0]) 16 Try.underlying78 hj hy0 hy1 hy2 rfl _ (by rfl) R ownT2 _ _ 1 1 rfl [⟨wt, wn⟩] hx (by omega) (by decide) hbz ?_; intro v1 w4 ownT4 hg4 hb4))
        have bel4 := bel2.grown hg4 hbz (fun g h => (ownT2.lt g h).1)
        have own4 : Own .u64 23 w4 w.heap.size _ T := own2.upd (Upd.of_grown (S := fun x => _ = some x) hg4 (fun g h => h)) (fun x hx1 hx2 => by
          obtain ⟨_, q1⟩ := own2.blk_ hx1
          obtain ⟨_, q2⟩ := ownT2.blk_ hx2
          exact q1.ne_ q2 (by decide) rfl)
        rw [← hT.out] at own4
        rw [← hR.out] at ownT4
        clear own2 hx hg4 hb4 bel2 hbz ownT2 own3 ownT3 bel3 bt3 t0 t1
        go_wp2_with fail
        go_roundg (m - (i + 1))
        case measure => have := hgk.out; omega
        case rel => exact ⟨i + 1, rfl, by omega, by go_num, own4, ownT4, bel4⟩
    · obtain rfl : i = m := by omega
      have hd : decide (i < i) = false := by simp
      rw [List.take_of_length_le (by rw [← hm.out]; exact Nat.le_refl _)] at own ownT
      obtain ⟨A2, c2, rfl, _, _⟩ := own.form rfl
      obtain ⟨A3, c3, rfl, _, _⟩ := ownT.form rfl
      have bk := q.gv.blk.bel bel
      have ownB : OwnT Th.csr 2 80 wr base (.slice A3 (leaves c0 l2).length c3) (leaves c0 l2) := ⟨⟨ownT.row.1, ownT.row.2.imp id (fun ⟨g, cap, cur, q1, q2, q3⟩ => ⟨g, cap, cur, q1, Nat.le_trans hb q2, q3⟩)⟩⟩
      obtain ⟨gv3, up3⟩ := q.gv.put (by decide) hhv.out bk (Upd.of_below bel _) ownB (.inr fun x hx => (ownT.lt x hx).1)
      have q2 := q.bel bel
      have q5 := bk.cell k
      have q6 := bk.frozen k
      rw [show hs.toArray[k]? = _ by simpa using hhv.out] at q5
      have ug := Upd.one wr gb k (.slice A3 (leaves c0 l2).length c3)
      have q3 : RE base eb pb stb gb n E pin rs (hs.set k (.slice A3 (leaves c0 l2).length c3)) (G.set k (leaves c0 l2)) (wr.setCell ⟨gb, k, none⟩ (.slice A3 (leaves c0 l2).length c3)) :=
        ⟨q2.obj.upd ug (q2.obj.ne_ bk (by decide)), q2.pins.upd ug (q2.pins.ne_ bk (by decide)), q2.sts.upd ug (q2.sts.ne_ bk (by decide)), gv3, q2.lp, q2.lr, by rw [List.length_set]; exact q2.lg⟩
      have own3 := own.upd ug (fun x hx he => by
        obtain ⟨_, qq⟩ := own.blk_ hx
        exact qq.ne_ bk (by decide) he)
      clear ownB ownT q2 bk own q gv3 ug
      generalize (leaves c0 l2).length = m3 at *
      generalize hm4 : (takes c0 l2).length = m4 at *
      replace hm4 := Lib.hid hm4
      clear hgk
      go_wp2_with fail
      go_ret
      exact ⟨_, _, rfl, own3, q3, up3⟩
end
/-- rows of truths -/
def bcs (b : Bool) : List Value := [.bool b]
theorem bcs_len (b : Bool) : (bcs b).length = 1 := rfl
def clrTo (k i : Nat) (sn : List (List Bool)) : List (List Bool) := (sn.take i).map (fun r => r.set k false) ++ sn.drop i
theorem clrTo_len (k i : Nat) (sn : List (List Bool)) : (clrTo k i sn).length = sn.length := by unfold clrTo; simp; omega
theorem clrTo_at {k i : Nat} {sn : List (List Bool)} {r : List Bool} (h : sn[i]? = some r) : (clrTo k i sn)[i]? = some r := by
  have hl := (List.getElem?_eq_some_iff.1 h).1
  unfold clrTo
  rw [List.getElem?_append_right (by simp; omega)]
  simp only [List.length_map, List.length_take]
  rw [show i - min i sn.length = 0 by omega, List.getElem?_drop, Nat.add_zero]; exact h
theorem clrTo_succ {k i : Nat} {sn : List (List Bool)} {r : List Bool} (h : sn[i]? = some r) : (clrTo k i sn).set i (r.set k false) = clrTo k (i + 1) sn := by
  have hl := (List.getElem?_eq_some_iff.1 h).1
  unfold clrTo
  rw [List.set_append_right _ _ (by simp; omega)]
  simp only [List.length_map, List.length_take]
  rw [show i - min i sn.length = 0 by omega, List.drop_eq_getElem_cons hl, List.set_cons_zero, List.take_add_one, h]
  have he : sn[i] = r := by rw [List.getElem?_eq_getElem hl] at h; exact Option.some.inj h
  simp
theorem clrTo_all (k : Nat) (sn : List (List Bool)) (m : Nat) (h : sn.length = m) : clrTo k m sn = clr k sn := by
  unfold clrTo clr
  rw [List.take_of_length_le (by omega), List.drop_of_length_le (by omega), List.append_nil]
set_option maxHeartbeats 1000000 in
theorem unpinned_any (base sb n k m c : Nat) (shs : List Value) (sn : List (List Bool)) (w : World) (sv : GvT bcs 1 4 48 w base sb shs sn) (hm : sn.length = m) (hm2 : m ≤ 1000) (hr : ∀ r ∈ sn, r = [] ∨ r.length = n) (hk : k < n) :
    Calls Try.prog 24 #[.slice (some ⟨sb, 0, none⟩) m c, .int .i64 k] w fun e w' => e = .returned (.tuple #[]) ∧ GvT bcs 1 4 48 w' base sb shs (clr k sn) ∧ Upd (GvS sb shs) w w' := by
  replace hm := Lib.hid hm
  have hk0 : (0 : Int) ≤ k := by omega
  go_enter Try.func24, Try.ntmps24
  go_wp2_with fail
  go_loopw [4] (fun ix wr => ∃ i : Nat, i ≤ m ∧ ix = .int .i64 i ∧ GvT bcs 1 4 48 wr base sb shs (clrTo k i sn) ∧ Upd (GvS sb shs) w wr) (fun ix _ => m - (intOf ix).toNat)
  case atStart => exact ⟨0, Nat.zero_le _, rfl, by simpa [clrTo] using sv, Upd.refl _ _⟩
  case round =>
    obtain ⟨i, hi, rfl, gv, up⟩ := hrel
    by_cases hlt : i < m
    · have hd : decide (i < m) = true := by simpa using hlt
      have hi0 : (0 : Int) ≤ i := by omega
      have him : (i : Int) < m := by omega
      obtain ⟨r, hri⟩ : ∃ r, sn[i]? = some r := ⟨_, List.getElem?_eq_getElem (by have := hm.out; omega)⟩
      obtain ⟨v, r2, hv, hr2, own⟩ := gv.at_ (i := i) (by rw [clrTo_len]; have := hm.out; omega)
      obtain rfl : r2 = r := by rw [clrTo_at hri] at hr2; exact (Option.some.inj hr2).symm
      have c5 := gv.blk.cell i
      rw [show shs.toArray[i]? = _ by simpa using hv] at c5
      have hrl := hr r2 (List.mem_of_getElem? hri)
      rcases hrl with rfl | hrl
      · obtain ⟨A1, c1, rfl, _, _⟩ := own.form (n := 0) rfl
        have gv2 : GvT bcs 1 4 48 wr base sb shs (clrTo k (i + 1) sn) := by
          rw [← clrTo_succ hri, show ([] : List Bool).set k false = [] from rfl]
          have : (clrTo k i sn).set i [] = clrTo k i sn := by
            apply List.ext_getElem?
            intro j
            by_cases hj : j = i
            · subst hj; rw [List.getElem?_set_self (List.getElem?_eq_some_iff.1 hr2).1, hr2]
            · rw [List.getElem?_set_ne (Ne.symm hj)]
          rw [this]; exact gv
        clear own gv hri hr2
        go_wp2_with fail
        go_roundw
        case rel => exact ⟨i + 1, by omega, by go_num, gv2, up⟩
        case measure => simp [intOf]; omega
      · obtain ⟨g1, c1, rfl, _, _, _, _, cur, hcur⟩ := own.formG (n := r2.length) rfl (by omega)
        obtain ⟨b0, hb0⟩ : ∃ b0, r2[k]? = some b0 := ⟨_, List.getElem?_eq_getElem (by omega)⟩
        obtain ⟨gv2, up2⟩ := gv.cell (by decide) bcs_len hv hr2 hb0 (x' := false) (f := 0) (u := .bool false) (by omega) rfl
        rw [Nat.mul_one, Nat.add_zero] at gv2 up2
        rw [clrTo_succ hri] at gv2
        have y0 : wr.cell? ⟨g1, k, none⟩ = some (.bool b0) := by
          have := own.at_ bcs_len hb0 (f := 0) (u := .bool b0) rfl
          rwa [Nat.mul_one, Nat.add_zero] at this
        have f0 := OwnT.frozen own rfl k
        have hkr : (k : Int) < (r2.length : Int) := by omega
        have hr0 : (0 : Int) < (r2.length : Int) := by omega
        replace up2 := up.trans up2
        generalize r2.length = rl at *
        clear own gv hri hr2 hb0 hcur up
        go_wp2_with fail
        go_roundw
        case rel => exact ⟨i + 1, by omega, by go_num, gv2, up2⟩
        case measure => simp [intOf]; omega
    · obtain rfl : i = m := by omega
      have hd : decide (i < i) = false := by simp
      rw [clrTo_all k sn i hm.out] at gv
      go_wp2_with fail
      go_end0
      exact ⟨rfl, gv, up⟩
end Go.Proofs.Ytfcldnojmmhekaa
