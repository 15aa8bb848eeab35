/- The document's epochs: Begin, Unpin, Waiting, Given, Give, Take, New. -/
import Derived.Test.YtfcldnojmmhekaaEpTurnsC
namespace Go.Proofs.Ytfcldnojmmhekaa
set_option linter.unusedVariables false
set_option linter.unusedSimpArgs false
open Go.RowKit
theorem info_rthing : (Try.prog.info? 80).map (fun i => (i.zero, i.size, i.bytes)) = some (some (.agg #[.int .u64 0, .int .i64 0]), 2, 16) := by kernel_rfl
theorem info_rthings : (Try.prog.info? 78).map (fun i => (i.zero, i.size, i.bytes)) = some (some (.slice none 0 0), 1, 24) := by kernel_rfl
theorem info_rstep : (Try.prog.info? 76).map (fun i => (i.zero, i.size, i.bytes)) = some (some (.agg #[.bool false, .bool false, .int .i64 0, .int .i64 0]), 4, 24) := by kernel_rfl
theorem csr_one : ∀ x : Th, ∀ u ∈ x.csr, u.oneCell' = true := by
  intro x u hu
  simp only [Th.csr, List.mem_cons, List.not_mem_nil, or_false] at hu
  rcases hu with rfl | rfl <;> rfl
section
variable {base eb pb stb gb n E k : Nat} {pin : List Nat} {rs : List Rs} {hs : List Value} {G : List (List Th)} {w : World}
set_option maxHeartbeats 1000000 in
theorem rBegin_any (q : RE base eb pb stb gb n E pin rs hs G w) (hk : k < n) (a : Bool) :
    Calls Try.prog 23 #[.pointer (some ⟨eb, 0, none⟩), .int .i64 k, .bool a] w fun e w' => e = .returned (.bool true) ∧ RE base eb pb stb gb n E pin (rs.set k ⟨true, a, 0, 0⟩) hs G w' ∧ Upd (ReS eb pb stb) w w' := by
  obtain ⟨r, hr⟩ : ∃ r, rs[k]? = some r := ⟨_, List.getElem?_eq_getElem (by rw [q.lr]; exact hk)⟩
  obtain ⟨c0, c1, c2, c3⟩ := q.stc hr
  have f0 := q.sts.frozen (k * 4)
  have f1 := q.sts.frozen (k * 4 + 1)
  have f2 := q.sts.frozen (k * 4 + 2)
  have f3 := q.sts.frozen (k * 4 + 3)
  have e2 := q.obj.cell 2
  have hk0 : (0 : Int) ≤ k := by omega
  have hkn : (k : Int) < n := by omega
  have kl : k < rs.length := by rw [q.lr]; exact hk
  have g : ∀ z : Rs, (rs.set k z)[k]? = some z := fun z => List.getElem?_set_self kl
  obtain ⟨q1, u1⟩ := q.st hr 0 (by omega) (.bool true) ⟨true, r.adv, r.pos, r.seen⟩ rfl
  obtain ⟨q2, u2⟩ := q1.st (g _) 1 (by omega) (.bool a) ⟨true, a, r.pos, r.seen⟩ rfl
  rw [List.set_set] at q2
  obtain ⟨q3, u3⟩ := q2.st (g _) 2 (by omega) (.int .i64 (0 : Nat)) ⟨true, a, 0, r.seen⟩ rfl
  rw [List.set_set] at q3
  obtain ⟨q4, u4⟩ := q3.st (g _) 3 (by omega) (.int .i64 0) ⟨true, a, 0, 0⟩ rfl
  rw [List.set_set] at q4
  have u := ((u1.trans u2).trans u3).trans u4
  rw [Nat.add_zero] at q4 u
  clear q q1 q2 q3 u1 u2 u3 u4 g
  go_enter Try.func23, Try.ntmps23
  go_wp2_with fail
  go_ret
  exact ⟨rfl, q4, u⟩
theorem rUnpin_any (q : RE base eb pb stb gb n E pin rs hs G w) (hk : k < n) :
    Calls Try.prog 26 #[.pointer (some ⟨eb, 0, none⟩), .int .i64 k] w fun e w' => e = .returned (.tuple #[]) ∧ RE base eb pb stb gb n E (pin.set k 0) rs hs G w' ∧ Upd (ReS eb pb stb) w w' := by
  obtain ⟨x, hx⟩ : ∃ x, pin[k]? = some x := ⟨_, List.getElem?_eq_getElem (by rw [q.lp]; exact hk)⟩
  have c := q.pinc hx
  have f := q.pins.frozen k
  have e1 := q.obj.cell 1
  have hk0 : (0 : Int) ≤ k := by omega
  have hkn : (k : Int) < n := by omega
  obtain ⟨q1, u1⟩ := q.pn k 0
  clear q
  go_enter Try.func26, Try.ntmps26
  go_wp2_with fail
  go_end0
  exact ⟨rfl, q1, u1⟩
theorem rWaiting_any (q : RE base eb pb stb gb n E pin rs hs G w) (hk : k < n) (l : List Th) (hl : G[k]? = some l) :
    Calls Try.prog 29 #[.pointer (some ⟨eb, 0, none⟩), .int .i64 k] w fun e w' => e = .returned (.int .i64 l.length) ∧ w = w' := by
  obtain ⟨hv, l2, hhv, hl2, own⟩ := q.gv.at_ (i := k) (by rw [q.lg]; exact hk)
  obtain rfl : l2 = l := by rw [hl] at hl2; exact (Option.some.inj hl2).symm
  obtain ⟨A1, c1, rfl, hc1, hc2⟩ := own.form rfl
  have e3 := q.obj.cell 3
  have e5 := q.gv.blk.cell k
  rw [show hs.toArray[k]? = _ by simpa using hhv] at e5
  have hk0 : (0 : Int) ≤ k := by omega
  have hkn : (k : Int) < n := by omega
  generalize l2.length = m at *
  clear own q hl hl2 hhv
  go_enter Try.func29, Try.ntmps29
  go_wp2_with fail
  go_ret
  exact ⟨rfl, rfl⟩
set_option maxHeartbeats 1000000 in
theorem rGiven_any (q : RE base eb pb stb gb n E pin rs hs G w) (hk : k < n) (l : List Th) (hl : G[k]? = some l) (hll : l.length ≤ 100000) (hwr : ∀ x ∈ l, inr .u64 x.what) :
    Calls Try.prog 30 #[.pointer (some ⟨eb, 0, none⟩), .int .i64 k] w fun e w' => ∃ v, e = .returned v ∧ Own .u64 23 w' w.heap.size v (l.map Th.what) ∧ Below w.heap.size w w' := by
  obtain ⟨i0, hi, hz0, hz1, hz2⟩ := info_parts info_u64e
  obtain ⟨hv, l2, hhv, hl2, own⟩ := q.gv.at_ (i := k) (by rw [q.lg]; exact hk)
  obtain rfl : l2 = l := by rw [hl] at hl2; exact (Option.some.inj hl2).symm
  obtain ⟨A1, c1, rfl, hc1, hc2⟩ := own.form rfl
  have rd := own.rd csr_len rfl rfl
  have hk0 : (0 : Int) ≤ k := by omega
  have hkn : (k : Int) < n := by omega
  obtain ⟨m, hm⟩ : ∃ m, m = l2.length := ⟨_, rfl⟩
  have e3 := fun W (hW : Below w.heap.size w W) => (q.bel hW).obj.cell 3
  have e5 : ∀ W, Below w.heap.size w W → W.cell? ⟨gb, k, none⟩ = some (.slice A1 m c1) := fun W hW => by
    rw [(q.bel hW).gv.blk.cell, hm]; simpa using hhv
  rw [← hm] at hc1 rd hll
  replace hm := Lib.hid hm
  replace e3 := Lib.hid e3
  replace e5 := Lib.hid e5
  clear own q hl hl2 hhv
  go_enter Try.func30, Try.ntmps30
  go_wp2_with fail
  go_loopg [5, 6] m (fun gk s5 s6 wr => ∃ i : Nat, gk = m - i ∧ i ≤ m ∧ s6 = .int .i64 i ∧ Own .u64 23 wr w.heap.size s5 ((l2.take i).map Th.what) ∧ Below w.heap.size w wr)
  case atStart => exact ⟨0, rfl, Nat.zero_le _, rfl, Own.nil _ _ _ _, Below.refl _ _⟩
  case round =>
    obtain ⟨i, hgk, him, rfl, own, bel⟩ := hrel
    have e3r := e3.out wr bel
    have e5r := e5.out wr bel
    by_cases hlt : i < m
    · have hd : decide (i < m) = true := by simpa using hlt
      replace hgk := Lib.hid hgk
      obtain ⟨bb, o, rfl, hbb, hcl⟩ := rd.cel (by omega)
      obtain ⟨d, hdi⟩ : ∃ d, l2[i]? = some d := ⟨_, List.getElem?_eq_getElem (by have := hm.out; omega)⟩
      have y0 : wr.cell? ⟨bb, o + i * 2, none⟩ = some (.int .u64 d.what) := (bel.cell (p := ⟨bb, o + i * 2, none⟩) hbb).trans (hcl i d hdi 0 _ rfl)
      have hwd := hwr d (List.mem_of_getElem? hdi)
      have htk : (l2.take (i + 1)).map Th.what = (l2.take i).map Th.what ++ [d.what] := by rw [List.take_add_one, hdi]; simp
      have hlen : ((l2.take i).map Th.what).length = i := by rw [List.length_map, List.length_take, ← hm.out]; omega
      generalize (l2.take i).map Th.what = T at *
      obtain ⟨wt, wn⟩ := d
      simp only at y0 hwd htk
      replace htk := Lib.hid htk
      have bel2 : Below w.heap.size w (wr.alloc (.cells #[.int .u64 wt] 23)) := bel.alloc bel.size _
      have hx := Rd.new .u64 wr 23 [wt] (by intro y hy; simp at hy; subst hy; exact hwd) #[.int .u64 wt] rfl 1 rfl
      have own2 := own.alloc (.cells #[.int .u64 wt] 23)
      have hbz := bel2.size
      have hik : (0 : Int) ≤ i := by omega
      have him2 : (i : Int) < m := by omega
      have hl1 : T.length ≤ 100000 := by omega
      clear hdi hcl hlen
      go_wp2_with (at_builtin; go_loud (refine wpList_app _ rfl (.tmp 19) (.tmp 31) 37 rfl .u64 w.heap.size 23 i0 (.int .u64 0) 8 Try.underlying37 hi hz0 hz1 hz2 rfl _ (by rfl) T own2 _ _ 1 1 rfl [wt] hx (by omega) (by decide) hbz ?_; intro v1 w4 own4 hg4 hb4))
      have bel4 := bel2.grown hg4 hbz (fun g h => (own2.lt g h).1)
      rw [← htk.out] at own4
      clear own2 hx hg4 hb4 bel2 hbz own bel y0
      go_wp2_with fail
      go_roundg (m - (i + 1))
      case measure => have := hgk.out; omega
      case rel => exact ⟨i + 1, rfl, by omega, by go_num, own4, bel4⟩
    · obtain rfl : i = m := by omega
      rw [List.take_of_length_le (by rw [← hm.out]; exact Nat.le_refl _)] at own
      have hd : decide (i < i) = false := by simp
      clear hgk
      go_wp2_with fail
      go_ret
      exact ⟨_, rfl, own, bel⟩
/-- the worlds of a Give ahead of its last store -/
structure GvW (eb pb stb gb n E : Nat) (hs : List Value) (W : World) : Prop where
  obj : Blk W eb 59 #[.int .i64 E, .slice (some ⟨pb, 0, none⟩) n n, .slice (some ⟨stb, 0, none⟩) n n, .slice (some ⟨gb, 0, none⟩) n n]
  blk : Blk W gb 78 hs.toArray
set_option maxHeartbeats 1000000 in
theorem rGive_any (q : RE base eb pb stb gb n E pin rs hs G w) (hk : k < n) (what : Int) (l : List Th) (hl : G[k]? = some l) (hll : l.length ≤ 100000) (hb : base ≤ w.heap.size) :
    Calls Try.prog 27 #[.pointer (some ⟨eb, 0, none⟩), .int .i64 k, .int .u64 what] w fun e w' => ∃ hs', e = .returned (.tuple #[]) ∧ RE base eb pb stb gb n E pin rs hs' (G.set k (l ++ [⟨what, (E : Int)⟩])) w' ∧ Upd (GvS gb hs) w w' := by
  obtain ⟨i0, hi, hz0, hz1, hz2⟩ := info_parts info_rthing
  obtain ⟨hv, l2, hhv, hl2, own⟩ := q.gv.at_ (i := k) (by rw [q.lg]; exact hk)
  obtain rfl : l2 = l := by rw [hl] at hl2; exact (Option.some.inj hl2).symm
  have hk0 : (0 : Int) ≤ k := by omega
  have hkn : (k : Int) < n := by omega
  go_enter Try.func27, Try.ntmps27
  go_wp2_with fail
  have z0 : ∀ t : Tw (GvW eb pb stb gb n E hs), t.w.cell? ⟨eb, 0, none⟩ = some (.int .i64 (E : Int)) := fun t => t.h.obj.cell 0
  have z1 : ∀ t : Tw (GvW eb pb stb gb n E hs), t.w.cell? ⟨eb, 3, none⟩ = some (.slice (some ⟨gb, 0, none⟩) n n) := fun t => t.h.obj.cell 3
  have z2 : ∀ t : Tw (GvW eb pb stb gb n E hs), t.w.cell? ⟨gb, k, none⟩ = some hv := fun t => by
    rw [t.h.blk.cell]; simpa using hhv
  have : Nonempty (Tw (GvW eb pb stb gb n E hs)) := ⟨⟨w, q.obj, q.gv.blk⟩⟩
  refine wp_region_planL (GvW eb pb stb gb n E hs) [(0, true), (1, true), (2, true), (3, true), (4, true), (5, true), (6, true), (7, true), (8, true), (9, true), (10, true), (11, true), (12, true), (13, true), (14, true), (15, true), (16, true), (17, true), (18, false), (19, false), (20, true)] 21 (by kernel_rfl) (by kernel_rfl) (by kernel_rfl) (by kernel_rfl) (by kernel_rfl) (by kernel_rfl) ⟨q.drew.obj, q.drew.gv.blk⟩ ?_
  refine wpPl_qs 18 _ _ _ (by kernel_rfl) (by kernel_rfl) (by simp) ?_
  unfold clsS
  simp only [List.take_succ_cons, List.take_zero, List.drop_succ_cons, List.drop_zero, List.filterMap_cons, List.filterMap_nil, List.getElem?_toArray, List.getElem?_cons_zero, List.getElem?_cons_succ]
  repeat (first
    | go_big_quiet_skip
    | (go_big_quiet_want; go_big_quiet_op; go_big_quiet_on)
    | (refine id (?_ : wpQuiet _ _ _ _ (_ :: _) _); first | go_big_quiet_skip | (go_big_quiet_want; go_big_quiet_op; go_big_quiet_on)))
  refine wpQuiet_nil ?_
  have hx := RdT.new (cs := Th.csr) (sz := 2) csr_len w 80 [⟨what, (E : Int)⟩] #[.int .u64 what, .int .i64 (E : Int)] rfl 1 rfl
  have hx : RdT Th.csr 2 (w.alloc (.cells #[.int .u64 what, .int .i64 (E : Int)] 80)).drew (w.heap.size + 1) (some ⟨w.heap.size, 0, none⟩) 1 [⟨what, (E : Int)⟩] := hx.keep (fun p hp => rfl)
  have q2 : RE base eb pb stb gb n E pin rs hs G (w.alloc (.cells #[.int .u64 what, .int .i64 (E : Int)] 80)).drew := (q.bel (bel_alloc _ _)).drew
  have own2 : OwnT Th.csr 2 80 (w.alloc (.cells #[.int .u64 what, .int .i64 (E : Int)] 80)).drew base hv l2 := (own.alloc _).drew
  have hsz2 : base ≤ (w.alloc (.cells #[.int .u64 what, .int .i64 (E : Int)] 80)).drew.heap.size := by simp; omega
  have bel2 : Below w.heap.size w (w.alloc (.cells #[.int .u64 what, .int .i64 (E : Int)] 80)).drew := (bel_alloc _ _).drew
  refine wpPl_e _ (by rfl) (by kernel_rfl) (fun K hK => ?_)
  go_simp
  refine hK _ _ ⟨q2.obj, q2.gv.blk⟩ ?_
  clear hK K
  generalize (w.alloc (.cells #[.int .u64 what, .int .i64 (E : Int)] 80)).drew = W2 at *
  refine wpPl_e _ (by rfl) (by kernel_rfl) (fun K hK => ?_)
  refine wp_appT csr_len csr_one (by decide) _ (.tmp 17) (.tmp 24) 78 rfl base 80 i0 (.agg #[.int .u64 0, .int .i64 0]) 16 Try.underlying78 hi hz0 hz1 hz2 rfl hv rfl l2 own2 _ _ 1 1 rfl [⟨what, (E : Int)⟩] hx (by omega) (by decide) hsz2 ?_
  intro v1 w1 own1 hg1 hb1
  obtain ⟨A1, c1, rfl, _, _⟩ := own1.form rfl
  obtain ⟨m1, hm1⟩ : ∃ m1, m1 = (l2 ++ [Th.mk what (E : Int)]).length := ⟨_, rfl⟩
  rw [← hm1] at own1 hb1 ⊢
  replace hm1 := Lib.hid hm1
  go_simp
  have up1 : Upd (fun x => hv.ownBlock = some x) W2 w1 := Upd.of_grown hg1 (fun g h => h)
  have hty : ∀ x, hv.ownBlock = some x → ∃ cur, Blk W2 x 80 cur := fun x hx => own2.blk_ hx
  have nn : ∀ {x : Nat} {t : TypeId} {cs : Array Value}, Blk W2 x t cs → t ≠ 80 → ¬ hv.ownBlock = some x := fun hx ht h => by
    obtain ⟨cur, hc⟩ := hty _ h
    exact hx.ne_ hc ht rfl
  have ob1 := q2.obj.upd up1 (nn q2.obj (by decide))
  have pn1 := q2.pins.upd up1 (nn q2.pins (by decide))
  have st1 := q2.sts.upd up1 (nn q2.sts (by decide))
  have bk1 := q2.gv.blk.upd up1 (nn q2.gv.blk (by decide))
  refine hK _ _ ⟨ob1, bk1⟩ ?_
  clear hK K
  refine wpPl_qs 1 _ _ _ (by kernel_rfl) (by kernel_rfl) (by simp) ?_
  unfold clsS
  simp only [List.take_succ_cons, List.take_zero, List.drop_succ_cons, List.drop_zero, List.filterMap_cons, List.filterMap_nil, List.getElem?_toArray, List.getElem?_cons_zero, List.getElem?_cons_succ]
  repeat (first
    | go_big_quiet_skip
    | (go_big_quiet_want; go_big_quiet_op; go_big_quiet_on)
    | (refine id (?_ : wpQuiet _ _ _ _ (_ :: _) _); first | go_big_quiet_skip | (go_big_quiet_want; go_big_quiet_op; go_big_quiet_on)))
  refine wpQuiet_nil ?_
  unfold wpPl
  refine NoPanic.normal ?_
  obtain ⟨gv3, up3⟩ := q2.gv.put (by decide) hhv bk1 up1 own1 (hb1.imp id (fun h x hx => by rw [h] at hx; simp at hx; omega))
  have c5 := bk1.cell k
  have c6 := bk1.frozen k
  have hhv2 : hs.toArray[k]? = some hv := by simpa using hhv
  rw [hhv2] at c5
  refine lastQ_do _ (by rfl) (by kernel_rfl) (fun K hK => ?_)
  go_simp
  refine hK _ _ ?_
  clear hK K
  have ug := Upd.one w1 gb k (.slice A1 m1 c1)
  have q4 : RE base eb pb stb gb n E pin rs (hs.set k (.slice A1 m1 c1)) (G.set k (l2 ++ [⟨what, (E : Int)⟩])) (w1.setCell ⟨gb, k, none⟩ (.slice A1 m1 c1)) :=
    ⟨ob1.upd ug (ob1.ne_ bk1 (by decide)), pn1.upd ug (pn1.ne_ bk1 (by decide)), st1.upd ug (st1.ne_ bk1 (by decide)), gv3, q2.lp, q2.lr, by rw [List.length_set]; exact q2.lg⟩
  have up4 : Upd (GvS gb hs) w (w1.setCell ⟨gb, k, none⟩ (.slice A1 m1 c1)) := (Upd.of_below bel2 _).trans up3
  clear z0 z1 z2 this hx q2 own2 bel2 own1 hg1 hb1 up1 ob1 pn1 st1 bk1 c5 c6 up3 own gv3
  generalize w1.setCell ⟨gb, k, none⟩ (.slice A1 m1 c1) = W5 at *
  go_wp2_with fail
  go_end0
  exact ⟨_, rfl, q4, up4⟩
end
end Go.Proofs.Ytfcldnojmmhekaa
