/- Epochs: Give, Waiting. -/
import Derived.Test.YtfcldnojmmhekaaEpoch6
namespace Go.Proofs.Ytfcldnojmmhekaa
set_option linter.unusedVariables false
set_option linter.unusedSimpArgs false
open Go.RowKit
/-- epochs whole -/
structure EG (base b g h gr n : Nat) (L : List Int) (hs : List Value) (G : List (List Th)) (W : World) : Prop where
  ep : EpAt W b g h gr n L
  gv : GvAt W base gr hs G
  len : G.length = n
section
variable {base b g h gr n : Nat} {L : List Int} {hs : List Value} {G : List (List Th)} {W W' : World}
theorem EG.drew (k : EG base b g h gr n L hs G W) : EG base b g h gr n L hs G W.drew := ⟨k.ep.drew, k.gv.drew, k.len⟩
theorem EG.bel (k : EG base b g h gr n L hs G W) (hb : Below W.heap.size W W') : EG base b g h gr n L hs G W' := ⟨k.ep.bel hb, k.gv.bel hb, k.len⟩
theorem EG.notB (k : EG base b g h gr n L hs G W) : ¬ GvS gr hs b := k.gv.notS k.ep.obj (by decide) (by decide)
theorem EG.notG (k : EG base b g h gr n L hs G W) : ¬ GvS gr hs g := by
  obtain ⟨_, _, _, ho⟩ := k.ep.cel.obj
  exact k.gv.notS ho (by decide) (by decide)
theorem EG.notH (k : EG base b g h gr n L hs G W) : ¬ GvS gr hs h := k.gv.notS k.ep.cel.row (by decide) (by decide)
end
/-- the worlds of a Give ahead of its last store -/
def GiveW (b g h gr n : Nat) (L : List Int) (hs : List Value) (W : World) : Prop := EpAt W b g h gr n L ∧ Blk W gr 72 hs.toArray
set_option maxHeartbeats 1000000 in
theorem EpGive_any (base b g h gr n k : Nat) (what : Int) (L : List Int) (hs : List Value) (G : List (List Th)) (l : List Th) (w : World) (eg : EG base b g h gr n L hs G w) (hk : k < n) (hl : G[k]? = some l) (hll : l.length ≤ 100000) (hb : base ≤ w.heap.size) :
    Calls Try.prog 14 #[.pointer (some ⟨b, 0, none⟩), .int .i64 k, .int .u64 what] w fun e w' => ∃ hs', e = .returned (.int .i64 0) ∧ EG base b g h gr n L hs' (G.set k (l ++ [⟨what, celAt L 0⟩])) w' ∧ Upd (GvS gr hs) w w' := by
  obtain ⟨i0, hi, hz0, hz1, hz2⟩ := info_parts info_thing
  have n2 := eg.ep.n2
  have hL : L.length ≤ 65536 := by rw [eg.ep.len]; omega
  obtain ⟨hv, l2, hhv, hl2, own⟩ := eg.gv.at_ (i := k) (by rw [eg.len]; exact hk)
  obtain rfl : l2 = l := by rw [hl] at hl2; exact (Option.some.inj hl2).symm
  have e0 := eg.ep.obj.cell 0
  have hd1 : decide ((k : Int) < 0) = false := by simp
  have hk0 : (0 : Int) ≤ k := by omega
  have hkn : (k : Int) < n := by omega
  obtain ⟨c0, hc0⟩ : ∃ c0, c0 = celAt L 0 := ⟨_, rfl⟩
  rw [← hc0]
  replace hc0 := Lib.hid hc0
  have hz : w.heap.size = w.heap.size := rfl
  go_enter Try.func14, Try.ntmps14
  go_wp2_with fail
  refine (known_yes k b g h gr n L w eg.ep ⟨hk0, hkn⟩).mono ?_
  rintro e w1 ⟨rfl, rfl⟩
  go_wp2_with fail
  have z0 : ∀ t : Tw (GiveW b g h gr n L hs), t.w.cell? ⟨b, 0, none⟩ = some (.pointer (some ⟨g, 0, none⟩)) := fun t => t.h.1.obj.cell 0
  have z1 : ∀ t : Tw (GiveW b g h gr n L hs), t.w.cell? ⟨b, 1, none⟩ = some (.slice (some ⟨gr, 0, none⟩) n n) := fun t => t.h.1.obj.cell 1
  have z2 : ∀ t : Tw (GiveW b g h gr n L hs), t.w.cell? ⟨gr, k, none⟩ = some hv := fun t => by
    rw [t.h.2.cell]; simpa using hhv
  have : Nonempty (Tw (GiveW b g h gr n L hs)) := ⟨⟨w, eg.ep, eg.gv.blk⟩⟩
  refine wp_region_planL (GiveW b g h gr n L hs) [(0, true), (1, true), (2, true), (3, true), (4, true), (5, true), (6, true), (7, true), (8, true), (9, true), (10, true), (11, true), (12, true), (13, true), (14, true), (15, true), (16, true), (17, false), (18, true), (19, false), (20, false), (21, true)] 22 (by kernel_rfl) (by kernel_rfl) (by kernel_rfl) (by kernel_rfl) (by kernel_rfl) (by kernel_rfl) ⟨eg.ep.drew, eg.gv.blk.drew⟩ ?_
  refine wpPl_qs 17 _ _ _ (by kernel_rfl) (by kernel_rfl) (by simp) ?_
  unfold clsS
  simp only [List.take_succ_cons, List.take_zero, List.drop_succ_cons, List.drop_zero, List.filterMap_cons, List.filterMap_nil, List.getElem?_toArray, List.getElem?_cons_zero, List.getElem?_cons_succ]
  repeat (first
    | go_big_quiet_skip
    | (go_big_quiet_want; go_big_quiet_op; go_big_quiet_on)
    | (refine id (?_ : wpQuiet _ _ _ _ (_ :: _) _); first | go_big_quiet_skip | (go_big_quiet_want; go_big_quiet_op; go_big_quiet_on)))
  refine wpQuiet_nil ?_
  refine wpPl_e _ (by rfl) (by kernel_rfl) (fun K hK => ?_)
  go_simp
  refine (Load_any 0 g h L _ eg.ep.drew.cel hL).mono ?_
  rw [← hc0.out]
  rintro e w2 ⟨rfl, rfl⟩
  refine hK _ _ ⟨eg.ep.drew, eg.gv.blk.drew⟩ ?_
  clear hK K
  refine wpPl_qs 1 _ _ _ (by kernel_rfl) (by kernel_rfl) (by simp) ?_
  unfold clsS
  simp only [List.take_succ_cons, List.take_zero, List.drop_succ_cons, List.drop_zero, List.filterMap_cons, List.filterMap_nil, List.getElem?_toArray, List.getElem?_cons_zero, List.getElem?_cons_succ]
  repeat (first
    | go_big_quiet_skip
    | (go_big_quiet_want; go_big_quiet_op; go_big_quiet_on)
    | (refine id (?_ : wpQuiet _ _ _ _ (_ :: _) _); first | go_big_quiet_skip | (go_big_quiet_want; go_big_quiet_op; go_big_quiet_on)))
  refine wpQuiet_nil ?_
  have hx := RdT.new (cs := Th.cs) (sz := 2) Th.cs_len w 74 [⟨what, c0⟩] #[.int .u64 what, .int .u64 c0] rfl 1 rfl
  have hx : RdT Th.cs 2 (w.alloc (.cells #[.int .u64 what, .int .u64 c0] 74)).drew (w.heap.size + 1) (some ⟨w.heap.size, 0, none⟩) 1 [⟨what, c0⟩] := hx.keep (fun p hp => rfl)
  have eg2 : EG base b g h gr n L hs G (w.alloc (.cells #[.int .u64 what, .int .u64 c0] 74)).drew := (eg.bel (bel_alloc _ _)).drew
  have own2 : OwnT Th.cs 2 74 (w.alloc (.cells #[.int .u64 what, .int .u64 c0] 74)).drew base hv l2 := (own.alloc _).drew
  have hsz2 : base ≤ (w.alloc (.cells #[.int .u64 what, .int .u64 c0] 74)).drew.heap.size := by simp; omega
  have bel2 : Below w.heap.size w (w.alloc (.cells #[.int .u64 what, .int .u64 c0] 74)).drew := (bel_alloc _ _).drew
  refine wpPl_e _ (by rfl) (by kernel_rfl) (fun K hK => ?_)
  go_simp
  refine hK _ _ ⟨eg2.ep, eg2.gv.blk⟩ ?_
  clear hK K
  generalize (w.alloc (.cells #[.int .u64 what, .int .u64 c0] 74)).drew = W2 at *
  refine wpPl_e _ (by rfl) (by kernel_rfl) (fun K hK => ?_)
  refine wp_appT Th.cs_len Th.cs_one (by decide) _ (.tmp 22) (.tmp 30) 72 rfl base 74 i0 (.agg #[.int .u64 0, .int .u64 0]) 16 Try.underlying72 hi hz0 hz1 hz2 rfl hv rfl l2 own2 _ _ 1 1 rfl [⟨what, c0⟩] hx (by omega) (by decide) hsz2 ?_
  intro v1 w1 own1 hg1 hb1
  obtain ⟨A1, c1, rfl, _, _⟩ := own1.form rfl
  obtain ⟨m1, hm1⟩ : ∃ m1, m1 = (l2 ++ [Th.mk what c0]).length := ⟨_, rfl⟩
  rw [← hm1] at own1 hb1 ⊢
  replace hm1 := Lib.hid hm1
  go_simp
  have up1 : Upd (fun x => hv.ownBlock = some x) W2 w1 := Upd.of_grown hg1 (fun g h => h)
  have hnS : ∀ x, hv.ownBlock = some x → GvS gr hs x := fun x hx => .inr ⟨hv, List.mem_of_getElem? hhv, hx⟩
  have ep1 := eg2.ep.upd up1 (fun h => eg2.notB (hnS _ h)) (fun h => eg2.notG (hnS _ h)) (fun h => eg2.notH (hnS _ h))
  have hngr : ¬ hv.ownBlock = some gr := fun h => by
    obtain ⟨cur, hc⟩ := own2.blk_ h
    exact eg2.gv.blk.ne_ hc (by decide) rfl
  have bk1 := eg2.gv.blk.upd up1 hngr
  refine hK _ _ ⟨ep1, bk1⟩ ?_
  clear hK K
  refine wpPl_qs 1 _ _ _ (by kernel_rfl) (by kernel_rfl) (by simp) ?_
  unfold clsS
  simp only [List.take_succ_cons, List.take_zero, List.drop_succ_cons, List.drop_zero, List.filterMap_cons, List.filterMap_nil, List.getElem?_toArray, List.getElem?_cons_zero, List.getElem?_cons_succ]
  repeat (first
    | go_big_quiet_skip
    | (go_big_quiet_want; go_big_quiet_op; go_big_quiet_on)
    | (refine id (?_ : wpQuiet _ _ _ _ (_ :: _) _); first | go_big_quiet_skip | (go_big_quiet_want; go_big_quiet_op; go_big_quiet_on)))
  refine wpQuiet_nil ?_
  unfold wpPl
  refine NoPanic.normal ?_
  obtain ⟨gv3, up3⟩ := eg2.gv.put hhv bk1 up1 own1 (hb1.imp id (fun h x hx => by rw [h] at hx; simp at hx; omega))
  have c5 := bk1.cell k
  have c6 := bk1.frozen k
  have hhv2 : hs.toArray[k]? = some hv := by simpa using hhv
  rw [hhv2] at c5
  refine lastQ_do _ (by rfl) (by kernel_rfl) (fun K hK => ?_)
  go_simp
  refine hK _ _ ?_
  clear hK K
  have ep4 : EpAt (w1.setCell ⟨gr, k, none⟩ (.slice A1 m1 c1)) b g h gr n L := ep1.upd (Upd.one w1 gr k (.slice A1 m1 c1)) (fun e => eg2.notB (.inl e)) (fun e => eg2.notG (.inl e)) (fun e => eg2.notH (.inl e))
  have up4 : Upd (GvS gr hs) w (w1.setCell ⟨gr, k, none⟩ (.slice A1 m1 c1)) := (Upd.of_below bel2 _).trans up3
  have ln4 : (G.set k (l2 ++ [⟨what, c0⟩])).length = n := by rw [List.length_set]; exact eg.len
  clear z0 z1 z2 this hx eg2 own2 bel2 own1 hg1 hb1 up1 ep1 bk1 c5 c6 up3 e0 own
  generalize w1.setCell ⟨gr, k, none⟩ (.slice A1 m1 c1) = W5 at *
  go_wp2_with fail
  go_ret
  exact ⟨_, rfl, ⟨ep4, gv3, ln4⟩, up4⟩
end Go.Proofs.Ytfcldnojmmhekaa
