/- Epochs: Take. -/
import Derived.Test.YtfcldnojmmhekaaEpoch8
namespace Go.Proofs.Ytfcldnojmmhekaa
set_option linter.unusedVariables false
set_option linter.unusedSimpArgs false
open Go.RowKit
def Th.ripe (now : Int) (x : Th) : Bool := decide (x.when + 2 ≤ now)
def takes (now : Int) (l : List Th) : List Int := (l.filter (Th.ripe now)).map Th.what
def leaves (now : Int) (l : List Th) : List Th := l.filter (fun x => !x.ripe now)
theorem takes_snoc (now : Int) (l : List Th) (x : Th) : takes now (l ++ [x]) = if x.when + 2 ≤ now then takes now l ++ [x.what] else takes now l := by
  unfold takes
  rw [List.filter_append]
  by_cases h : x.when + 2 ≤ now <;> simp [List.filter_cons, Th.ripe, h]
theorem leaves_snoc (now : Int) (l : List Th) (x : Th) : leaves now (l ++ [x]) = if x.when + 2 ≤ now then leaves now l else leaves now l ++ [x] := by
  unfold leaves
  rw [List.filter_append]
  by_cases h : x.when + 2 ≤ now <;> simp [List.filter_cons, Th.ripe, h]
theorem takes_len (now : Int) (l : List Th) : (takes now l).length ≤ l.length := by unfold takes; rw [List.length_map]; exact List.length_filter_le _ _
theorem leaves_len (now : Int) (l : List Th) : (leaves now l).length ≤ l.length := by unfold leaves; exact List.length_filter_le _ _
theorem Own.blk_ {k : IntKind} {e : TypeId} {w : World} {base : Nat} {v : Value} {l : List Int} (h : Own k e w base v l) {x : Nat} (hx : v.ownBlock = some x) : ∃ cur, Blk w x e cur := by
  rcases h.row.2 with ⟨rfl, h1⟩ | ⟨g, cap, cur, rfl, hg, hh, _⟩
  · simp [Value.ownBlock] at hx
  · simp only [Value.ownBlock, Option.some.injEq] at hx
    subst hx
    exact ⟨cur, hh⟩
theorem Own.upd {k : IntKind} {e : TypeId} {w w' : World} {base : Nat} {v : Value} {l : List Int} {S : Nat → Prop} (h : Own k e w base v l) (hu : Upd S w w') (hS : ∀ g, v.ownBlock = some g → ¬ S g) : Own k e w' base v l := by
  refine ⟨⟨h.row.1, ?_⟩, h.rng⟩
  rcases h.row.2 with hn | ⟨g, cap, cur, rfl, hb, hgg, rest⟩
  · exact .inl hn
  · refine .inr ⟨g, cap, cur, rfl, hb, ?_, rest⟩
    rw [hu.block g (Array.getElem?_eq_some_iff.1 hgg).1 (hS g rfl)]
    exact hgg
set_option maxRecDepth 100000 in
set_option maxHeartbeats 1000000 in
theorem EpTake_any (base b g h gr n k : Nat) (L : List Int) (hs : List Value) (G : List (List Th)) (l : List Th) (w : World) (eg : EG base b g h gr n L hs G w) (hk : k < n) (hl : G[k]? = some l) (hll : l.length ≤ 100000) (hb : base ≤ w.heap.size)
    (hwr : ∀ x ∈ l, inr .u64 x.what) (hwn : ∀ x ∈ l, 0 ≤ x.when ∧ x.when ≤ 1000000) :
    Calls Try.prog 16 #[.pointer (some ⟨b, 0, none⟩), .int .i64 k] w fun e w' => ∃ v hs', e = .returned v ∧ Own .u64 23 w' w.heap.size v (takes (celAt L 0) l) ∧ EG base b g h gr n L hs' (G.set k (leaves (celAt L 0) l)) w' ∧ Upd (GvS gr hs) w w' := by
  obtain ⟨i0, hi, hz0, hz1, hz2⟩ := info_parts info_u64e
  obtain ⟨j0, hj, hy0, hy1, hy2⟩ := info_parts info_thing
  have n2 := eg.ep.n2
  have hL : L.length ≤ 65536 := by rw [eg.ep.len]; omega
  obtain ⟨hv, l2, hhv, hl2, own⟩ := eg.gv.at_ (i := k) (by rw [eg.len]; exact hk)
  obtain rfl : l2 = l := by rw [hl] at hl2; exact (Option.some.inj hl2).symm
  obtain ⟨A1, c1, rfl, hc1, hc2⟩ := own.form rfl
  have rd := own.rd Th.cs_len rfl rfl
  have e0 := eg.ep.obj.cell 0
  have e1 := eg.ep.obj.cell 1
  have e2 := eg.gv.blk.cell k
  rw [show hs.toArray[k]? = _ by simpa using hhv] at e2
  have hk0 : (0 : Int) ≤ k := by omega
  have hkn : (k : Int) < n := by omega
  obtain ⟨m, hm⟩ : ∃ m, m = l2.length := ⟨_, rfl⟩
  rw [← hm] at e2 hc1 rd hll hhv
  obtain ⟨c0, hc0⟩ : ∃ c0, c0 = celAt L 0 := ⟨_, rfl⟩
  rw [← hc0]
  replace hc0 := Lib.hid hc0
  replace hhv := Lib.hid hhv
  clear own hl hl2
  go_enter Try.func16, Try.ntmps16
  go_wp2_with fail
  refine (known_yes k b g h gr n L w eg.ep ⟨hk0, hkn⟩).mono ?_
  rintro e w1 ⟨rfl, rfl⟩
  replace hm := Lib.hid hm
  go_wp2_with fail
  refine (Load_any 0 g h L _ eg.ep.cel hL).mono ?_
  rw [← hc0.out]
  rintro e w2 ⟨rfl, rfl⟩
  go_wp2_with fail
  go_loopg [6, 7, 27] m (fun gk s6 s7 s27 wr => ∃ i : Nat, gk = m - i ∧ i ≤ m ∧ s27 = .int .i64 i ∧ Own .u64 23 wr w.heap.size s6 (takes c0 (l2.take i)) ∧ OwnT Th.cs 2 74 wr w.heap.size s7 (leaves c0 (l2.take i)) ∧ Below w.heap.size w wr)
  case atStart => exact ⟨0, rfl, Nat.zero_le _, rfl, Own.nil _ _ _ _, OwnT.nil _ _ _ _ _, Below.refl _ _⟩
  case round =>
    obtain ⟨i, hgk, him, rfl, own, ownT, bel⟩ := hrel
    by_cases hlt : i < m
    · have hd : decide (i < m) = true := by simpa using hlt
      replace hgk := Lib.hid hgk
      obtain ⟨bb, o, rfl, hbb, hcl⟩ := rd.cel (by omega)
      obtain ⟨d, hdi⟩ : ∃ d, l2[i]? = some d := ⟨_, List.getElem?_eq_getElem (by have := hm.out; omega)⟩
      have y0 : wr.cell? ⟨bb, o + i * 2, none⟩ = some (.int .u64 d.what) := (bel.cell (p := ⟨bb, o + i * 2, none⟩) hbb).trans (hcl i d hdi 0 _ rfl)
      have y1 : wr.cell? ⟨bb, o + i * 2 + 1, none⟩ = some (.int .u64 d.when) := (bel.cell (p := ⟨bb, o + i * 2 + 1, none⟩) hbb).trans (hcl i d hdi 1 _ rfl)
      have hwd := hwr d (List.mem_of_getElem? hdi)
      obtain ⟨hwn1, hwn2⟩ := hwn d (List.mem_of_getElem? hdi)
      have htk := takes_snoc c0 (l2.take i) d
      have hlv := leaves_snoc c0 (l2.take i) d
      rw [show l2.take i ++ [d] = l2.take (i + 1) by rw [List.take_add_one, hdi]; rfl] at htk hlv
      have hlen1 := takes_len c0 (l2.take i)
      have hlen2 := leaves_len c0 (l2.take i)
      have hlen : (l2.take i).length = i := by rw [List.length_take, ← hm.out]; omega
      rw [hlen] at hlen1 hlen2
      generalize takes c0 (l2.take i) = T at *
      generalize leaves c0 (l2.take i) = R at *
      obtain ⟨wt, wn⟩ := d
      simp only at y0 y1 hwd htk hwn1 hwn2 hlv
      replace htk := Lib.hid htk
      replace hlv := Lib.hid hlv
      clear hdi hcl e0 e1 e2 hlen
      have hxs : (wr.alloc (.cells #[.int .u64 wt, .int .u64 wn] 74)).heap.size = wr.heap.size + 1 := by simp
      by_cases hp : wn + 2 ≤ c0
      · have hpd : decide (wn + 2 ≤ c0) = true := by simpa using hp
        have hT := htk.out
        have hR := hlv.out
        rw [if_pos hp] at hT hR
        clear htk hlv hp
        replace hT := Lib.hid hT
        replace hR := Lib.hid hR
        have bel2 : Below w.heap.size w ((wr.alloc (.cells #[.int .u64 wt, .int .u64 wn] 74)).alloc (.cells #[.int .u64 wt] 23)) := (bel.alloc bel.size _).alloc (by simp; have := bel.size; omega) _
        have hx := Rd.new .u64 (wr.alloc (.cells #[.int .u64 wt, .int .u64 wn] 74)) 23 [wt] (by intro y hy; simp at hy; subst hy; exact hwd) #[.int .u64 wt] rfl 1 rfl
        rw [hxs] at hx
        have own2 := (own.alloc (.cells #[.int .u64 wt, .int .u64 wn] 74)).alloc (.cells #[.int .u64 wt] 23)
        have ownT2 := (ownT.alloc (.cells #[.int .u64 wt, .int .u64 wn] 74)).alloc (.cells #[.int .u64 wt] 23)
        have hbz := bel2.size
        clear hxs
        go_wp2_with (at_builtin; go_loud (refine wpList_app _ rfl (.tmp 36) (.tmp 39) 37 rfl .u64 w.heap.size 23 i0 (.int .u64 0) 8 Try.underlying37 hi hz0 hz1 hz2 rfl _ (by rfl) T own2 _ _ 1 1 rfl [wt] hx (by omega) (by decide) hbz ?_; intro v1 w4 own4 hg4 hb4))
        have bel4 := bel2.grown hg4 hbz (fun g h => (own2.lt g h).1)
        have ownT4 : OwnT Th.cs 2 74 w4 w.heap.size _ R := ownT2.upd (Upd.of_grown (S := fun x => _ = some x) hg4 (fun g h => h)) (fun x hx1 hx2 => by
          obtain ⟨_, q1⟩ := ownT2.blk_ hx1
          obtain ⟨_, q2⟩ := own2.blk_ hx2
          exact q1.ne_ q2 (by decide) rfl)
        rw [← hT.out] at own4
        rw [← hR.out] at ownT4
        clear own2 hx hg4 hb4 bel2 hbz own bel y0 y1 ownT2 ownT
        go_wp2_with fail
        go_roundg (m - (i + 1))
        case measure => have := hgk.out; omega
        case rel => exact ⟨i + 1, rfl, by omega, by go_num, own4, ownT4, bel4⟩
      · have hpd : decide (wn + 2 ≤ c0) = false := by simpa using hp
        have hT := htk.out
        have hR := hlv.out
        rw [if_neg hp] at hT hR
        clear htk hlv hp
        replace hT := Lib.hid hT
        replace hR := Lib.hid hR
        have bel2 : Below w.heap.size w ((wr.alloc (.cells #[.int .u64 wt, .int .u64 wn] 74)).alloc (.cells #[.int .u64 wt, .int .u64 wn] 74)) := (bel.alloc bel.size _).alloc (by simp; have := bel.size; omega) _
        have hx := RdT.new (cs := Th.cs) (sz := 2) Th.cs_len (wr.alloc (.cells #[.int .u64 wt, .int .u64 wn] 74)) 74 [⟨wt, wn⟩] #[.int .u64 wt, .int .u64 wn] rfl 1 rfl
        rw [hxs] at hx
        have own2 := (own.alloc (.cells #[.int .u64 wt, .int .u64 wn] 74)).alloc (.cells #[.int .u64 wt, .int .u64 wn] 74)
        have ownT2 := (ownT.alloc (.cells #[.int .u64 wt, .int .u64 wn] 74)).alloc (.cells #[.int .u64 wt, .int .u64 wn] 74)
        have hbz := bel2.size
        clear hxs
        go_wp2_with (at_builtin; go_loud (refine wpList_appT Th.cs_len Th.cs_one (by decide) _ rfl (.tmp 41) (.tmp 43) 72 rfl w.heap.size 74 j0 (.agg #[.int .u64 0, .int .u64 0]) 16 Try.underlying72 hj hy0 hy1 hy2 rfl _ (by rfl) R ownT2 _ _ 1 1 rfl [⟨wt, wn⟩] hx (by omega) (by decide) hbz ?_; intro v1 w4 ownT4 hg4 hb4))
        have bel4 := bel2.grown hg4 hbz (fun g h => (ownT2.lt g h).1)
        have own4 : Own .u64 23 w4 w.heap.size _ T := own2.upd (Upd.of_grown (S := fun x => _ = some x) hg4 (fun g h => h)) (fun x hx1 hx2 => by
          obtain ⟨_, q1⟩ := own2.blk_ hx1
          obtain ⟨_, q2⟩ := ownT2.blk_ hx2
          exact q1.ne_ q2 (by decide) rfl)
        rw [← hT.out] at own4
        rw [← hR.out] at ownT4
        clear own2 hx hg4 hb4 bel2 hbz own bel y0 y1 ownT2 ownT
        go_wp2_with fail
        go_roundg (m - (i + 1))
        case measure => have := hgk.out; omega
        case rel => exact ⟨i + 1, rfl, by omega, by go_num, own4, ownT4, bel4⟩
    · obtain rfl : i = m := by omega
      rw [List.take_of_length_le (by rw [← hm.out]; exact Nat.le_refl _)] at own ownT
      obtain ⟨A2, c2, rfl, _, _⟩ := own.form rfl
      obtain ⟨A3, c3, rfl, _, _⟩ := ownT.form rfl
      have bk := eg.gv.blk.bel bel
      have ownB : OwnT Th.cs 2 74 wr base (.slice A3 (leaves c0 l2).length c3) (leaves c0 l2) := ⟨⟨ownT.row.1, ownT.row.2.imp id (fun ⟨g, cap, cur, q1, q2, q3⟩ => ⟨g, cap, cur, q1, Nat.le_trans hb q2, q3⟩)⟩⟩
      obtain ⟨gv3, up3⟩ := eg.gv.put hhv.out bk (Upd.of_below bel _) ownB (.inr fun x hx => (ownT.lt x hx).1)
      have ep2 := eg.ep.bel bel
      have q1 := ep2.obj.cell 1
      have q2 := bk.cell k
      have q3 := bk.frozen k
      rw [show hs.toArray[k]? = _ by simpa using hhv.out] at q2
      have ep3 : EpAt (wr.setCell ⟨gr, k, none⟩ (.slice A3 (leaves c0 l2).length c3)) b g h gr n L := ep2.upd (Upd.one wr gr k _) (fun e => eg.notB (.inl e)) (fun e => eg.notG (.inl e)) (fun e => eg.notH (.inl e))
      have own3 := own.upd (Upd.one wr gr k (.slice A3 (leaves c0 l2).length c3)) (fun x hx he => by
        obtain ⟨_, q⟩ := own.blk_ hx
        exact q.ne_ bk (by decide) he)
      have ln : (G.set k (leaves c0 l2)).length = n := by rw [List.length_set]; exact eg.len
      clear ownB ownT ep2 bk e0 e1 e2 own hc0 eg
      generalize (leaves c0 l2).length = m3 at *
      generalize hm4 : (takes c0 l2).length = m4 at *
      replace hm4 := Lib.hid hm4
      go_wp2
      go_ret
      exact ⟨_, _, rfl, own3, ⟨ep3, gv3, ln⟩, up3⟩
end Go.Proofs.Ytfcldnojmmhekaa
