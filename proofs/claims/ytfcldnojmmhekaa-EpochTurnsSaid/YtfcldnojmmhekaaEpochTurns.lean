/- Every input of EpochTurns answers true, and reads behind the call as it read before. No condition. -/
import Derived.Test.YtfcldnojmmhekaaEpTurnsH
namespace Go.Proofs.Ytfcldnojmmhekaa
set_option linter.unusedVariables false
set_option linter.unusedSimpArgs false
open Go.RowKit
attribute [local irreducible] Es.does
theorem list_of7 {α : Type} {P : Nat → α → Prop} : ∀ n : Nat, (∀ i, i < n → ∃ x, P i x) → ∃ l : List α, l.length = n ∧ ∀ i x, l[i]? = some x → P i x
  | 0, _ => ⟨[], rfl, by simp⟩
  | n + 1, h => by
      obtain ⟨l, hl, hP⟩ := list_of7 n (fun i hi => h i (by omega))
      obtain ⟨x, hx⟩ := h n (by omega)
      refine ⟨l ++ [x], by simp [hl], fun i y hy => ?_⟩
      rcases Nat.lt_or_ge i n with hi | hi
      · rw [List.getElem?_append_left (by omega)] at hy; exact hP i y hy
      · rw [List.getElem?_append_right (by omega)] at hy
        cases hj : i - l.length with
        | zero => rw [hj] at hy; simp at hy; subst hy; rw [show i = n by omega]; exact hx
        | succ j => rw [hj] at hy; simp at hy
structure EAct where
  what : Int
  who : Int
def EAct.cs (x : EAct) : List Value := [.int .i64 x.what, .int .i64 x.who]
theorem info_bools : (Try.prog.info? 48).map (fun i => (i.zero, i.size, i.bytes)) = some (some (.slice none 0 0), 1, 24) := by kernel_rfl
theorem info_bool : (Try.prog.info? 4).map (fun i => (i.zero, i.size, i.bytes)) = some (some (.bool false), 1, 1) := by kernel_rfl
theorem RE.low {base base' eb pb stb gb n E : Nat} {pin : List Nat} {rs : List Rs} {hs : List Value} {G : List (List Th)} {w : World} (q : RE base eb pb stb gb n E pin rs hs G w) (hb : base' ≤ base) : RE base' eb pb stb gb n E pin rs hs G w :=
  ⟨q.obj, q.pins, q.sts, ⟨q.gv.blk, q.gv.len, fun k v l hv hl => by
    have ho := q.gv.own k v l hv hl
    exact ⟨⟨ho.row.1, ho.row.2.imp id (fun ⟨g, cap, cur, q1, q2, q3⟩ => ⟨g, cap, cur, q1, Nat.le_trans hb q2, q3⟩)⟩⟩, q.gv.far⟩, q.lp, q.lr, q.lg⟩
theorem GvAt.low {w : World} {base base' gr : Nat} {hs : List Value} {G : List (List Th)} (k : GvAt w base gr hs G) (hb : base' ≤ base) : GvAt w base' gr hs G :=
  ⟨k.blk, k.len, fun i v l hv hl => by
    have ho := k.own i v l hv hl
    exact ⟨⟨ho.row.1, ho.row.2.imp id (fun ⟨g, cap, cur, q1, q2, q3⟩ => ⟨g, cap, cur, q1, Nat.le_trans hb q2, q3⟩)⟩⟩, k.far⟩
theorem bcs_one : ∀ x : Bool, ∀ u ∈ bcs x, u.oneCell' = true := by
  intro x u hu
  simp only [bcs, List.mem_cons, List.not_mem_nil, or_false] at hu
  subst hu; rfl
theorem ownT_low {α : Type} {cs : α → List Value} {sz : Nat} {e : TypeId} {w : World} {base base' : Nat} {v : Value} {l : List α} (h : OwnT cs sz e w base v l) (hb : base' ≤ base) : OwnT cs sz e w base' v l :=
  ⟨⟨h.row.1, h.row.2.imp id (fun ⟨g, cap, cur, q1, q2, q3⟩ => ⟨g, cap, cur, q1, Nat.le_trans hb q2, q3⟩)⟩⟩
theorem ownT_new0 {α : Type} (cs : α → List Value) (sz : Nat) (e : TypeId) (w : World) (base : Nat) (hb : base ≤ w.heap.size) : OwnT cs sz e (w.alloc (.cells #[] e)) base (.slice (some ⟨w.heap.size, 0, none⟩) 0 0) [] :=
  ⟨⟨by simp, .inr ⟨w.heap.size, 0, _, rfl, hb, heap_alloc_new w _, Nat.le_refl _, by simp [maxLen], by simp, by simp⟩⟩⟩
theorem rd_pd {w : World} {db n : Nat} {pd : List Bool} (h : Blk w db 4 (pd.map Value.bool).toArray) (hn : pd.length = n) : RdT bcs 1 w w.heap.size (some ⟨db, 0, none⟩) n pd := by
  refine ⟨hn, fun _ => ⟨db, 0, rfl, h.lt, fun j x hj f u hu => ?_⟩⟩
  have hf : f = 0 := by have := (List.getElem?_eq_some_iff.1 hu).1; simp [bcs] at this; exact this
  subst hf
  simp only [bcs, List.getElem?_cons_zero, Option.some.injEq] at hu
  subst hu
  rw [Nat.zero_add, Nat.mul_one, Nat.add_zero, h.cell]
  simp [hj]
theorem mm_new {w W : World} {b g h gr n eb pb stb gb : Nat} {hs dhs : List Value} {G : List (List Th)} {rs : List Rs} {E : Nat} {pin : List Nat} (el : EL w b g h gr n (cellsL E pin) hs G W) (re : RE w.heap.size eb pb stb gb n E pin rs dhs G W) (lo : w.heap.size ≤ eb ∧ w.heap.size ≤ pb ∧ w.heap.size ≤ stb ∧ w.heap.size ≤ gb) :
    MM w b g h gr n W.heap.size eb pb stb gb (W.heap.size + 1) (W.heap.size + 1 + 1) E pin G hs (List.replicate n none) E pin rs G dhs (List.replicate 200 (.slice none 0 0)) (List.replicate 200 []) (List.replicate n false)
      (((W.alloc (.cells (Array.replicate n (.pointer none)) 30)).alloc (.cells (Array.replicate 200 (.slice none 0 0)) 48)).alloc (.cells (Array.replicate n (.bool false)) 4)) := by
  have hsz := el.bel.size
  have a1 := bel_alloc W (.cells (Array.replicate n (.pointer none)) 30)
  have a2 := a1.alloc (by simp) (.cells (Array.replicate 200 (.slice none 0 0)) 48)
  have a3 := a2.alloc (by simp; omega) (.cells (Array.replicate n (.bool false)) 4)
  have s1 := SL.new W w.heap.size n
  have k2 := (Blk.new (W.alloc (.cells (Array.replicate n (.pointer none)) 30)) 48 (Array.replicate 200 (.slice none 0 0))).alloc (.cells (Array.replicate n (.bool false)) 4)
  have k3 := Blk.new ((W.alloc (.cells (Array.replicate n (.pointer none)) 30)).alloc (.cells (Array.replicate 200 (.slice none 0 0)) 48)) 4 (Array.replicate n (.bool false))
  simp only [World.size_alloc] at k2 k3
  refine ⟨el.bel' a3, (s1.bel (bel_alloc _ _)).bel (bel_alloc _ _), re.bel a3, ⟨by rw [List.toArray_replicate]; exact k2, by simp only [List.length_replicate], fun k v l hv hl => ?_, fun i j v u _ hv _ => ?_⟩, by rw [List.map_replicate, List.toArray_replicate]; exact k3, fun v hv => ?_, ⟨hsz, lo.1, lo.2.1, lo.2.2.1, lo.2.2.2, by omega, by omega⟩⟩
  · obtain rfl := (List.mem_replicate.1 (List.mem_of_getElem? hv)).2
    obtain rfl := (List.mem_replicate.1 (List.mem_of_getElem? hl)).2
    exact OwnT.nil _ _ _ _ _
  · obtain rfl := (List.mem_replicate.1 (List.mem_of_getElem? hv)).2
    intro x hx
    simp [Value.ownBlock] at hx
  · obtain rfl := (List.mem_replicate.1 hv).2
    simp [Value.ownBlock]
set_option maxRecDepth 100000 in
set_option maxHeartbeats 1000000 in
theorem EpochTurns_no (n : Int) (A : Option Addr) (m cap : Nat) (w : World) (h : n < 1 ∨ 64 < n) :
    Calls Try.prog 7 #[.int .i64 n, .slice A m cap] w fun e w' => e = .returned (.bool true) ∧ Below w.heap.size w w' := by
  go_enter Try.func7, Try.ntmps7
  go_wp2_with (first
    | (go_at_call 21; refine (enone_any _).mono ?_; rintro e w' ⟨rfl, rfl⟩)
    | (go_at_call 9; refine (moves_any _).mono ?_; rintro e w1 ⟨rfl, b1⟩)
    | (go_at_call 19; refine (EpUnpin_nil _ _).mono ?_; rintro e w' ⟨rfl, rfl⟩)
    | (go_at_call 13; refine (EpNow_nil _).mono ?_; rintro e w' ⟨rfl, rfl⟩)
    | (go_at_call 18; refine (EpPinned_nil _ _).mono ?_; rintro e w' ⟨rfl, rfl⟩)
    | (go_at_call 14; refine (EpGive_nil _ _ _).mono ?_; rintro e w' ⟨rfl, rfl⟩)
    | (go_at_call 16; refine (EpTake_nil _ _).mono ?_; rintro e w' ⟨rfl, rfl⟩)
    | (go_at_call 15; refine (EpWaiting_nil _ _).mono ?_; rintro e w' ⟨rfl, rfl⟩)
    | (go_at_call 20; refine (EpGiven_nil _ _).mono ?_; rintro e w' ⟨rfl, rfl⟩)
    | (go_at_call 11; refine (EpDo_nil _).mono ?_; rintro e w' ⟨rfl, rfl⟩)
    | (go_at_call 12; refine (EpWon_nil _).mono ?_; rintro e w' ⟨rfl, rfl⟩))
  refine (EpNew_no n _ h).mono ?_
  rintro e w' ⟨rfl, rfl⟩
  rcases h with h | h
  · have hd : decide (n < 1) = true := by simpa using h
    go_wp2
    go_ret
    exact ⟨rfl, b1⟩
  · have hd : decide (n < 1) = false := by simp; omega
    have hd2 : decide (64 < n) = true := by simpa using h
    go_wp2
    go_ret
    exact ⟨rfl, b1⟩
set_option maxRecDepth 100000 in
set_option maxHeartbeats 16000000 in
theorem EpochTurns_yes (n : Nat) (A : Option Addr) (m cap : Nat) (l : List EAct) (w : World) (rd : RdT EAct.cs 2 w w.heap.size A m l) (hn1 : 1 ≤ n) (hn2 : n ≤ 64) (hmx : m ≤ 9223372036854775807) :
    Calls Try.prog 7 #[.int .i64 n, .slice A m cap] w fun e w' => e = .returned (.bool true) ∧ Below w.heap.size w w' := by
  obtain ⟨i1, hi1, hu0, hu1, hu2⟩ := info_parts info_pstep
  obtain ⟨i2, hi2, hv0, hv1, hv2⟩ := info_parts info_bools
  obtain ⟨i3, hi3, hw0, hw1, hw2⟩ := info_parts info_bool
  have m1 := fun W => make_one (P := Try.prog) 29 30 i1 _ Try.underlying29 hi1 hu0 hu1 rfl .i64 .i64 n (by rw [hu2]; omega) (by omega) W
  have m2 : ∀ W : World, (Instr.makeSlice 47 (.int .i64 200) (.int .i64 200)).run Try.prog W = .ok (.slice (some ⟨W.heap.size, 0, none⟩) 200 200) (W.alloc (.cells (Array.replicate 200 (.slice none 0 0)) 48)) := fun W => make_one (P := Try.prog) 47 48 i2 _ Try.underlying47 hi2 hv0 hv1 rfl .i64 .i64 200 (by rw [hv2]; omega) (by omega) W
  have m3 := fun W => make_one (P := Try.prog) 48 4 i3 _ Try.underlying48 hi3 hw0 hw1 rfl .i64 .i64 n (by rw [hw2]; omega) (by omega) W
  have hc1 : decide ((n : Int) < 1) = false := by simp; omega
  have hc2 : decide (64 < (n : Int)) = false := by simp; omega
  go_enter Try.func7, Try.ntmps7
  go_wp2_with (first
    | (go_at_call 21; refine (enone_any _).mono ?_; rintro e w' ⟨rfl, rfl⟩)
    | (go_at_call 9; refine (moves_any _).mono ?_; rintro e w1 ⟨rfl, b1⟩)
    | (go_at_call 19; refine (EpUnpin_nil _ _).mono ?_; rintro e w' ⟨rfl, rfl⟩)
    | (go_at_call 13; refine (EpNow_nil _).mono ?_; rintro e w' ⟨rfl, rfl⟩)
    | (go_at_call 18; refine (EpPinned_nil _ _).mono ?_; rintro e w' ⟨rfl, rfl⟩)
    | (go_at_call 14; refine (EpGive_nil _ _ _).mono ?_; rintro e w' ⟨rfl, rfl⟩)
    | (go_at_call 16; refine (EpTake_nil _ _).mono ?_; rintro e w' ⟨rfl, rfl⟩)
    | (go_at_call 15; refine (EpWaiting_nil _ _).mono ?_; rintro e w' ⟨rfl, rfl⟩)
    | (go_at_call 20; refine (EpGiven_nil _ _).mono ?_; rintro e w' ⟨rfl, rfl⟩)
    | (go_at_call 11; refine (EpDo_nil _).mono ?_; rintro e w' ⟨rfl, rfl⟩)
    | (go_at_call 12; refine (EpWon_nil _).mono ?_; rintro e w' ⟨rfl, rfl⟩))
  refine (EpNew_yes n _ hn1 hn2).mono ?_
  rintro e w2 ⟨b, g, h, gr, rfl, bel, hb, hh, hgr, ep, gv⟩
  rw [cells_new] at ep
  have el1 : EL w b g h gr n (cellsL 0 (List.replicate n 0)) (List.replicate n (.slice none 0 0)) (List.replicate n []) w2 := ⟨⟨ep, gv.low b1.size, List.length_replicate⟩, by have := b1.size; omega, by have := b1.size; omega, bel_after b1 bel⟩
  clear ep gv bel hb hh hgr b1
  generalize List.replicate n (Value.slice none 0 0) = hs at *
  have pp0 := PP.new n
  go_wp2_with fail
  refine (rNew_any n _ hn2).mono ?_
  rintro e w3 ⟨eb, pb, stb, gb, rfl, bel3, h1, h2, h3, h4, re⟩
  have hsz := el1.bel.size
  have mm := mm_new (el1.bel' bel3) (re.low hsz) ⟨by omega, by omega, by omega, by omega⟩
  clear el1 bel3 re h1 h2 h3 h4 hsz
  generalize List.replicate 200 (Value.slice none 0 0) = shs at *
  generalize List.replicate 200 ([] : List Bool) = sn at *
  obtain ⟨X2, hX2⟩ : ∃ X, X = Array.replicate 200 (Value.slice none 0 0) := ⟨_, rfl⟩
  rw [← hX2] at m2 mm
  clear hX2
  go_upto_block 0 with fail
  generalize ((w3.alloc (.cells (Array.replicate n (.pointer none)) 30)).alloc (.cells X2 48)).alloc (.cells (Array.replicate n (.bool false)) 4) = W0 at *
  generalize w3.heap.size + 1 + 1 = db at *
  generalize w3.heap.size + 1 = sb at *
  generalize w3.heap.size = lb at *
  clear m1 m2 m3
  go_wp2_with fail
  refine wp_loop_ghost_k (fun gk a' wr => ∃ v : Nat → Value, a' = ⟨(frm v).toArray, []⟩ ∧ ∃ i : Nat, gk = m - i ∧ i ≤ m ∧ Com n A m cap b eb lb sb db i v ∧ ∃ (E : Nat) (pin : List Nat) (G : List (List Th)) (hs : List Value) (ps : List (Option (Nat × Es))) (rs : List Rs) (dhs shs : List Value) (sn : List (List Bool)) (pd : List Bool), PP n E i pin ps rs pd sn G ∧ MM w b g h gr n lb eb pb stb gb sb db E pin G hs ps E pin rs G dhs shs sn pd wr) m ?_ ?_
  · refine frm_meet (by kernel_rfl) ?_
    exact ⟨0, rfl, Nat.zero_le _, ⟨rfl, rfl, rfl, rfl, rfl, rfl, rfl, rfl, rfl⟩, _, _, _, _, _, _, _, _, _, _, pp0, mm⟩
  · clear mm pp0
    intro gk a' wr hrel _ _ _ _
    obtain ⟨v, rfl, i, hgk, him, cm, E, pin, G, hs, ps, rs, dhs, shs, sn, pd, pp, mm⟩ := hrel
    by_cases hlt : i < m ∧ i < 150
    · obtain ⟨hlt, hlt150⟩ := hlt
      obtain ⟨ab, ao, rfl, hab, hcl⟩ := rd.cel (by omega)
      obtain ⟨⟨x0, x1⟩, hx⟩ : ∃ x, l[i]? = some x := ⟨_, List.getElem?_eq_getElem (by rw [rd.len]; exact hlt)⟩
      have c0 := mm.el.bel.cell (p := ⟨ab, ao + i * 2, none⟩) hab |>.trans (hcl i _ hx 0 _ rfl)
      have c1 := mm.el.bel.cell (p := ⟨ab, ao + i * 2 + 1, none⟩) hab |>.trans (hcl i _ hx 1 _ rfl)
      simp only at c0 c1
      have hdm : decide (i < m) = true := by simpa using hlt
      have hdm2 : decide ((i : Int) < 150) = true := by simp; omega
      replace mm := mm.bel' (bel_alloc wr (.cells #[.int .i64 x0, .int .i64 x1] 50))
      have hbe := mm.el.bel.size
      have hnu : IntKind.u64.wrap (n : Int) = n := by rw [IntKind.wrap_u64]; omega
      obtain ⟨k, hk, hkn⟩ := modn x1 n (by omega)
      obtain ⟨q, hq, hq6⟩ := modn x0 6 (by omega)
      have hkn2 : k < n := by omega
      have hk0 : (0 : Int) ≤ k := by omega
      replace hgk := Lib.hid hgk
      clear hx
      have hfr := frm_lit v
      rw [cm.v1, cm.v7, cm.v8, cm.v9, cm.v10, cm.v11, cm.v12, cm.v13, cm.v14] at hfr
      rw [hfr]
      clear hfr cm
      go_upto_block 2 with fail
      clear c0 c1 hcl hk hq hbe
      generalize wr.alloc (.cells #[.int .i64 x0, .int .i64 x1] 50) = W1 at *
      generalize wr.heap.size = bx at *
      refine wp_cut (fun a' wx => ∃ v : Nat → Value, a' = ⟨(frm v).toArray, []⟩ ∧ Com n (some ⟨ab, ao, none⟩) m cap b eb lb sb db i v ∧ v 16 = .int .i64 k ∧ ∃ (E : Nat) (pin : List Nat) (G : List (List Th)) (hs : List Value) (ps : List (Option (Nat × Es))) (rs : List Rs) (dhs shs : List Value) (sn : List (List Bool)) (pd : List Bool), PP n E (i + 1) pin ps rs pd sn G ∧ MM w b g h gr n lb eb pb stb gb sb db E pin G hs ps E pin rs G dhs shs sn pd wx) ?_ ?_
      rotate_left
      · intro _ _ _ _
        obtain ⟨p0, hpk⟩ : ∃ p0, ps[k]? = some p0 := ⟨_, List.getElem?_eq_getElem (by have := pp.tv.ls; rw [List.length_map] at this; omega)⟩
        obtain ⟨o, hok⟩ : ∃ o, pd[k]? = some o := ⟨_, List.getElem?_eq_getElem (by rw [pp.tv.lb]; exact hkn2)⟩
        obtain ⟨pc, pf⟩ := mm.sl.cell hpk
        have h5 : q = 0 ∨ q = 1 ∨ (q = 2 ∨ q = 3) ∨ q = 4 ∨ q = 5 := by omega
        rcases h5 with rfl | rfl | hq23 | rfl | rfl
        · cases p0 with
          | none =>
            replace pc : W1.cell? ⟨lb, k, none⟩ = some (.pointer none) := pc
            go_wp2_with fail
            refine (rBegin_any mm.re hkn2 false).mono ?_
            rintro e u1 ⟨rfl, re1, up1⟩
            have mm1 := mm.rdo re1 up1
            clear mm re1 up1
            go_wp2_with fail
            refine (EpPin_any k b g h gr n _ u1 mm1.el.eg.ep ⟨hk0, by omega⟩).mono ?_
            rintro e u2 ⟨nb, rfl, hnb, st2, bel2⟩
            have mm2 := mm1.bel' bel2
            obtain ⟨sl3, up3⟩ := mm1.sl.fresh bel2 k hnb st2 mm1.el.bel.size
            have mm3 := mm2.slot sl3 up3
            obtain ⟨s0, s1⟩ := mm2.sl.cell hpk
            replace s0 : u2.cell? ⟨lb, k, none⟩ = some (.pointer none) := s0
            have ppb := pp.begP hkn2 nb
            clear mm1 mm2 sl3 up3 st2 bel2 hnb hpk pc pf
            go_upto_region 22 with fail
            generalize u2.setCell ⟨lb, k, none⟩ (.pointer (some ⟨nb, 0, none⟩)) = u3 at *
            clear s0 s1
            have mm4 := mm3.setpd k false
            have d0 := mm3.pdc hok
            have df := mm3.bd.frozen k
            go_wp2_with fail
            generalize World.setCell u3 ⟨db, k, none⟩ (.bool false) = u4 at *
            clear d0 df
            refine (unpinned_any w.heap.size sb n k 200 200 shs sn u4 mm4.sv pp.sl (by omega) pp.sr hkn2).mono ?_
            rintro e u5 ⟨rfl, sv5, up5⟩
            have mm5 := mm4.clr sv5 up5
            have pp5 := (ppb).next
            clear mm4 sv5 up5 pp
            go_wp2_with fail
            refine Met.intro ?_
            go_step
            refine frm_meet (by kernel_rfl) ?_
            exact ⟨⟨rfl, rfl, rfl, rfl, rfl, rfl, rfl, rfl, rfl⟩, rfl, _, _, _, _, _, _, _, _, _, _, pp5, mm5⟩
          | some p =>
            obtain ⟨x, s⟩ := p
            replace pc : W1.cell? ⟨lb, k, none⟩ = some (.pointer (some ⟨x, 0, none⟩)) := pc
            have pp5 := pp.next
            clear pp hpk
            go_wp2_with fail
            refine Met.intro ?_
            go_step
            refine frm_meet (by kernel_rfl) ?_
            exact ⟨⟨rfl, rfl, rfl, rfl, rfl, rfl, rfl, rfl, rfl⟩, rfl, _, _, _, _, _, _, _, _, _, _, pp5, mm⟩
        · cases p0 with
          | none =>
            replace pc : W1.cell? ⟨lb, k, none⟩ = some (.pointer none) := pc
            go_wp2_with fail
            refine (rBegin_any mm.re hkn2 true).mono ?_
            rintro e u1 ⟨rfl, re1, up1⟩
            have mm1 := mm.rdo re1 up1
            clear mm re1 up1
            go_wp2_with fail
            refine (EpAdvance_any b u1).mono ?_
            rintro e u2 ⟨nb, rfl, hnb, st2, bel2⟩
            have mm2 := mm1.bel' bel2
            obtain ⟨sl3, up3⟩ := mm1.sl.fresh bel2 k hnb st2 mm1.el.bel.size
            have mm3 := mm2.slot sl3 up3
            obtain ⟨s0, s1⟩ := mm2.sl.cell hpk
            replace s0 : u2.cell? ⟨lb, k, none⟩ = some (.pointer none) := s0
            have pp5 := (pp.begA hkn2 nb).next
            clear mm1 mm2 sl3 up3 st2 bel2 hnb hpk pc pf pp
            go_wp2_with fail
            refine Met.intro ?_
            go_step
            refine frm_meet (by kernel_rfl) ?_
            exact ⟨⟨rfl, rfl, rfl, rfl, rfl, rfl, rfl, rfl, rfl⟩, rfl, _, _, _, _, _, _, _, _, _, _, pp5, mm3⟩
          | some p =>
            obtain ⟨x, s⟩ := p
            replace pc : W1.cell? ⟨lb, k, none⟩ = some (.pointer (some ⟨x, 0, none⟩)) := pc
            have pp5 := pp.next
            clear pp hpk
            go_wp2_with fail
            refine Met.intro ?_
            go_step
            refine frm_meet (by kernel_rfl) ?_
            exact ⟨⟨rfl, rfl, rfl, rfl, rfl, rfl, rfl, rfl, rfl⟩, rfl, _, _, _, _, _, _, _, _, _, _, pp5, mm⟩
        · have hq0 : ((q : Int) == 0) = false := by simp; omega
          have hq1 : ((q : Int) == 1) = false := by simp; omega
          go_upto_if 171 with fail
          refine wp_cut (fun a' wx => ∃ v : Nat → Value, a' = ⟨(frm v).toArray, []⟩ ∧ Com n (some ⟨ab, ao, none⟩) m cap b eb lb sb db i v ∧ v 16 = .int .i64 k ∧ v 171 = .bool true ∧ W1 = wx) ?_ ?_
          rotate_left
          · intro _ _ _ _
            clear pp mm hpk hok pc pf
            rcases hq23 with rfl | rfl
            all_goals
              go_wp2_with fail
              refine Met.intro ?_
              go_step
              refine frm_meet (by kernel_rfl) ?_
              exact ⟨⟨rfl, rfl, rfl, rfl, rfl, rfl, rfl, rfl, rfl⟩, rfl, rfl, rfl⟩
          · intro a' wx hcut
            obtain ⟨v, rfl, cm, hv16, hv171, rfl⟩ := hcut
            have hfr := frm_lit v
            rw [cm.v1, cm.v7, cm.v8, cm.v9, cm.v10, cm.v11, cm.v12, cm.v13, cm.v14, hv16, hv171] at hfr
            rw [hfr]
            clear hfr cm
            clear hv16 hv171 hq0 hq1 hq23 hq6
            cases p0 with
            | none =>
              replace pc : W1.cell? ⟨lb, k, none⟩ = some (.pointer none) := pc
              have pp5 := pp.next
              clear pp hpk
              go_wp2_with fail
              refine Handed.intro (m - (i + 1)) (by have := hgk.out; omega) ?_
              go_step
              refine frm_meet (by kernel_rfl) ?_
              exact ⟨i + 1, rfl, by omega, ⟨rfl, rfl, rfl, rfl, rfl, rfl, rfl, rfl, rfl⟩, _, _, _, _, _, _, _, _, _, _, pp5, mm⟩
            | some p =>
              obtain ⟨x, s⟩ := p
              replace pc : W1.cell? ⟨lb, k, none⟩ = some (.pointer (some ⟨x, 0, none⟩)) := pc
              have hps := ps_at hpk
              obtain ⟨s', E', pin', isp, r', bo⟩ := both i pp.tv hps (by have := pp.eE; omega) ⟨hn1, hn2⟩
              obtain ⟨t1, t2, t3, t4, t5⟩ := pp.tv.sn k s hps
              have hD := bo.doc _ _ _ _ _ _ _ _ W1 mm.re (pp.rr k x s hpk)
              have hP := fun W (ep : EpAt W b g h gr n (cellsL E pin)) (st : EsAt W x s) => EpDo_any b g h gr n x s (cellsL E pin) W ep st (by
                cases ha : s.adv with
                | true => have := t3 ha; omega
                | false => have := t4 ha; omega) (fun ha => by have := t4 ha; omega) t1
              rw [bo.does] at hP
              obtain ⟨wn, hwn⟩ : ∃ wn, wn = s'.won := ⟨_, rfl⟩
              rw [← hwn] at hD
              clear t1 t2 t3 t4 t5 hps
              cases hdn : s'.done with
              | false =>
                rw [hdn] at hD hP
                replace hD := Lib.hid hD
                replace hP := Lib.hid hP
                replace hwn := Lib.hid hwn
                replace hdn := Lib.hid hdn
                go_wp2_with fail
                refine hD.out.mono ?_
                rintro e u1 ⟨rfl, re1, up1⟩
                have mm1 := mm.rdo re1 up1
                obtain ⟨pc1, -⟩ := mm1.sl.cell hpk
                replace pc1 : u1.cell? ⟨lb, k, none⟩ = some (.pointer (some ⟨x, 0, none⟩)) := pc1
                clear mm re1 up1 hD
                go_wp2_with fail
                refine (hP.out u1 mm1.el.eg.ep (mm1.sl.st k x s hpk).1).mono ?_
                rintro e u2 ⟨rfl, es⟩
                have mm2 := mm1.step hpk es
                have st2 := es.st
                have hpk2 : (ps.set k (some (x, s')))[k]? = some (some (x, s')) := List.getElem?_set_self (List.getElem?_eq_some_iff.1 hpk).1
                obtain ⟨pc2, pf2⟩ := mm2.sl.cell hpk2
                replace pc2 : u2.cell? ⟨lb, k, none⟩ = some (.pointer (some ⟨x, 0, none⟩)) := pc2
                have hW := EpWon_any x s' u2 st2
                rw [← hwn.out] at hW
                replace hW := Lib.hid hW
                have hBB : (wn != wn) = false := by simp
                clear mm1 pc1 es hP hpk2 pc pf
                go_wp2_with fail
                refine hW.out.mono ?_
                rintro e u3 ⟨rfl, rfl⟩
                clear hW
                go_wp2_with fail
                replace hdn := hdn.out
                have pp5 := pp.go hpk bo hdn
                replace hdn := Lib.hid hdn
                clear pp bo hpk
                go_wp2_with fail
                refine Met.intro ?_
                go_step
                refine frm_meet (by kernel_rfl) ?_
                exact ⟨⟨rfl, rfl, rfl, rfl, rfl, rfl, rfl, rfl, rfl⟩, rfl, _, _, _, _, _, _, _, _, _, _, pp5, mm2⟩
              | true =>
                rw [hdn] at hD hP
                replace hD := Lib.hid hD
                replace hP := Lib.hid hP
                replace hwn := Lib.hid hwn
                replace hdn := Lib.hid hdn
                go_wp2_with fail
                refine hD.out.mono ?_
                rintro e u1 ⟨rfl, re1, up1⟩
                have mm1 := mm.rdo re1 up1
                obtain ⟨pc1, -⟩ := mm1.sl.cell hpk
                replace pc1 : u1.cell? ⟨lb, k, none⟩ = some (.pointer (some ⟨x, 0, none⟩)) := pc1
                clear mm re1 up1 hD
                go_wp2_with fail
                refine (hP.out u1 mm1.el.eg.ep (mm1.sl.st k x s hpk).1).mono ?_
                rintro e u2 ⟨rfl, es⟩
                have mm2 := mm1.step hpk es
                have st2 := es.st
                have hpk2 : (ps.set k (some (x, s')))[k]? = some (some (x, s')) := List.getElem?_set_self (List.getElem?_eq_some_iff.1 hpk).1
                obtain ⟨pc2, pf2⟩ := mm2.sl.cell hpk2
                replace pc2 : u2.cell? ⟨lb, k, none⟩ = some (.pointer (some ⟨x, 0, none⟩)) := pc2
                have hW := EpWon_any x s' u2 st2
                rw [← hwn.out] at hW
                replace hW := Lib.hid hW
                have hBB : (wn != wn) = false := by simp
                clear mm1 pc1 es hP hpk2 pc pf
                go_wp2_with fail
                refine hW.out.mono ?_
                rintro e u3 ⟨rfl, rfl⟩
                clear hW
                go_wp2_with fail
                replace hdn := hdn.out
                refine (EpDo_done b x s' u2 st2 hdn).mono ?_
                rintro e u3 ⟨rfl, rfl⟩
                have pp5 := pp.fin hpk bo hdn hok
                have d0 := mm2.pdc hok
                have df := mm2.bd.frozen k
                have mm3 := mm2.setpd k (o || isp)
                have hpk3 : (ps.set k (some (x, s')))[k]? = some (some (x, s')) := List.getElem?_set_self (List.getElem?_eq_some_iff.1 hpk).1
                obtain ⟨s0, s1⟩ := mm3.sl.cell hpk3
                obtain ⟨sl4, up4⟩ := mm3.sl.drop k
                have mm4 := mm3.slot sl4 up4
                rw [List.set_set] at mm4
                replace s0 : (u2.setCell ⟨db, k, none⟩ (.bool (o || isp))).cell? ⟨lb, k, none⟩ = some (.pointer (some ⟨x, 0, none⟩)) := s0
                replace hdn := Lib.hid hdn
                clear pp bo hpk mm2 mm3 sl4 up4 st2 hpk3
                cases o with
                | true =>
                  rw [Bool.true_or] at s0 s1 mm4 pp5
                  go_wp2_with fail
                  refine Met.intro ?_
                  go_step
                  refine frm_meet (by kernel_rfl) ?_
                  exact ⟨⟨rfl, rfl, rfl, rfl, rfl, rfl, rfl, rfl, rfl⟩, rfl, _, _, _, _, _, _, _, _, _, _, pp5, mm4⟩
                | false =>
                  rw [Bool.false_or] at s0 s1 mm4 pp5
                  go_wp2_with fail
                  refine Met.intro ?_
                  go_step
                  refine frm_meet (by kernel_rfl) ?_
                  exact ⟨⟨rfl, rfl, rfl, rfl, rfl, rfl, rfl, rfl, rfl⟩, rfl, _, _, _, _, _, _, _, _, _, _, pp5, mm4⟩
        · cases p0 with
          | none =>
            replace pc : W1.cell? ⟨lb, k, none⟩ = some (.pointer none) := pc
            have ppb := pp.unpin hpk
            go_wp2_with fail
            refine (EpUnpin_any k b g h gr n _ W1 mm.el.eg.ep ⟨hk0, by omega⟩).mono ?_
            rintro e u1 ⟨rfl, ep1, up1⟩
            have mm1 := mm.unpin (by rw [pp.tv.lp]; exact hkn2) ep1 up1
            clear mm ep1 up1
            go_wp2_with fail
            refine (rUnpin_any mm1.re hkn2).mono ?_
            rintro e u3 ⟨rfl, re2, up2⟩
            have mm3 := mm1.rdo re2 up2
            clear mm1 re2 up2 hpk
            have mm4 := mm3.setpd k false
            have d0 := mm3.pdc hok
            have df := mm3.bd.frozen k
            go_wp2_with fail
            generalize World.setCell u3 ⟨db, k, none⟩ (.bool false) = u4 at *
            clear d0 df
            refine (unpinned_any w.heap.size sb n k 200 200 shs sn u4 mm4.sv pp.sl (by omega) pp.sr hkn2).mono ?_
            rintro e u5 ⟨rfl, sv5, up5⟩
            have mm5 := mm4.clr sv5 up5
            have pp5 := (ppb).next
            clear mm4 sv5 up5 pp pc pf
            go_wp2_with fail
            refine Met.intro ?_
            go_step
            refine frm_meet (by kernel_rfl) ?_
            exact ⟨⟨rfl, rfl, rfl, rfl, rfl, rfl, rfl, rfl, rfl⟩, rfl, _, _, _, _, _, _, _, _, _, _, pp5, mm5⟩
          | some p =>
            obtain ⟨x, s⟩ := p
            replace pc : W1.cell? ⟨lb, k, none⟩ = some (.pointer (some ⟨x, 0, none⟩)) := pc
            have pp5 := pp.next
            clear pp hpk
            go_wp2_with fail
            refine Handed.intro (m - (i + 1)) (by have := hgk.out; omega) ?_
            go_step
            refine frm_meet (by kernel_rfl) ?_
            exact ⟨i + 1, rfl, by omega, ⟨rfl, rfl, rfl, rfl, rfl, rfl, rfl, rfl, rfl⟩, _, _, _, _, _, _, _, _, _, _, pp5, mm⟩
        · clear pc pf hok
          obtain ⟨tl, htl⟩ : ∃ tl, G[k]? = some tl := ⟨_, List.getElem?_eq_getElem (by rw [mm.el.eg.len]; exact hkn2)⟩
          have hgl := pp.gl k tl htl
          have hi1 : IntKind.i64.wrap ((i : Int) + 1) = ((i + 1 : Nat) : Int) := by rw [IntKind.wrap_i64]; omega
          have hi2 : IntKind.u64.wrap ((i + 1 : Nat) : Int) = ((i + 1 : Nat) : Int) := by rw [IntKind.wrap_u64]; omega
          obtain ⟨c, hc⟩ : ∃ c, c = i + 1 := ⟨_, rfl⟩
          have pp5 := pp.give htl
          rw [← hc] at hi1 hi2 pp5
          have hc200 : (c : Int) < 200 := by omega
          have hc0 : (0 : Int) ≤ c := by omega
          have hcb : c < 200 := by omega
          replace hc := Lib.hid hc
          obtain ⟨v0, hv0⟩ : ∃ v0, shs[c]? = some v0 := ⟨_, List.getElem?_eq_getElem (by rw [mm.sv.len, pp.sl]; exact hcb)⟩
          have hlpd := pp.tv.lb
          have hG := EpGive_any w.heap.size b g h gr n k (c : Int) (cellsL E pin) hs G tl W1 mm.el.eg hkn2 htl (by omega) mm.el.bel.size
          rw [cells0] at hG
          replace hG := Lib.hid hG
          clear pp hpk
          go_wp2_with fail
          refine hG.out.mono ?_
          rintro e u1 ⟨hs1, rfl, eg1, up1⟩
          have mm1 := mm.gave eg1 up1
          clear hG mm eg1 up1
          go_wp2_with fail
          refine (rGive_any mm1.re hkn2 (c : Int) tl htl (by omega) mm1.el.bel.size).mono ?_
          rintro e u2 ⟨dhs2, rfl, re2, up2⟩
          have mm2 := mm1.rgave re2 up2
          clear mm1 re2 up2
          have own0 := ownT_new0 bcs 1 4 u2 u2.heap.size (Nat.le_refl _)
          have hrp : RdT bcs 1 (u2.alloc (.cells #[] 4)) (u2.alloc (.cells #[] 4)).heap.size (some ⟨db, 0, none⟩) n pd := rd_pd (mm2.bel' (bel_alloc u2 (.cells #[] 4))).bd hlpd
          have hsz2 : u2.heap.size ≤ (u2.alloc (.cells #[] 4)).heap.size := by simp
          have bl0 := bel_alloc u2 (.cells #[] 4)
          obtain ⟨i3', hi3', hw0', hw1', hw2'⟩ := info_parts info_bool
          have hci : c = i + 1 := hc.out
          replace hci := Lib.hid hci
          go_wp2_with (at_builtin; go_loud (refine wpList_appT bcs_len bcs_one (by decide) _ rfl (.tmp 259) (.tmp 260) 48 rfl u2.heap.size 4 i3' (.bool false) 1 Try.underlying48 hi3' hw0' hw1' hw2' rfl _ (by rfl) [] own0 _ _ n n rfl pd hrp (by simp; omega) (by decide) hsz2 ?_
                                            intro v1 w4 own4 hg4 hb4
                                            have bel4 : Below u2.heap.size u2 w4 := bl0.grown hg4 hsz2 (fun g h => (own0.lt g h).1)
                                            rw [List.nil_append] at own4
                                            obtain ⟨A4, c4, rfl, _, _⟩ := own4.form hlpd
                                            have mm4 := mm2.bel' bel4
                                            have mm5 := mm2.putsn hv0 bel4 (ownT_low own4 mm2.el.bel.size) (fun x hx => (own4.lt x hx).1)
                                            have e5 := mm4.sv.blk.cell c
                                            rw [show shs.toArray[c]? = _ by simpa using hv0] at e5
                                            have f5 := mm4.sv.blk.frozen c
                                            clear own0 hrp hsz2 bl0 hg4 hb4 bel4 own4 mm2 mm4))
          refine Met.intro ?_
          go_step
          refine frm_meet (by kernel_rfl) ?_
          refine ⟨⟨rfl, rfl, rfl, rfl, rfl, rfl, rfl, rfl, rfl⟩, rfl, _, _, _, _, _, _, _, _, _, _, ?_, mm5⟩
          rw [← hci.out]
          exact pp5

      · intro a' W2 hcut
        clear mm pp E pin G hs ps rs dhs shs sn pd hq6 q
        obtain ⟨v, rfl, cm, hv16, E, pin, G, hs, ps, rs, dhs, shs, sn, pd, pp, mm⟩ := hcut
        have hfr := frm_lit v
        rw [cm.v1, cm.v7, cm.v8, cm.v9, cm.v10, cm.v11, cm.v12, cm.v13, cm.v14, hv16] at hfr
        rw [hfr]
        clear hfr cm
        clear hv16
        obtain ⟨tl, htl⟩ : ∃ tl, G[k]? = some tl := ⟨_, List.getElem?_eq_getElem (by rw [mm.el.eg.len]; exact hkn2)⟩
        have hgl := pp.gl k tl htl
        have hEi := pp.eE
        have hwr : ∀ x ∈ tl, inr .u64 x.what := fun x hx => by
          obtain ⟨a, u, h1, h2, h3, h4, h5, _⟩ := pp.tg.at_ k tl x htl hx
          rw [h1]; exact u64_inr (by omega)
        have hwn : ∀ x ∈ tl, 0 ≤ x.when ∧ x.when ≤ 1000000 := fun x hx => by
          obtain ⟨a, u, h1, h2, h3, h4, h5, _⟩ := pp.tg.at_ k tl x htl hx
          rw [h2]; omega
        have hsafe : ∀ y ∈ takes (E : Int) tl, ∃ a : Nat, y = (a : Int) ∧ a ≤ i + 1 ∧ ∀ r, sn[a]? = some r → ∀ p : Nat, r[p]? ≠ some true := fun y hy => pp.tg.safe pp.tv htl hy
        have hT := EpTake_any w.heap.size b g h gr n k (cellsL E pin) hs G tl W2 mm.el.eg hkn2 htl (by omega) mm.el.bel.size hwr hwn
        rw [cells0] at hT
        have pp2 := pp.take htl
        have hl2 : (G.set k (leaves (E : Int) tl))[k]? = some (leaves (E : Int) tl) := List.getElem?_set_self (List.getElem?_eq_some_iff.1 htl).1
        have hwr2 : ∀ x ∈ leaves (E : Int) tl, inr .u64 x.what := fun x hx => hwr x (List.mem_filter.1 hx).1
        have hl2n := leaves_len (E : Int) tl
        have hT2 := fun W (q : RE w.heap.size eb pb stb gb n E pin rs dhs G W) (hb : w.heap.size ≤ W.heap.size) => rTake_any q hkn2 tl htl (by omega) hb (by omega) hwr hwn
        obtain ⟨p, hp⟩ : ∃ p, pin[k]? = some p := ⟨_, List.getElem?_eq_getElem (by rw [pp.tv.lp]; exact hkn2)⟩
        have hpE := pp.tv.hp k p hp
        obtain ⟨T, hTe⟩ : ∃ T, T = takes (E : Int) tl := ⟨_, rfl⟩
        obtain ⟨L2, hL2⟩ : ∃ L2, L2 = leaves (E : Int) tl := ⟨_, rfl⟩
        rw [← hTe] at hT hT2 hsafe
        rw [← hL2] at hT hT2 pp2 hl2 hwr2 hl2n
        obtain ⟨tn, htn⟩ : ∃ tn, T.length = tn := ⟨_, rfl⟩
        have htnb : tn ≤ 1000 := by rw [← htn, hTe]; have := takes_len (E : Int) tl; omega
        clear hTe hL2 hwr hwn htl pp
        replace hT := Lib.hid hT
        replace hT2 := Lib.hid hT2
        replace htn := Lib.hid htn
        replace hsafe := Lib.hid hsafe
        replace hwr2 := Lib.hid hwr2
        replace hl2 := Lib.hid hl2
        go_wp2_with fail
        refine hT.out.mono ?_
        rintro e u1 ⟨v1, hs1, rfl, own1, eg1, up1⟩
        have mm1 := mm.gave eg1 up1
        obtain ⟨A1, c1, rfl, _, _⟩ := own1.form htn.out
        clear hT mm eg1 up1
        go_wp2_with fail
        refine (hT2.out u1 mm1.re mm1.el.bel.size).mono ?_
        rintro e u2 ⟨v2, dhs2, rfl, own2, re2, up2⟩
        have own1' := own1.upd up2 (fun g hg hS => by
          obtain ⟨_, q1⟩ := own1.blk_ hg
          obtain ⟨t, cs, q2, ht⟩ := mm1.re.gv.ty hS
          rcases ht with rfl | rfl
          · exact q1.ne_ q2 (by decide) rfl
          · exact q1.ne_ q2 (by decide) rfl)
        have mm2 := mm1.rgave re2 up2
        obtain ⟨A2, c2, rfl, _, _⟩ := own2.form htn.out
        clear hT2 mm1 re2 up2 own1
        have hWt := fun W (hW : Below u2.heap.size u2 W) => EpWaiting_any w.heap.size b g h gr n k (cellsL E pin) hs1 _ L2 W (mm2.bel' hW).el.eg hkn2 hl2.out
        have hWr := fun W (hW : Below u2.heap.size u2 W) => rWaiting_any (mm2.bel' hW).re hkn2 L2 hl2.out
        have hNw := fun W (hW : Below u2.heap.size u2 W) => EpNow_any b g h gr n (cellsL E pin) W (mm2.bel' hW).el.eg.ep E (cells0 E pin) (by omega)
        have hPn := fun W (hW : Below u2.heap.size u2 W) => EpPinned_any k b g h gr n (cellsL E pin) W (mm2.bel' hW).el.eg.ep ⟨hk0, by omega⟩ p (cellsP hp) (by omega)
        have z0 : ∀ t : Tw (fun W' => Below u2.heap.size u2 W'), t.w.cell? ⟨eb, 0, none⟩ = some (.int .i64 (E : Int)) := fun t => mm2.re.obj.tw mm2.re.obj.lt t 0
        have z1 : ∀ t : Tw (fun W' => Below u2.heap.size u2 W'), t.w.cell? ⟨eb, 1, none⟩ = some (.slice (some ⟨pb, 0, none⟩) n n) := fun t => mm2.re.obj.tw mm2.re.obj.lt t 1
        have z2 : ∀ t : Tw (fun W' => Below u2.heap.size u2 W'), t.w.cell? ⟨pb, k, none⟩ = some (.int .i64 (p : Int)) := fun t => (mm2.bel' t.h).re.pinc hp
        have hpw : IntKind.i64.wrap ((p : Int) - 1) = (p : Int) - 1 := IntWalk.i64_in _ (by omega)
        have hkin : (k : Int) < n := by omega
        obtain ⟨l2n, hl2e⟩ : ∃ l2n, L2.length = l2n := ⟨_, rfl⟩
        rw [hl2e] at hWt hWr
        replace hl2e := Lib.hid hl2e
        replace hWt := Lib.hid hWt
        replace hWr := Lib.hid hWr
        replace hNw := Lib.hid hNw
        replace hPn := Lib.hid hPn
        replace hp := Lib.hid hp
        have : Nonempty (Tw (fun W' => Below u2.heap.size u2 W')) := ⟨⟨u2, Below.refl _ _⟩⟩
        go_upto_region 51 with fail
        refine region_tw (fun w' => Below (u2).heap.size (u2) w') (by kernel_rfl) (by kernel_rfl) (Below.refl _ _).drew ?_
        unfold clsS
        repeat (first
          | go_big_quiet_skip
          | (go_big_quiet_want; go_big_quiet_op; first | go_big_quiet_on | go_big_quiet_call (
            (first 
                  | (go_at_call 15; exact q_tw_same (hWt.out _ (Tw.h _)))
                  | (go_at_call 29; exact q_tw_same (hWr.out _ (Tw.h _)))
                  | (go_at_call 13; exact q_tw_same (hNw.out _ (Tw.h _)))
                  | (go_at_call 18; exact q_tw_same (hPn.out _ (Tw.h _)))))))
        refine wpQuiet_nil ?_
        intro tq
        have mm3 := mm2.bel' tq.h
        have own1b := own1'.below tq.h
        have own2b := own2.below tq.h
        clear z0 z1 z2 hWt hWr hNw hPn this mm2 own1' own2
        generalize hU3 : tq.w = u3 at *
        clear hU3
        have hll3 : L2.length ≤ 100000 := by omega
        go_wp2_with fail
        refine (EpGiven_any w.heap.size b g h gr n k (cellsL E pin) hs1 _ L2 u3 mm3.el.eg hkn2 hl2.out hll3 hwr2.out).mono ?_
        rintro e u4 ⟨v4, rfl, own4, bel4⟩
        have mm4 := mm3.bel' bel4
        have own1c := own1b.below bel4
        have own2c := own2b.below bel4
        have hln : (L2.map Th.what).length = l2n := by rw [List.length_map]; exact hl2e.out
        obtain ⟨D, hD⟩ : ∃ D, D = L2.map Th.what := ⟨_, rfl⟩
        rw [← hD] at own4 hln
        obtain ⟨A4, c4, rfl, _, _, rd4⟩ := own4.form hln
        clear mm3 own1b own2b own4
        go_wp2_with fail
        refine (rGiven_any mm4.re hkn2 L2 hl2.out hll3 hwr2.out).mono ?_
        rw [← hD]
        rintro e u5 ⟨v5, rfl, own5, bel5⟩
        have mm5 := mm4.bel' bel5
        have own1d := own1c.below bel5
        have own2d := own2c.below bel5
        have rd4b := rd4.below bel5
        have hs45 := bel5.size
        obtain ⟨A5, c5, rfl, _, _, rd5⟩ := own5.form hln
        clear mm4 own1c own2c own5 rd4 bel4 bel5 hD
        replace hln := Lib.hid hln
        have hl2b : l2n ≤ 1000 := by have := hl2e.out; omega
        go_upto_block 3 with fail
        refine wp_cut (fun a' wx => ∃ v : Nat → Value, a' = ⟨(frm v).toArray, []⟩ ∧ Com n (some ⟨ab, ao, none⟩) m cap b eb lb sb db i v ∧ v 16 = .int .i64 k ∧ v 21 = .slice A1 tn c1 ∧ v 22 = .slice A2 tn c2 ∧ Below u5.heap.size u5 wx) ?_ ?_
        rotate_left
        · intro _ _ _ _
          go_wp2_with fail
          refine wp_loop_ghost_k (fun gj a' wr => ∃ v : Nat → Value, a' = ⟨(frm v).toArray, []⟩ ∧ ∃ j : Nat, gj = l2n - j ∧ j ≤ l2n ∧ Com n (some ⟨ab, ao, none⟩) m cap b eb lb sb db i v ∧ v 16 = .int .i64 k ∧ v 21 = .slice A1 tn c1 ∧ v 22 = .slice A2 tn c2 ∧ v 23 = .slice A4 l2n c4 ∧ v 24 = .slice A5 l2n c5 ∧ v 25 = .int .i64 j ∧ Below u5.heap.size u5 wr) l2n ?_ ?_
          · refine frm_meet (by kernel_rfl) ?_
            exact ⟨0, rfl, Nat.zero_le _, ⟨rfl, rfl, rfl, rfl, rfl, rfl, rfl, rfl, rfl⟩, rfl, rfl, rfl, rfl, rfl, rfl, Below.refl _ _⟩
          · intro gj a' wr hrel _ _ _ _
            obtain ⟨v, rfl, j, hgj, hj, cm, w16, w21, w22, w23, w24, w25, blr⟩ := hrel
            have hfr := frm_lit v
            rw [cm.v1, cm.v7, cm.v8, cm.v9, cm.v10, cm.v11, cm.v12, cm.v13, cm.v14, w16, w21, w22, w23, w24, w25] at hfr
            rw [hfr]
            clear hfr cm
            clear w16 w21 w22 w23 w24 w25
            by_cases hjl : j < l2n
            · have hdj : decide (j < l2n) = true := by simpa using hjl
              have hj0 : (0 : Int) ≤ j := by omega
              have hjn : (j : Int) < l2n := by omega
              obtain ⟨b4, o4, rfl, hb4, k4, r4⟩ := rd4b.at_ hjl
              obtain ⟨b5, o5, rfl, hb5, k5, r5⟩ := rd5.at_ hjl
              have z4 : ∀ t : Tw (fun W' => Below wr.heap.size wr W'), t.w.cell? ⟨b4, o4 + j, none⟩ = some (.int .u64 (D.getD j 0)) := fun t => ((bel_after blr t.h).cell (p := ⟨b4, o4 + j, none⟩) (by show b4 < _; omega)).trans k4
              have z5 : ∀ t : Tw (fun W' => Below wr.heap.size wr W'), t.w.cell? ⟨b5, o5 + j, none⟩ = some (.int .u64 (D.getD j 0)) := fun t => ((bel_after blr t.h).cell (p := ⟨b5, o5 + j, none⟩) hb5).trans k5
              clear k4 k5 r4 r5
              generalize D.getD j 0 = dj at *
              have hBB : (dj != dj) = false := by simp
              have : Nonempty (Tw (fun W' => Below wr.heap.size wr W')) := ⟨⟨wr, Below.refl _ _⟩⟩
              replace hgj := Lib.hid hgj
              go_upto_region 59 with fail
              refine region_tw (fun w' => Below (wr).heap.size (wr) w') (by kernel_rfl) (by kernel_rfl) (Below.refl _ _).drew ?_
              unfold clsS
              repeat (first
                | go_big_quiet_skip
                | (go_big_quiet_want; go_big_quiet_op; first | go_big_quiet_on | go_big_quiet_call (
                  (first 
                            | fail))))
              refine wpQuiet_nil ?_
              intro tq
              have blr2 := bel_after blr tq.h
              clear z4 z5 this
              go_wp2_with fail
              refine Handed.intro (l2n - (j + 1)) (by have := hgj.out; omega) ?_
              go_step
              refine frm_meet (by kernel_rfl) ?_
              exact ⟨j + 1, rfl, by omega, ⟨rfl, rfl, rfl, rfl, rfl, rfl, rfl, rfl, rfl⟩, rfl, rfl, rfl, rfl, rfl, rfl, blr2⟩
            · obtain rfl : j = l2n := by omega
              have hdj : decide (j < j) = false := by simp
              go_wp2_with fail
              refine Met.intro ?_
              go_step
              refine frm_meet (by kernel_rfl) ?_
              exact ⟨⟨rfl, rfl, rfl, rfl, rfl, rfl, rfl, rfl, rfl⟩, rfl, rfl, rfl, blr⟩
        · intro a' u6 hcut
          obtain ⟨v, rfl, cm, hv16, hv21, hv22, bl6⟩ := hcut
          have mm6 := mm5.bel' bl6
          have own1e := own1d.below bl6
          have own2e := own2d.below bl6
          clear mm5 own1d own2d rd4b rd5 bl6 hs45 hln
          have hfr := frm_lit v
          rw [cm.v1, cm.v7, cm.v8, cm.v9, cm.v10, cm.v11, cm.v12, cm.v13, cm.v14, hv16, hv21, hv22] at hfr
          rw [hfr]
          clear hfr cm
          clear hv16 hv21 hv22
          go_upto_block 5 with fail
          go_wp2_with fail
          refine wp_loop_ghost_k (fun gj a' wr => ∃ v : Nat → Value, a' = ⟨(frm v).toArray, []⟩ ∧ ∃ j : Nat, gj = tn - j ∧ j ≤ tn ∧ Com n (some ⟨ab, ao, none⟩) m cap b eb lb sb db i v ∧ v 21 = .slice A1 tn c1 ∧ v 22 = .slice A2 tn c2 ∧ v 26 = .int .i64 j ∧ ∃ (shs : List Value) (sn1 : List (List Bool)), (∀ (a : Nat) (r : List Bool), sn1[a]? = some r → r = [] ∨ sn[a]? = some r) ∧ PP n E (i + 1) pin ps rs pd sn1 (G.set k L2) ∧ MM w b g h gr n lb eb pb stb gb sb db E pin (G.set k L2) hs1 ps E pin rs (G.set k L2) dhs2 shs sn1 pd wr ∧ Own .u64 23 wr W2.heap.size (.slice A1 tn c1) T ∧ Own .u64 23 wr u1.heap.size (.slice A2 tn c2) T) tn ?_ ?_
          · refine frm_meet (by kernel_rfl) ?_
            exact ⟨0, rfl, Nat.zero_le _, ⟨rfl, rfl, rfl, rfl, rfl, rfl, rfl, rfl, rfl⟩, rfl, rfl, rfl, shs, sn, fun a r h => .inr h, pp2, mm6, own1e, own2e⟩
          · clear mm6 own1e own2e pp2
            intro gj a' wr hrel _ _ _ _
            obtain ⟨v, rfl, j, hgj, hj, cm, w21, w22, w26, shs, sn1, hsn, pp3, mm, own1, own2⟩ := hrel
            have hfr := frm_lit v
            rw [cm.v1, cm.v7, cm.v8, cm.v9, cm.v10, cm.v11, cm.v12, cm.v13, cm.v14, w21, w22, w26] at hfr
            rw [hfr]
            clear hfr cm
            clear w21 w22 w26
            by_cases hjl : j < tn
            · have hdj : decide (j < tn) = true := by simpa using hjl
              have hj0 : (0 : Int) ≤ j := by omega
              have hjn : (j : Int) < tn := by omega
              obtain ⟨y, hy⟩ : ∃ y, T[j]? = some y := ⟨_, List.getElem?_eq_getElem (by have := htn.out; omega)⟩
              obtain ⟨a, rfl, hai, hr0⟩ := hsafe.out y (List.mem_of_getElem? hy)
              have hyD : T.getD j 0 = (a : Int) := by rw [List.getD_eq_getElem?_getD, hy]; rfl
              obtain ⟨_, _, e1, _, _, rd1⟩ := own1.form htn.out
              obtain ⟨_, _, e2, _, _, rd2⟩ := own2.form htn.out
              simp only [Value.slice.injEq, true_and] at e1 e2
              obtain ⟨rfl, rfl⟩ := e1
              obtain ⟨rfl, rfl⟩ := e2
              obtain ⟨b4, o4, rfl, hb4, k4, r4⟩ := rd1.at_ hjl
              obtain ⟨b5, o5, rfl, hb5, k5, r5⟩ := rd2.at_ hjl
              rw [hyD] at k4 k5 r4 r5
              clear rd1 rd2 hyD hy
              have z4 : ∀ t : Tw (fun W' => Below wr.heap.size wr W'), t.w.cell? ⟨b4, o4 + j, none⟩ = some (.int .u64 (a : Int)) := fun t => (t.h.cell (p := ⟨b4, o4 + j, none⟩) hb4).trans k4
              have z5 : ∀ t : Tw (fun W' => Below wr.heap.size wr W'), t.w.cell? ⟨b5, o5 + j, none⟩ = some (.int .u64 (a : Int)) := fun t => (t.h.cell (p := ⟨b5, o5 + j, none⟩) hb5).trans k5
              have hBB : ((a : Int) != (a : Int)) = false := by simp
              have hBB2 : (a != a) = false := by simp
              have ha0 : (0 : Int) ≤ a := by omega
              have ha200 : (a : Int) < 200 := by omega
              have hasn : a < sn1.length := by rw [pp3.sl]; omega
              have : Nonempty (Tw (fun W' => Below wr.heap.size wr W')) := ⟨⟨wr, Below.refl _ _⟩⟩
              replace hgj := Lib.hid hgj
              replace hr0 := Lib.hid hr0
              replace hsn := Lib.hid hsn
              go_upto_region 64 with fail
              refine region_tw (fun w' => Below (wr).heap.size (wr) w') (by kernel_rfl) (by kernel_rfl) (Below.refl _ _).drew ?_
              unfold clsS
              repeat (first
                | go_big_quiet_skip
                | (go_big_quiet_want; go_big_quiet_op; first | go_big_quiet_on | go_big_quiet_call (
                  (first 
                            | fail))))
              refine wpQuiet_nil ?_
              intro tq
              have mm1 := mm.bel' tq.h
              have own1b := own1.below tq.h
              have own2b := own2.below tq.h
              have k6 := z4 tq
              clear z4 z5 this mm own1 own2 k4 k5
              generalize hU7 : tq.w = u7 at *
              clear hU7
              obtain ⟨v0, r, hv0, hr, own0⟩ := mm1.sv.at_ hasn
              have e5 := mm1.sv.blk.cell a
              rw [show shs.toArray[a]? = _ by simpa using hv0] at e5
              have f5 := mm1.sv.blk.frozen a
              obtain ⟨rl, hrl⟩ : ∃ rl, r.length = rl := ⟨_, rfl⟩
              obtain ⟨A0, c0, rfl, _, _⟩ := own0.form hrl
              have hrlb : rl ≤ 64 := by
                rcases pp3.sr r (List.mem_of_getElem? hr) with h | h
                · rw [h] at hrl; simp at hrl; omega
                · omega
              have rd0 := own0.rd bcs_len rfl hrl
              have hfalse : ∀ p : Nat, r[p]? ≠ some true := fun p => by
                rcases hsn.out a r hr with h | h
                · rw [h]; simp
                · exact hr0.out r h p
              replace hfalse := Lib.hid hfalse
              replace hrl := Lib.hid hrl
              clear own0 hr0
              go_upto_block 7 with fail
              go_wp2_with fail
              refine wp_loop_ghost_k (fun gp a' wr => ∃ v : Nat → Value, a' = ⟨(frm v).toArray, []⟩ ∧ ∃ p : Nat, gp = rl - p ∧ p ≤ rl ∧ Com n (some ⟨ab, ao, none⟩) m cap b eb lb sb db i v ∧ v 21 = .slice (some ⟨b4, o4, none⟩) tn c1 ∧ v 22 = .slice (some ⟨b5, o5, none⟩) tn c2 ∧ v 26 = .int .i64 j ∧ v 27 = .slice A0 rl c0 ∧ v 28 = .int .i64 p ∧ u7 = wr) rl ?_ ?_
              · refine frm_meet (by kernel_rfl) ?_
                exact ⟨0, rfl, Nat.zero_le _, ⟨rfl, rfl, rfl, rfl, rfl, rfl, rfl, rfl, rfl⟩, rfl, rfl, rfl, rfl, rfl, rfl⟩
              · intro gp a' wr hrel _ _ _ _
                obtain ⟨v, rfl, p, hgp, hp, cm, w21, w22, w26, w27, w28, rfl⟩ := hrel
                have hfr := frm_lit v
                rw [cm.v1, cm.v7, cm.v8, cm.v9, cm.v10, cm.v11, cm.v12, cm.v13, cm.v14, w21, w22, w26, w27, w28] at hfr
                rw [hfr]
                clear hfr cm
                clear w21 w22 w26 w27 w28
                by_cases hpl : p < rl
                · have hdp : decide (p < rl) = true := by simpa using hpl
                  have hp0 : (0 : Int) ≤ p := by omega
                  have hpn : (p : Int) < rl := by omega
                  obtain ⟨x, hx⟩ : ∃ x, r[p]? = some x := ⟨_, List.getElem?_eq_getElem (by have := hrl.out; omega)⟩
                  have hxf : x = false := by
                    cases x with
                    | false => rfl
                    | true => exact absurd hx (hfalse.out p)
                  subst hxf
                  obtain ⟨b0, o0, rfl, hb0, hcl⟩ := rd0.cel (by omega)
                  have k0 := hcl p false hx 0 (.bool false) rfl
                  rw [Nat.mul_one, Nat.add_zero] at k0
                  replace hgp := Lib.hid hgp
                  clear hcl hx
                  go_wp2_with fail
                  refine Handed.intro (rl - (p + 1)) (by have := hgp.out; omega) ?_
                  go_step
                  refine frm_meet (by kernel_rfl) ?_
                  exact ⟨p + 1, rfl, by omega, ⟨rfl, rfl, rfl, rfl, rfl, rfl, rfl, rfl, rfl⟩, rfl, rfl, rfl, rfl, rfl, rfl⟩
                · obtain rfl : p = rl := by omega
                  have hdp : decide (p < p) = false := by simp
                  have mm2 := mm1.putsn hv0 (Below.refl _ _) (OwnT.nil bcs 1 4 u7 w.heap.size) (fun x hx => by simp [Value.ownBlock] at hx)
                  have up2 := Upd.one u7 sb a (.slice none 0 0)
                  have own1c := own1b.updne mm1.sv.blk (by decide) up2
                  have own2c := own2b.updne mm1.sv.blk (by decide) up2
                  have pp4 := pp3.wipe a
                  have hsn2 : ∀ (a' : Nat) (r : List Bool), (sn1.set a [])[a']? = some r → r = [] ∨ sn[a']? = some r := fun a' r h => by
                    rcases get_set h with ⟨_, e⟩ | ⟨_, e⟩
                    · exact .inl e
                    · exact hsn.out a' r e
                  replace hsn2 := Lib.hid hsn2
                  clear mm1 own1b own2b pp3 hv0 hr rd0 up2 hrl hfalse hgp hsn
                  go_wp2_with fail
                  refine Handed.intro (tn - (j + 1)) (by have := hgj.out; omega) ?_
                  go_step
                  refine frm_meet (by kernel_rfl) ?_
                  exact ⟨j + 1, rfl, by omega, ⟨rfl, rfl, rfl, rfl, rfl, rfl, rfl, rfl, rfl⟩, rfl, rfl, rfl, _, _, hsn2.out, pp4, mm2, own1c, own2c⟩
            · obtain rfl : j = tn := by omega
              have hdj : decide (j < j) = false := by simp
              clear own1 own2 hsn
              go_wp2_with fail
              refine Handed.intro (m - (i + 1)) (by have := hgk.out; omega) ?_
              go_step
              refine frm_meet (by kernel_rfl) ?_
              exact ⟨i + 1, rfl, by omega, ⟨rfl, rfl, rfl, rfl, rfl, rfl, rfl, rfl, rfl⟩, _, _, _, _, _, _, _, _, _, _, pp3, mm⟩

    · have hcond : decide (i < m) = false ∨ (decide (i < m) = true ∧ decide ((i : Int) < 150) = false) := by
        rcases Nat.lt_or_ge i m with h | h
        · exact .inr ⟨by simpa using h, by simp; omega⟩
        · exact .inl (by simp; omega)
      have hfr := frm_lit v
      rw [cm.v1, cm.v7, cm.v8, cm.v9, cm.v10, cm.v11, cm.v12, cm.v13, cm.v14] at hfr
      rw [hfr]
      clear hfr cm
      have hbl := mm.el.bel
      clear mm pp
      rcases hcond with hd | ⟨hd, hd2⟩
      · go_wp2
        go_ret
        exact ⟨rfl, hbl⟩
      · go_wp2
        go_ret
        exact ⟨rfl, hbl⟩

theorem EpochTurns_args (W : World) (args : Array Value) (hs : args.size = Try.f7.params.size) (hA : ∀ (j : Nat) t v, Try.f7.params[j]? = some t → args[j]? = some v → Arg Try.prog W t v) :
    Calls Try.prog 7 args W fun e W' => e = .returned (.bool true) ∧ Below W.heap.size W W' := by
  obtain ⟨v0, v1, rfl⟩ := args2 hs
  obtain ⟨n, rfl, _⟩ := arg_int Try.underlying3 (hA 0 3 v0 rfl rfl)
  obtain ⟨A, len, cap, m, rfl, h1, h2, h3⟩ := arg_slice Try.underlying42 (hA 1 42 v1 rfl rfl)
  have hC : Try.prog.cellsOf 50 = 2 := by kernel_rfl
  have hCi : Try.prog.cellsOf 3 = 1 := by kernel_rfl
  rw [hC] at h3
  have h4 := slice_rows (by omega) h3
  unfold maxLen at h2
  have key : ∃ l : List EAct, RdT EAct.cs 2 W W.heap.size A len l := by
    rcases Nat.eq_zero_or_pos len with h0 | h0
    · subst h0; exact ⟨[], RdT.nil _ _ _ _ _⟩
    · obtain ⟨b, o, rfl, hb, hi⟩ := h4 h0
      obtain ⟨l, hl, hP⟩ := list_of7 (P := fun i (d : EAct) => ∀ f u, d.cs[f]? = some u → W.cell? ⟨b, o + i * 2 + f, none⟩ = some u) len (fun i hil => by
        obtain ⟨ys, hc, hyl, hr⟩ := hi i hil
        obtain ⟨m', _, hf⟩ := rdg_struct Try.underlying50 hr
        obtain ⟨x0, e0, r0⟩ := fld_int (i := 0) hf rfl Try.underlying3 hCi
        obtain ⟨x1, e1, r1⟩ := fld_int (i := 1) hf rfl Try.underlying3 hCi
        refine ⟨⟨x0, x1⟩, fun f u hu => ?_⟩
        have hf2 : f < 2 := (List.getElem?_eq_some_iff.1 hu).1
        refine (hc f (by omega)).trans ?_
        rw [← hu]
        match f, hf2 with
        | 0, _ => exact e0
        | 1, _ => exact e1)
      exact ⟨l, ⟨hl, fun _ => ⟨b, o, rfl, hb, fun j x hj f u hu => hP j x hj f u hu⟩⟩⟩
  obtain ⟨l, rd⟩ := key
  by_cases hn : n < 1 ∨ 64 < n
  · exact EpochTurns_no n A len cap W hn
  · obtain ⟨k, rfl⟩ := Int.eq_ofNat_of_zero_le (a := n) (by omega)
    exact EpochTurns_yes k A len cap l W rd (by omega) (by omega) (by omega)

set_option maxRecDepth 100000 in
theorem EpochTurns_lifted (os : Os) (started : os.Started) (H : Type) (enc : TypeId × Value → H) :
    ReturnsInHanded {} Try.checked os 7 .any (Rows.epochTurnsSpec.pre6 enc Try.prog Try.f7 Rows.epochTurnsRow.domain false) (Rows.epochTurnsSpec.post enc Try.prog Try.f7 false true false false) :=
  law_lifted os started H enc (by kernel_rfl) Try.func7 rfl rfl (fun H ds h => by match ds, h with | [_, _], _ => exact ⟨rfl, rfl, rfl⟩) (by kernel_rfl)
    (ChangeSpec.witness6 (enc := enc) (C := Try.checked) false ⟨#[], #[.int .i64 0, .slice none 0 0], []⟩ 8 (by kernel_rfl) (by kernel_rfl) (by kernel_rfl) (by kernel_rfl))
    EpochTurns_args

/-- the statement -/
theorem epochTurns_holds : Rows.EpochTurnsSaid :=
  OpenClaim.holds_of_wide 7 Try.f7 rfl rfl rfl rfl rfl rfl rfl ⟨rfl, rfl, rfl, rfl, rfl⟩ rfl rfl rfl rfl rfl (by kernel_rfl) Try.func7 (by kernel_rfl)
    (of_decide_eq_true (by kernel_rfl)) (by unfold Func.isWrapper; first | (rw [if_pos (by decide +kernel)]; kernel_rfl) | (rw [if_neg (by decide +kernel)]; exact ⟨rfl, rfl⟩))
    (fun os started H enc _ => EpochTurns_lifted os started H enc)

end Go.Proofs.Ytfcldnojmmhekaa
