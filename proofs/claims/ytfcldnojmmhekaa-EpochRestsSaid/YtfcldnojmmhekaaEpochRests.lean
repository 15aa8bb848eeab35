/- Every input of EpochRests answers true, and reads behind the call as it read before. No condition. -/
import Derived.Test.YtfcldnojmmhekaaEpoch11
import Derived.Test.YtfcldnojmmhekaaFrame
import Derived.Deep.CutBlock
namespace Go.Proofs.Ytfcldnojmmhekaa
set_option linter.unusedVariables false
set_option linter.unusedSimpArgs false
open Go.RowKit
attribute [local irreducible] Es.does
/-- what was given up so far -/
def GI (i : Nat) (G : List (List Th)) : Prop := ∀ l ∈ G, l.length ≤ i ∧ ∀ x ∈ l, x.when = 0 ∧ 0 ≤ x.what ∧ x.what ≤ 60
def cnts (G : List (List Th)) : List Value := G.map fun l => .int .i64 l.length
theorem cnts_at {G : List (List Th)} {k : Nat} {l : List Th} (h : G[k]? = some l) : (cnts G).toArray[k]? = some (.int .i64 l.length) := by simp [cnts, h]
theorem cnts_set (G : List (List Th)) (k : Nat) (l : List Th) : (cnts G).toArray.setIfInBounds k (.int .i64 l.length) = (cnts (G.set k l)).toArray := by
  unfold cnts; rw [List.map_set]; simp
theorem GI.add {i : Nat} {G : List (List Th)} (h : GI i G) {k : Nat} {l : List Th} (hk : G[k]? = some l) (hi : i ≤ 60) : GI (i + 1) (G.set k (l ++ [⟨i, 0⟩])) := by
  intro m hm
  rcases List.mem_or_eq_of_mem_set hm with h1 | h1
  · obtain ⟨a, b⟩ := h m h1
    exact ⟨by omega, b⟩
  · subst h1
    obtain ⟨a, b⟩ := h l (List.mem_of_getElem? hk)
    refine ⟨by simp; omega, fun x hx => ?_⟩
    rcases List.mem_append.1 hx with h2 | h2
    · exact b x h2
    · simp only [List.mem_singleton] at h2
      subst h2
      exact ⟨rfl, by simp, by simp; omega⟩
theorem takes_none {i : Nat} {l : List Th} (h : l.length ≤ i ∧ ∀ x ∈ l, x.when = 0 ∧ 0 ≤ x.what ∧ x.what ≤ 60) {r : Int} (hr : r ≤ 1) : takes r l = [] ∧ leaves r l = l := by
  constructor
  · unfold takes
    rw [List.map_eq_nil_iff, List.filter_eq_nil_iff]
    intro x hx
    have := (h.2 x hx).1
    simp [Th.ripe]; omega
  · unfold leaves
    rw [List.filter_eq_self]
    intro x hx
    have := (h.2 x hx).1
    simp [Th.ripe]; omega
theorem takes_all {i : Nat} {l : List Th} (h : l.length ≤ i ∧ ∀ x ∈ l, x.when = 0 ∧ 0 ≤ x.what ∧ x.what ≤ 60) : (takes 2 l).length = l.length ∧ leaves 2 l = [] := by
  constructor
  · unfold takes
    rw [List.length_map, List.filter_eq_self.2]
    intro x hx
    have := (h.2 x hx).1
    simp [Th.ripe]; omega
  · unfold leaves
    rw [List.filter_eq_nil_iff]
    intro x hx
    have := (h.2 x hx).1
    simp [Th.ripe]; omega
theorem info_inte : (Try.prog.info? 3).map (fun i => (i.zero, i.size, i.bytes)) = some (some (.int .i64 0), 1, 8) := by kernel_rfl
/-- the epochs, and the counts beside them -/
structure EC (w0 : World) (b g h gr n cb : Nat) (L : List Int) (hs : List Value) (G C : List (List Th)) (W : World) : Prop where
  el : EL w0 b g h gr n L hs G W
  cn : Blk W cb 3 (cnts C).toArray
  hcb : w0.heap.size ≤ cb
section
variable {w0 W W' : World} {b g h gr n cb sb : Nat} {L L' : List Int} {hs hs' : List Value} {G G' C C' : List (List Th)} {s s' : Es}
theorem EC.bel' (k : EC w0 b g h gr n cb L hs G C W) (hb : Below W.heap.size W W') : EC w0 b g h gr n cb L hs G C W' := ⟨k.el.bel' hb, k.cn.bel hb, k.hcb⟩
theorem EC.drew (k : EC w0 b g h gr n cb L hs G C W) : EC w0 b g h gr n cb L hs G C W.drew := ⟨k.el.drew, k.cn.drew, k.hcb⟩
theorem EC.gave (k : EC w0 b g h gr n cb L hs G C W) (eg : EG w0.heap.size b g h gr n L hs' G' W') (up : Upd (GvS gr hs) W W') : EC w0 b g h gr n cb L hs' G' C W' :=
  ⟨k.el.gave eg up, k.cn.upd up (k.el.eg.gv.notS k.cn (by decide) (by decide)), k.hcb⟩
theorem EC.step (k : EC w0 b g h gr n cb L hs G C W) (st : EsAt W sb s) (hsb : w0.heap.size ≤ sb) (es : ES W b g h gr n sb s' L' W') : EC w0 b g h gr n cb L' hs G C W' :=
  ⟨k.el.step st hsb es, k.cn.upd es.upd (fun e => e.elim (k.cn.ne_ k.el.eg.ep.cel.row (by decide)) (k.cn.ne_ st (by decide))), k.hcb⟩
theorem EC.count (k : EC w0 b g h gr n cb L hs G C W) (i : Nat) (l : List Th) : EC w0 b g h gr n cb L hs G (C.set i l) (W.setCell ⟨cb, i, none⟩ (.int .i64 l.length)) :=
  ⟨k.el.other (Upd.one W cb i _) (fun x hx => by subst hx; exact ⟨k.hcb, _, _, k.cn, by decide⟩), by rw [← cnts_set]; exact k.cn.set_ i _, k.hcb⟩
end
theorem set_same_ {α : Type} {l : List α} {i : Nat} {x : α} (h : l[i]? = some x) : l.set i x = l := by
  obtain ⟨hl, he⟩ := List.getElem?_eq_some_iff.1 h
  rw [← he]; exact List.set_getElem_self hl
def RestX (w0 : World) (b g h gr n cb : Nat) (L : List Int) (C : List (List Th)) (W : World) : Prop := ∃ hs G, EC w0 b g h gr n cb L hs G C W
def RestW (w0 : World) (b g h gr n cb : Nat) (L : List Int) (G : List (List Th)) (W : World) : Prop := ∃ hs, EC w0 b g h gr n cb L hs G G W
set_option maxRecDepth 100000 in
set_option maxHeartbeats 1000000 in
theorem EpochRests_any (x0 : Int) (A : Option Addr) (m cap : Nat) (pk : List Int) (w : World) (rd : Rd .i64 w w.heap.size A m pk) (hmx : m ≤ 9223372036854775807) :
    Calls Try.prog 4 #[.int .i64 x0, .slice A m cap] w fun e w' => e = .returned (.bool true) ∧ Below w.heap.size w w' := by
  obtain ⟨q, hq, hq8⟩ := modn x0 64 (by omega)
  obtain ⟨n, hn⟩ : ∃ n : Nat, n = 1 + q := ⟨_, rfl⟩
  have hqv : (Value.int .u64 ((IntKind.u64.wrap x0).tmod 64)) = .int .u64 q := by rw [hq]
  have hw2 : 1 + (q : Int) = (n : Int) := by omega
  have hn1 : 1 ≤ n := by omega
  have hn2 : n ≤ 64 := by omega
  obtain ⟨i0, hi, hz0, hz1, hz2⟩ := info_parts info_inte
  have hmk := fun W => make_one (P := Try.prog) 22 3 i0 _ Try.underlying22 hi hz0 hz1 rfl .i64 .i64 n (by rw [hz2]; omega) (by omega) W
  clear hq hz0 hz1 hz2
  replace hn := Lib.hid hn
  go_enter Try.func4, Try.ntmps4
  go_wp2_with fail
  refine (EpNew_yes n _ hn1 (by omega)).mono ?_
  rintro e w1 ⟨b, g, h, gr, rfl, bel, hb, hh, hgr, ep, gv⟩
  rw [idle_new] at ep
  have el1 : EL w b g h gr n (idleL n 0) _ _ w1 := ⟨⟨ep, gv, by simp⟩, hh, hgr, bel⟩
  clear ep gv bel hqv hw2 hq8
  generalize List.replicate n (Value.slice none 0 0) = hs at *
  go_wp2_with fail
  refine (moves_any _).mono ?_
  rintro e w2 ⟨rfl, bel2⟩
  have el2 := (el1.bel' bel2).bel' (bel_alloc w2 (.cells (Array.replicate n (.int .i64 0)) 3))
  have ec : EC w b g h gr n w2.heap.size (idleL n 0) hs (List.replicate n []) (List.replicate n []) (w2.alloc (.cells (Array.replicate n (.int .i64 0)) 3)) := ⟨el2, by
    have := Blk.new w2 3 (Array.replicate n (.int .i64 0))
    unfold cnts; rw [List.map_replicate, List.toArray_replicate]; exact this, (el1.bel' bel2).bel.size⟩
  have gi : GI 0 (List.replicate n []) := by
    intro l hl
    obtain rfl := (List.mem_replicate.1 hl).2
    exact ⟨Nat.le_refl _, by simp⟩
  clear el1 bel2 el2
  go_upto_block 0 with fail
  clear hmk
  generalize w2.alloc (.cells (Array.replicate n (.int .i64 0)) 3) = w3 at *
  generalize w2.heap.size = cb at *
  generalize (List.replicate n [] : List (List Th)) = G at *
  go_cut [9, 10] (fun s9 s10 wx => ∃ (hs : List Value) (G : List (List Th)), GI 60 G ∧ EC w b g h gr n cb (idleL n 0) hs G G wx)
  case first =>
    go_wp2_with fail
    go_loopg [9] m (fun gk s9 wr => ∃ (i : Nat) (hs : List Value) (G : List (List Th)), gk = m - i ∧ i ≤ m ∧ i ≤ 60 ∧ s9 = .int .i64 i ∧ GI i G ∧ EC w b g h gr n cb (idleL n 0) hs G G wr)
    case atStart => exact ⟨0, hs, _, rfl, Nat.zero_le _, by omega, rfl, gi, ec⟩
    case round =>
      clear gi ec
      obtain ⟨i, hs, G, hgk, him, hi60, rfl, gi, ec⟩ := hrel
      by_cases hlt : i < m ∧ i < 60
      · obtain ⟨hlt, hlt2⟩ := hlt
        have hd : decide (i < m) = true := by simpa using hlt
        have hd2 : decide ((i : Int) < 60) = true := by simp; omega
        replace hgk := Lib.hid hgk
        obtain ⟨pb, po, rfl, hpb, pc, _⟩ := rd.at_ hlt
        have pcx : wr.cell? ⟨pb, po + i, none⟩ = some (.int .i64 (pk.getD i 0)) := (ec.el.bel.cell (p := ⟨pb, po + i, none⟩) hpb).trans pc
        obtain ⟨k, hk, hkn⟩ := modn (pk.getD i 0) n (by omega)
        have hv : Value.int .u64 ((IntKind.u64.wrap (pk.getD i 0)).tmod n) = .int .u64 (k : Int) := by rw [hk]
        generalize pk.getD i 0 = x at *
        clear hk pc
        have hkn2 : k < n := by omega
        obtain ⟨l, hl⟩ : ∃ l, G[k]? = some l := ⟨_, List.getElem?_eq_getElem (by rw [ec.el.eg.len]; exact hkn2)⟩
        obtain ⟨hll, _⟩ := gi l (List.mem_of_getElem? hl)
        have hiv : Value.int .u64 (IntKind.u64.wrap (i : Int)) = .int .u64 (i : Int) := by congr 1; rw [IntKind.wrap_u64]; omega
        have hk0 : (0 : Int) ≤ k := by omega
        go_wp2_with fail
        refine (EpGive_any w.heap.size b g h gr n k i (idleL n 0) hs G l _ ec.el.eg hkn2 hl (by omega) ec.el.bel.size).mono ?_
        rw [idle_at0]
        rintro e w4 ⟨hs4, rfl, eg4, up4⟩
        have ec4 := ec.gave eg4 up4
        have gi4 := gi.add hl hi60
        have ec5 := ec4.count k (l ++ [⟨i, 0⟩])
        have c1 := ec4.cn.cell k
        have c2 := ec4.cn.frozen k
        rw [cnts_at hl] at c1
        rw [List.length_append, List.length_singleton, show (((l.length + 1 : Nat)) : Int) = (l.length : Int) + 1 by omega] at ec5
        replace hl := Lib.hid hl
        generalize l.length = ll at *
        clear ec eg4 up4 pcx gi ec4
        go_wp2_with fail
        go_roundg (m - (i + 1))
        case measure => have := hgk.out; omega
        case rel => exact ⟨i + 1, hs4, _, rfl, by omega, by omega, by go_num, gi4, ec5⟩
      · have gi6 : GI 60 G := fun l hl => ⟨by have := (gi l hl).1; omega, (gi l hl).2⟩
        have hcond : decide (i < m) = false ∨ (decide (i < m) = true ∧ decide ((i : Int) < 60) = false) := by
          rcases Nat.lt_or_ge i m with h | h
          · exact .inr ⟨by simpa using h, by simp; omega⟩
          · exact .inl (by simp; omega)
        rcases hcond with hd | ⟨hd, hd2⟩
        · go_wp2_with fail
          go_meet
          exact ⟨hs, _, gi6, ec⟩
        · go_wp2_with fail
          go_meet
          exact ⟨hs, _, gi6, ec⟩
  case rest =>
    clear gi ec
    obtain ⟨hs, G, gi, ec⟩ := hcut
    have hwn1 : wrap64 ((n : Int) + 1) = (n : Int) + 1 := IntWalk.wrap64_in _ (by omega)
    have hwn2 : wrap64 ((n : Int) + 2) = (n : Int) + 2 := IntWalk.wrap64_in _ (by omega)
    go_wp2_with fail
    go_loopg [11] 2 (fun gk s11 wr => ∃ (r : Nat) (hs : List Value), gk = 2 - r ∧ r ≤ 2 ∧ s11 = .int .i64 r ∧ EC w b g h gr n cb (idleL n r) hs G G wr)
    case atStart => exact ⟨0, hs, rfl, by omega, rfl, ec⟩
    case round =>
      clear ec
      obtain ⟨r, hs, hgk, hr2, rfl, ec⟩ := hrel
      by_cases hlt : r < 2
      · have hd : decide ((r : Int) < 2) = true := by simp; omega
        replace hgk := Lib.hid hgk
        go_wp2_with fail
        go_loopg [12] n (fun gt s12 wx => ∃ (k : Nat) (hs : List Value), gt = n - k ∧ k ≤ n ∧ s12 = .int .i64 k ∧ EC w b g h gr n cb (idleL n r) hs G G wx)
        case atStart => exact ⟨0, hs, rfl, Nat.zero_le _, rfl, ec⟩
        case round =>
          clear ec
          obtain ⟨k, hs, hgt, hkn, rfl, ec⟩ := hrel
          by_cases hltk : k < n
          · have hd2 : decide (k < n) = true := by simpa using hltk
            replace hgt := Lib.hid hgt
            have hk0 : (0 : Int) ≤ k := by omega
            have hkn3 : (k : Int) < n := by omega
            obtain ⟨l, hl⟩ : ∃ l, G[k]? = some l := ⟨_, List.getElem?_eq_getElem (by rw [ec.el.eg.len]; exact hltk)⟩
            have gl := gi l (List.mem_of_getElem? hl)
            obtain ⟨tk, lv⟩ := takes_none gl (r := r) (by omega)
            have z2 : ∀ t : Tw (RestW w b g h gr n cb (idleL n r) G), t.w.cell? ⟨cb, k, none⟩ = some (.int .i64 l.length) := fun t => by
              obtain ⟨hs, hx⟩ := t.h
              rw [hx.cn.cell, cnts_at hl]
            have : Nonempty (Tw (RestW w b g h gr n cb (idleL n r) G)) := ⟨⟨_, hs, ec⟩⟩
            obtain ⟨ll, hll⟩ : ∃ ll, ll = l.length := ⟨_, rfl⟩
            rw [← hll] at z2
            go_wp2_with fail
            refine wp_region_plan (RestW w b g h gr n cb (idleL n r) G) [(0, true), (1, true), (3, true), (4, true), (5, true), (6, true), (2, false), (7, true), (8, true), (9, true), (10, true), (11, false), (12, true), (13, true), (14, true)] (by kernel_rfl) (by kernel_rfl) (by kernel_rfl) (by kernel_rfl) ⟨hs, ec.drew⟩ ?_
            refine wpPl_qs 6 _ _ _ (by kernel_rfl) (by kernel_rfl) (by simp) ?_
            unfold clsS
            simp only [List.take_succ_cons, List.take_zero, List.drop_succ_cons, List.drop_zero, List.filterMap_cons, List.filterMap_nil, List.getElem?_toArray, List.getElem?_cons_zero, List.getElem?_cons_succ]
            repeat (first
              | go_big_quiet_skip
              | (go_big_quiet_want; go_big_quiet_op; go_big_quiet_on)
              | (refine id (?_ : wpQuiet _ _ _ _ (_ :: _) _); first | go_big_quiet_skip | (go_big_quiet_want; go_big_quiet_op; go_big_quiet_on)))
            refine wpQuiet_nil ?_
            refine wpPl_e _ (by rfl) (by kernel_rfl) (fun K hK => ?_)
            go_simp
            refine (EpWaiting_any w.heap.size b g h gr n k (idleL n r) hs G l _ ec.drew.el.eg hltk hl).mono ?_
            rw [← hll]
            rintro e w4 ⟨rfl, rfl⟩
            refine hK _ _ ⟨hs, ec.drew⟩ ?_
            clear hK K
            refine wpPl_qs 4 _ _ _ (by kernel_rfl) (by kernel_rfl) (by simp) ?_
            unfold clsS
            simp only [List.take_succ_cons, List.take_zero, List.drop_succ_cons, List.drop_zero, List.filterMap_cons, List.filterMap_nil, List.getElem?_toArray, List.getElem?_cons_zero, List.getElem?_cons_succ]
            repeat (first
              | go_big_quiet_skip
              | (go_big_quiet_want; go_big_quiet_op; go_big_quiet_on)
              | (refine id (?_ : wpQuiet _ _ _ _ (_ :: _) _); first | go_big_quiet_skip | (go_big_quiet_want; go_big_quiet_op; go_big_quiet_on)))
            refine wpQuiet_nil ?_
            refine wpPl_e _ (by rfl) (by kernel_rfl) (fun K hK => ?_)
            go_simp
            refine (EpTake_any w.heap.size b g h gr n k (idleL n r) hs G l _ ec.drew.el.eg hltk hl (by omega) ec.drew.el.bel.size (fun x hx => u64_inr (by have := gl.2 x hx; omega)) (fun x hx => by have := gl.2 x hx; omega)).mono ?_
            rw [idle_at0, tk, lv, set_same_ hl]
            rintro e w4 ⟨v, hs4, rfl, own, eg4, up4⟩
            obtain ⟨A4, c4, rfl, _, _, _⟩ := own.form rfl
            have ec4 := ec.drew.gave eg4 up4
            refine hK _ _ ⟨hs4, ec4⟩ ?_
            clear hK K
            refine wpPl_qs 3 _ _ _ (by kernel_rfl) (by kernel_rfl) (by simp) ?_
            unfold clsS
            simp only [List.take_succ_cons, List.take_zero, List.drop_succ_cons, List.drop_zero, List.filterMap_cons, List.filterMap_nil, List.getElem?_toArray, List.getElem?_cons_zero, List.getElem?_cons_succ]
            repeat (first
              | go_big_quiet_skip
              | (go_big_quiet_want; go_big_quiet_op; go_big_quiet_on)
              | (refine id (?_ : wpQuiet _ _ _ _ (_ :: _) _); first | go_big_quiet_skip | (go_big_quiet_want; go_big_quiet_op; go_big_quiet_on)))
            refine wpQuiet_nil ?_
            unfold wpPl
            refine NoPanic.normal ?_
            clear z2 this own eg4 up4 ec tk lv
            go_wp2_with fail
            go_roundg (n - (k + 1))
            case measure => have := hgt.out; omega
            case rel => exact ⟨k + 1, hs4, rfl, by omega, by go_num, ec4⟩
          · obtain rfl : k = n := by omega
            clear hgt hkn hltk
            go_wp2_with fail
            refine (EpAdvance_any b _).mono ?_
            rintro e w5 ⟨sb, rfl, hsb, st, bel5⟩
            have hsb2 : w.heap.size ≤ sb := Nat.le_trans ec.el.bel.size hsb
            have ec5 := ec.bel' bel5
            have st5 : EsAt w5 sb (advS r 0) := st
            clear ec bel5 st hsb
            go_wp2_with fail
            go_loopg [14] (k + 2) (fun gt s14 wx => ∃ (t : Nat), gt = k + 2 - t ∧ t ≤ k + 2 ∧ s14 = .int .i64 t ∧ (if t ≤ k + 1 then EsAt wx sb (advS r t) ∧ EC w b g h gr k cb (idleL k r) hs G G wx else EsAt wx sb ⟨0, true, k + 2, r, true, true⟩ ∧ EC w b g h gr k cb (idleL k (r + 1)) hs G G wx))
            case atStart => exact ⟨0, rfl, Nat.zero_le _, rfl, by rw [if_pos (by omega)]; exact ⟨st5, ec5⟩⟩
            case round =>
              clear st5 ec5
              obtain ⟨t, hgt, htn, rfl, hif⟩ := hrel
              by_cases hlt3 : t ≤ k + 1
              · rw [if_pos hlt3] at hif
                obtain ⟨st, ec⟩ := hif
                have hd3 : decide ((t : Int) < (k : Int) + 2) = true := by simp; omega
                replace hgt := Lib.hid hgt
                go_wp2_with fail
                refine (EpDo_any b g h gr k sb (advS r t) (idleL k r) _ ec.el.eg.ep st (by show t ≤ 1000; omega) (fun h => by cases h) rfl).mono ?_
                by_cases hj2 : t ≤ k
                · rw [advs_go k r t hj2]
                  rintro e w6 ⟨rfl, es⟩
                  have ec6 := ec.step st hsb2 es
                  have st6 : EsAt w6 sb (advS r (t + 1)) := es.st
                  have hd4 : decide ((k : Int) + 1 ≤ (t : Int)) = false := by simp; omega
                  clear ec st es
                  simp only [show (advS (r : Int) (t + 1)).done = false from rfl]
                  go_wp2_with fail
                  go_roundg (k + 2 - (t + 1))
                  case measure => have := hgt.out; omega
                  case rel => exact ⟨t + 1, rfl, by omega, by go_num, by rw [if_pos (by omega)]; exact ⟨st6, ec6⟩⟩
                · obtain rfl : t = k + 1 := by omega
                  rw [advs_end k r (by omega)]
                  rintro e w6 ⟨rfl, es⟩
                  have ec6 := ec.step st hsb2 es
                  have st6 := es.st
                  have hd4 : decide ((k : Int) + 1 ≤ ((k + 1 : Nat) : Int)) = true := by simp
                  clear ec st es
                  simp only
                  go_wp2_with fail
                  go_roundg (k + 2 - (k + 1 + 1))
                  case measure => have := hgt.out; omega
                  case rel => exact ⟨k + 1 + 1, rfl, by omega, by go_num, by rw [if_neg (by omega)]; exact ⟨st6, ec6⟩⟩
              · rw [if_neg hlt3] at hif
                obtain ⟨st, ec⟩ := hif
                have hd3 : decide ((t : Int) < (k : Int) + 2) = false := by simp; omega
                go_wp2_with fail
                refine (EpWon_any sb _ _ st).mono ?_
                rintro e w6 ⟨rfl, rfl⟩
                simp only
                go_wp2_with fail
                go_roundg (2 - (r + 1))
                case measure => have := hgk.out; omega
                case rel => exact ⟨r + 1, hs, rfl, by omega, by go_num, ec⟩
      · obtain rfl : r = 2 := by omega
        clear hgk hlt
        go_wp2_with fail
        go_loopg [15] n (fun gt s15 wx => ∃ (k : Nat) (hs : List Value) (G' : List (List Th)), gt = n - k ∧ k ≤ n ∧ s15 = .int .i64 k ∧ (∀ j, k ≤ j → G'[j]? = G[j]?) ∧ EC w b g h gr n cb (idleL n 2) hs G' G wx)
        case atStart => exact ⟨0, hs, G, rfl, Nat.zero_le _, rfl, fun j _ => rfl, ec⟩
        case round =>
          clear ec
          obtain ⟨k, hs, G', hgt, hkn, rfl, hG, ec⟩ := hrel
          by_cases hltk : k < n
          · have hd2 : decide (k < n) = true := by simpa using hltk
            replace hgt := Lib.hid hgt
            have hk0 : (0 : Int) ≤ k := by omega
            have hkn3 : (k : Int) < n := by omega
            obtain ⟨l, hl'⟩ : ∃ l, G'[k]? = some l := ⟨_, List.getElem?_eq_getElem (by rw [ec.el.eg.len]; exact hltk)⟩
            have hl : G[k]? = some l := by rw [← hG k (Nat.le_refl _)]; exact hl'
            have gl := gi l (List.mem_of_getElem? hl)
            obtain ⟨tk, lv⟩ := takes_all gl
            have z2 : ∀ t : Tw (RestX w b g h gr n cb (idleL n 2) G), t.w.cell? ⟨cb, k, none⟩ = some (.int .i64 l.length) := fun t => by
              obtain ⟨hs, G', hx⟩ := t.h
              rw [hx.cn.cell, cnts_at hl]
            have : Nonempty (Tw (RestX w b g h gr n cb (idleL n 2) G)) := ⟨⟨_, hs, G', ec⟩⟩
            have hG2 : ∀ j, k + 1 ≤ j → (G'.set k [])[j]? = G[j]? := fun j hj => by rw [List.getElem?_set_ne (by omega)]; exact hG j (by omega)
            have hkl : k < G'.length := by rw [ec.el.eg.len]; exact hltk
            obtain ⟨ll, hll⟩ : ∃ ll, ll = l.length := ⟨_, rfl⟩
            rw [← hll] at z2
            replace hG2 := Lib.hid hG2
            replace hG := Lib.hid hG
            go_wp2_with fail
            refine wp_region_plan (RestX w b g h gr n cb (idleL n 2) G) [(0, true), (1, true), (4, true), (5, true), (6, true), (7, true), (2, false), (3, true), (8, true), (9, true), (10, true), (11, true), (12, false), (13, true), (14, true)] (by kernel_rfl) (by kernel_rfl) (by kernel_rfl) (by kernel_rfl) ⟨hs, G', ec.drew⟩ ?_
            refine wpPl_qs 6 _ _ _ (by kernel_rfl) (by kernel_rfl) (by simp) ?_
            unfold clsS
            simp only [List.take_succ_cons, List.take_zero, List.drop_succ_cons, List.drop_zero, List.filterMap_cons, List.filterMap_nil, List.getElem?_toArray, List.getElem?_cons_zero, List.getElem?_cons_succ]
            repeat (first
              | go_big_quiet_skip
              | (go_big_quiet_want; go_big_quiet_op; go_big_quiet_on)
              | (refine id (?_ : wpQuiet _ _ _ _ (_ :: _) _); first | go_big_quiet_skip | (go_big_quiet_want; go_big_quiet_op; go_big_quiet_on)))
            refine wpQuiet_nil ?_
            refine wpPl_e _ (by rfl) (by kernel_rfl) (fun K hK => ?_)
            go_simp
            refine (EpTake_any w.heap.size b g h gr n k (idleL n 2) hs G' l _ ec.drew.el.eg hltk hl' (by omega) ec.drew.el.bel.size (fun x hx => u64_inr (by have := gl.2 x hx; omega)) (fun x hx => by have := gl.2 x hx; omega)).mono ?_
            rw [idle_at0, lv]
            rintro e w4 ⟨v, hs4, rfl, own, eg4, up4⟩
            obtain ⟨A4, c4, rfl, _, _, _⟩ := own.form (n := ll) (by rw [tk, hll])
            have ec4 := ec.drew.gave eg4 up4
            refine hK _ _ ⟨hs4, _, ec4⟩ ?_
            clear hK K
            refine wpPl_qs 5 _ _ _ (by kernel_rfl) (by kernel_rfl) (by simp) ?_
            unfold clsS
            simp only [List.take_succ_cons, List.take_zero, List.drop_succ_cons, List.drop_zero, List.filterMap_cons, List.filterMap_nil, List.getElem?_toArray, List.getElem?_cons_zero, List.getElem?_cons_succ]
            repeat (first
              | go_big_quiet_skip
              | (go_big_quiet_want; go_big_quiet_op; go_big_quiet_on)
              | (refine id (?_ : wpQuiet _ _ _ _ (_ :: _) _); first | go_big_quiet_skip | (go_big_quiet_want; go_big_quiet_op; go_big_quiet_on)))
            refine wpQuiet_nil ?_
            refine wpPl_e _ (by rfl) (by kernel_rfl) (fun K hK => ?_)
            go_simp
            refine (EpWaiting_any w.heap.size b g h gr n k (idleL n 2) hs4 _ [] _ ec4.el.eg hltk (List.getElem?_set_self hkl)).mono ?_
            rintro e w5 ⟨rfl, rfl⟩
            refine hK _ _ ⟨hs4, _, ec4⟩ ?_
            clear hK K
            refine wpPl_qs 2 _ _ _ (by kernel_rfl) (by kernel_rfl) (by simp) ?_
            unfold clsS
            simp only [List.take_succ_cons, List.take_zero, List.drop_succ_cons, List.drop_zero, List.filterMap_cons, List.filterMap_nil, List.getElem?_toArray, List.getElem?_cons_zero, List.getElem?_cons_succ]
            repeat (first
              | go_big_quiet_skip
              | (go_big_quiet_want; go_big_quiet_op; go_big_quiet_on)
              | (refine id (?_ : wpQuiet _ _ _ _ (_ :: _) _); first | go_big_quiet_skip | (go_big_quiet_want; go_big_quiet_op; go_big_quiet_on)))
            refine wpQuiet_nil ?_
            unfold wpPl
            refine NoPanic.normal ?_
            clear z2 this own eg4 up4 ec tk lv
            go_wp2_with fail
            go_roundg (n - (k + 1))
            case measure => have := hgt.out; omega
            case rel => exact ⟨k + 1, hs4, _, rfl, by omega, by go_num, hG2.out, ec4⟩
          · have hd2 : decide (k < n) = false := by simp; omega
            go_wp2
            go_ret
            exact ⟨rfl, ec.el.bel⟩
theorem EpochRests_args (W : World) (args : Array Value) (hs : args.size = Try.f4.params.size) (hA : ∀ (j : Nat) t v, Try.f4.params[j]? = some t → args[j]? = some v → Arg Try.prog W t v) :
    Calls Try.prog 4 args W fun e W' => e = .returned (.bool true) ∧ Below W.heap.size W W' := by
  obtain ⟨v0, v1, rfl⟩ := args2 hs
  obtain ⟨x0, rfl, _⟩ := arg_int Try.underlying3 (hA 0 3 v0 rfl rfl)
  obtain ⟨A, len, cap, l, rfl, h1, h2, rd⟩ := arg_ints Try.underlying22 Try.underlying3 (by kernel_rfl) (hA 1 22 v1 rfl rfl)
  unfold maxLen at h2
  exact EpochRests_any x0 A len cap l W rd (by omega)

set_option maxRecDepth 100000 in
theorem EpochRests_lifted (os : Os) (started : os.Started) (H : Type) (enc : TypeId × Value → H) :
    ReturnsInHanded {} Try.checked os 4 .any (Rows.epochRestsSpec.pre6 enc Try.prog Try.f4 Rows.epochRestsRow.domain false) (Rows.epochRestsSpec.post enc Try.prog Try.f4 false true false false) :=
  law_lifted os started H enc (by kernel_rfl) Try.func4 rfl rfl (fun H ds h => by match ds, h with | [_, _], _ => exact ⟨rfl, rfl, rfl⟩) (by kernel_rfl)
    (ChangeSpec.witness6 (enc := enc) (C := Try.checked) false ⟨#[], #[.int .i64 0, .slice none 0 0], []⟩ 8 (by kernel_rfl) (by kernel_rfl) (by kernel_rfl) (by kernel_rfl))
    EpochRests_args

/-- the statement -/
theorem epochRests_holds : Rows.EpochRestsSaid :=
  OpenClaim.holds_of_wide 4 Try.f4 rfl rfl rfl rfl rfl rfl rfl ⟨rfl, rfl, rfl, rfl, rfl⟩ rfl rfl rfl rfl rfl (by kernel_rfl) Try.func4 (by kernel_rfl)
    (of_decide_eq_true (by kernel_rfl)) (by unfold Func.isWrapper; first | (rw [if_pos (by decide +kernel)]; kernel_rfl) | (rw [if_neg (by decide +kernel)]; exact ⟨rfl, rfl⟩))
    (fun os started H enc _ => EpochRests_lifted os started H enc)

end Go.Proofs.Ytfcldnojmmhekaa
