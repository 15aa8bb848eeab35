/- Every input of EpochPinned answers true, and reads behind the call as it read before. No condition. -/
import Derived.Test.YtfcldnojmmhekaaPinPlain
import Derived.Test.YtfcldnojmmhekaaFrame
import Derived.Deep.CutBlock
import Derived.RegionTactic
import Derived.Outline
namespace Go.Proofs.Ytfcldnojmmhekaa
set_option linter.unusedVariables false
set_option linter.unusedSimpArgs false
open Go.RowKit
attribute [local irreducible] Es.does
/-- a Pin of worker 0 that has done t steps -/
def pinA (E : Int) (t : Nat) : Es := ⟨0, false, t, if t = 0 then 0 else E, false, false⟩
def pinL (n : Nat) (E : Int) (t : Nat) : List Int := if t ≤ 1 then idleL n E else celSet (idleL n E) 1 (E + 1)
theorem pina_go (n : Nat) (E : Int) (t : Nat) (ht : t ≤ 1) (hE : 0 ≤ E ∧ E ≤ 1000) : (pinA E t).does n (pinL n E t) = (pinA E (t + 1), pinL n E (t + 1)) := by
  have hw : IntKind.u64.wrap (E + 1) = E + 1 := by rw [IntKind.wrap_u64]; omega
  unfold Es.does pinA
  simp only [Bool.false_eq_true, if_false]
  unfold Es.pins
  have : t = 0 ∨ t = 1 := by omega
  rcases this with rfl | rfl
  · simp [pinL, idle_at0]
  · simp [pinL, hw]
theorem pinl_now (n : Nat) (E : Int) : celAt (pinL n E 2) 0 = E := by
  have := celAt_set_ne (idleL n E) (i := 0) (j := 1) (E + 1) (by omega)
  unfold pinL
  rw [if_neg (by omega)]
  exact this.trans (idle_at0 n E)
theorem pina_end (n : Nat) (E : Int) : (pinA E 2).does n (pinL n E 2) = (⟨0, false, 0, E, true, false⟩, pinL n E 2) := by
  unfold Es.does pinA
  simp only [Bool.false_eq_true, if_false]
  unfold Es.pins
  rw [pinl_now]
  simp
theorem pini_new (n E : Nat) (hn : 1 ≤ n) : PinI n E E (pinL n E 2) := by
  refine ⟨?_, pinl_now n E, ?_, Nat.le_refl _, Nat.le_succ _⟩
  · unfold pinL; rw [if_neg (by omega), celSet_length]; simp [idleL]
  · have := celAt_set_self (idleL n E) (i := 1) ((E : Int) + 1) (by simp [idleL]; omega)
    unfold pinL; rw [if_neg (by omega)]; exact this
/-- the steps in flight, and the cells, of others than worker 0 -/
structure PR (w0 : World) (b g h gr n lb E : Nat) (hs : List Value) (G : List (List Th)) (E' : Nat) (L : List Int) (ps : List (Option (Nat × Es))) (W : World) : Prop where
  el : EL w0 b g h gr n L hs G W
  sl : SL W w0.heap.size lb ps
  i : PinI n E E' L
  s : ∀ (j : Nat) sb s, ps[j]? = some (some (sb, s)) → PinS n E j s
  len : ps.length = n
  hlb : w0.heap.size ≤ lb
section
variable {w0 W W' : World} {b g h gr n lb E : Nat} {hs : List Value} {G : List (List Th)} {E' : Nat} {L : List Int} {ps : List (Option (Nat × Es))}
theorem pins_set {k : Nat} (hS : ∀ (j : Nat) sb s, ps[j]? = some (some (sb, s)) → PinS n E j s) {p : Option (Nat × Es)} (hp : ∀ sb s, p = some (sb, s) → PinS n E k s) : ∀ (j : Nat) sb s, (ps.set k p)[j]? = some (some (sb, s)) → PinS n E j s := fun j sb s h => by
  by_cases hj : j = k
  · subst hj
    have hl : j < ps.length := by have := (List.getElem?_eq_some_iff.1 h).1; simpa using this
    rw [List.getElem?_set_self hl] at h
    exact hp sb s (Option.some.inj h)
  · rw [List.getElem?_set_ne (Ne.symm hj)] at h
    exact hS j sb s h
theorem PR.fresh (k : PR w0 b g h gr n lb E hs G E' L ps W) (hb : Below W.heap.size W W') (i : Nat) {sb : Nat} {s : Es} (hsb : W.heap.size ≤ sb) (st : EsAt W' sb s) (hp : PinS n E i s) :
    PR w0 b g h gr n lb E hs G E' L (ps.set i (some (sb, s))) (W'.setCell ⟨lb, i, none⟩ (.pointer (some ⟨sb, 0, none⟩))) := by
  obtain ⟨sl, up⟩ := k.sl.fresh hb i hsb st k.el.bel.size
  exact ⟨(k.el.bel' hb).slot (k.sl.bel hb) k.hlb up, sl, k.i, pins_set k.s (fun sb' s' e => by
    simp only [Option.some.injEq, Prod.mk.injEq] at e
    rw [← e.2]; exact hp), by rw [List.length_set]; exact k.len, k.hlb⟩
theorem PR.drop (k : PR w0 b g h gr n lb E hs G E' L ps W) (i : Nat) : PR w0 b g h gr n lb E hs G E' L (ps.set i none) (W.setCell ⟨lb, i, none⟩ (.pointer none)) := by
  obtain ⟨sl, up⟩ := k.sl.drop i
  exact ⟨k.el.slot k.sl k.hlb up, sl, k.i, pins_set k.s (fun sb s e => by cases e), by rw [List.length_set]; exact k.len, k.hlb⟩
theorem PR.unpin (k : PR w0 b g h gr n lb E hs G E' L ps W) {x : Nat} (hx : 1 ≤ x) (ep : EpAt W' b g h gr n (celSet L (1 + (x : Int)) 0)) (up : Upd (fun y => y = h) W W') :
    PR w0 b g h gr n lb E hs G E' (celSet L (1 + (x : Int)) 0) ps W' :=
  ⟨k.el.unpin ep up, k.sl.other up (fun y hy => by subst hy; exact ⟨_, _, k.el.eg.ep.cel.row, by decide, by decide⟩), k.i.setk x 0 hx, k.s, k.len, k.hlb⟩
theorem PR.does (k : PR w0 b g h gr n lb E hs G E' L ps W) {j sb : Nat} {s : Es} (hj : ps[j]? = some (some (sb, s))) (h1 : 1 ≤ j) (h2 : j < n) (hE : E ≤ 1000) :
    Calls Try.prog 11 #[.pointer (some ⟨b, 0, none⟩), .pointer (some ⟨sb, 0, none⟩)] W fun e w' => ∃ (s' : Es) (L' : List Int) (E1 : Nat), e = .returned (.bool s'.done) ∧
      (s'.done = false → PR w0 b g h gr n lb E hs G E1 L' (ps.set j (some (sb, s'))) w') ∧
      (s'.done = true → SL w' w0.heap.size lb (ps.set j (some (sb, s'))) ∧ PR w0 b g h gr n lb E hs G E1 L' (ps.set j none) (w'.setCell ⟨lb, j, none⟩ (.pointer none))) := by
  obtain ⟨st, hsb⟩ := k.sl.st j sb s hj
  have p := k.s j sb s hj
  obtain ⟨s', L', E1, hdo, i', hs'⟩ := k.i.does p h1 hE
  have n2 := k.el.eg.ep.n2
  refine (EpDo_any b g h gr n sb s L W k.el.eg.ep st (by
    cases ha : s.adv with
    | true => have := (p.a ha).1; omega
    | false => have := (p.p ha).2; omega) (fun ha => by have := p.p ha; omega) p.d).mono ?_
  rw [hdo]
  rintro e w' ⟨rfl, es⟩
  have el' := k.el.step st hsb es
  have sl' := k.sl.does hj k.el.eg.ep es
  refine ⟨s', L', E1, rfl, fun hd => ⟨el', sl', i', pins_set k.s (fun sb2 s2 e => by
    simp only [Option.some.injEq, Prod.mk.injEq] at e
    rw [← e.2]; exact hs' hd), by rw [List.length_set]; exact k.len, k.hlb⟩, fun hd => ⟨sl', ?_⟩⟩
  obtain ⟨sl2, up⟩ := sl'.drop j
  rw [List.set_set] at sl2
  exact ⟨el'.slot sl' k.hlb up, sl2, i', pins_set k.s (fun sb s e => by cases e), by rw [List.length_set]; exact k.len, k.hlb⟩
end
set_option maxRecDepth 100000 in
set_option maxHeartbeats 1000000 in
theorem EpochPinned_any (x0 x1 : Int) (A : Option Addr) (m cap : Nat) (pk : List Int) (w : World) (rd : Rd .i64 w w.heap.size A m pk) (hmx : m ≤ 9223372036854775807) :
    Calls Try.prog 5 #[.int .i64 x0, .int .i64 x1, .slice A m cap] w fun e w' => e = .returned (.bool true) ∧ Below w.heap.size w w' := by
  obtain ⟨q, hq, hq8⟩ := modn x0 6 (by omega)
  obtain ⟨ah, hah, hah5⟩ := modn x1 5 (by omega)
  obtain ⟨n1, hn1⟩ : ∃ n1 : Nat, n1 = 1 + q := ⟨_, rfl⟩
  obtain ⟨n, hn⟩ : ∃ n : Nat, n = n1 + 1 := ⟨_, rfl⟩
  have hqv : (Value.int .u64 ((IntKind.u64.wrap x0).tmod 6)) = .int .u64 q := by rw [hq]
  have hav : (Value.int .u64 ((IntKind.u64.wrap x1).tmod 5)) = .int .u64 ah := by rw [hah]
  have hw2 : 2 + (q : Int) = (n : Int) := by omega
  have hn2 : 2 ≤ n := by omega
  have hn7 : n ≤ 7 := by omega
  have hn1b : 1 ≤ n1 ∧ n1 ≤ 6 := by omega
  obtain ⟨hn11, hn16⟩ := hn1b
  have hnsub : IntKind.i64.wrap ((n : Int) - 1) = (n1 : Int) := by rw [show (n : Int) - 1 = (n1 : Int) by omega]; exact IntWalk.i64_in _ (by omega)
  have hn1u : Value.int .u64 (IntKind.u64.wrap (n1 : Int)) = .int .u64 (n1 : Int) := by congr 1; rw [IntKind.wrap_u64]; omega
  obtain ⟨i0, hi, hz0, hz1, hz2⟩ := info_parts info_pstep
  have hmk := fun W => make_one (P := Try.prog) 29 30 i0 _ Try.underlying29 hi hz0 hz1 rfl .i64 .i64 n (by rw [hz2]; omega) (by omega) W
  clear hq hah hz0 hz1 hz2
  replace hn := Lib.hid hn
  replace hn1 := Lib.hid hn1
  replace hnsub := Lib.hid hnsub
  replace hn1u := Lib.hid hn1u
  go_enter Try.func5, Try.ntmps5
  go_wp2_with fail
  refine (EpNew_yes n _ (by omega) (by omega)).mono ?_
  rintro e w1 ⟨b, g, h, gr, rfl, bel, hb, hh, hgr, ep, gv⟩
  rw [idle_new] at ep
  have el1 : EL w b g h gr n (idleL n 0) _ _ w1 := ⟨⟨ep, gv, by simp⟩, hh, hgr, bel⟩
  clear ep gv bel hqv hw2 hq8
  generalize List.replicate n (Value.slice none 0 0) = hs at *
  generalize List.replicate n ([] : List Th) = G at *
  go_wp2_with fail
  refine (moves_any _).mono ?_
  rintro e w2 ⟨rfl, bel2⟩
  have el2 := el1.bel' bel2
  clear el1 bel2
  go_wp2_with fail
  go_loopg [10] ah (fun gk s10 wr => ∃ (E : Nat), gk = ah - E ∧ E ≤ ah ∧ s10 = .int .i64 E ∧ EL w b g h gr n (idleL n E) hs G wr)
  case atStart => exact ⟨0, rfl, Nat.zero_le _, rfl, el2⟩
  case round =>
    clear el2
    obtain ⟨E, hgk, hEa, rfl, el⟩ := hrel
    by_cases hlt : E < ah
    · have hd : decide (E < ah) = true := by simpa using hlt
      replace hgk := Lib.hid hgk
      go_wp2_with fail
      refine (EpAdvance_any b _).mono ?_
      rintro e w5 ⟨sb, rfl, hsb, st, bel5⟩
      have hsb2 : w.heap.size ≤ sb := Nat.le_trans el.bel.size hsb
      have el5 := el.bel' bel5
      have st5 : EsAt w5 sb (advS E 0) := st
      clear el bel5 st hsb
      go_wp2_with fail
      go_loopg [12] 20 (fun gt s12 wx => ∃ (t : Nat), gt = 20 - t ∧ t ≤ n + 1 ∧ s12 = .int .i64 t ∧ EsAt wx sb (advS E t) ∧ EL w b g h gr n (idleL n E) hs G wx)
      case atStart => exact ⟨0, rfl, Nat.zero_le _, rfl, st5, el5⟩
      case round =>
        clear st5 el5
        obtain ⟨t, hgt, htn, rfl, st, el⟩ := hrel
        have hd3 : decide ((t : Int) < (n : Int) + 5) = true := by simp; omega
        replace hgt := Lib.hid hgt
        go_wp2_with fail
        refine (EpDo_any b g h gr n sb (advS E t) (idleL n E) _ el.eg.ep st (by show t ≤ 1000; omega) (fun h => by cases h) rfl).mono ?_
        by_cases hj2 : t ≤ n
        · rw [advs_go n E t hj2]
          rintro e w6 ⟨rfl, es⟩
          have el6 := el.step st hsb2 es
          have st6 : EsAt w6 sb (advS E (t + 1)) := es.st
          clear el st es
          simp only [show (advS (E : Int) (t + 1)).done = false from rfl]
          go_wp2_with fail
          go_roundg (20 - (t + 1))
          case measure => have := hgt.out; omega
          case rel => exact ⟨t + 1, rfl, by omega, by go_num, st6, el6⟩
        · obtain rfl : t = n + 1 := by omega
          rw [advs_end n E (by omega), show (E : Int) + 1 = ((E + 1 : Nat) : Int) by omega]
          rintro e w6 ⟨rfl, es⟩
          have el6 := el.step st hsb2 es
          clear el st es
          simp only
          go_wp2_with fail
          go_roundg (ah - (E + 1))
          case measure => have := hgk.out; omega
          case rel => exact ⟨E + 1, rfl, by omega, by go_num, el6⟩
    · obtain rfl : E = ah := by omega
      clear hgk hEa hlt
      go_wp2_with fail
      clear hav
      refine (EpPin_any 0 b g h gr n (idleL n E) _ el.eg.ep (by omega)).mono ?_
      rintro e w5 ⟨sb, rfl, hsb, st, bel5⟩
      have hsb2 : w.heap.size ≤ sb := Nat.le_trans el.bel.size hsb
      have el5 : EL w b g h gr n (pinL n E 0) hs G w5 := el.bel' bel5
      have st5 : EsAt w5 sb (pinA E 0) := st
      clear el bel5 st hsb
      go_wp2_with fail
      go_loopg [14] 20 (fun gt s14 wx => ∃ (t : Nat), gt = 20 - t ∧ t ≤ 2 ∧ s14 = .int .i64 t ∧ EsAt wx sb (pinA E t) ∧ EL w b g h gr n (pinL n E t) hs G wx)
      case atStart => exact ⟨0, rfl, Nat.zero_le _, rfl, st5, el5⟩
      case round =>
        clear st5 el5
        obtain ⟨t, hgt, htn, rfl, st, el⟩ := hrel
        have hd3 : decide ((t : Int) < 5) = true := by simp; omega
        replace hgt := Lib.hid hgt
        go_wp2_with fail
        refine (EpDo_any b g h gr n sb (pinA E t) (pinL n E t) _ el.eg.ep st (by show t ≤ 1000; omega) (fun h => ⟨by show t ≤ 2; omega, by show (0 : Int) ≤ 0; omega, by show (0 : Int) < n; omega⟩) rfl).mono ?_
        by_cases hj2 : t ≤ 1
        · rw [pina_go n E t hj2 (by omega)]
          rintro e w6 ⟨rfl, es⟩
          have el6 := el.step st hsb2 es
          have st6 : EsAt w6 sb (pinA E (t + 1)) := es.st
          clear el st es
          simp only [show (pinA (E : Int) (t + 1)).done = false from rfl]
          go_wp2_with fail
          go_roundg (20 - (t + 1))
          case measure => have := hgt.out; omega
          case rel => exact ⟨t + 1, rfl, by omega, by go_num, st6, el6⟩
        · obtain rfl : t = 2 := by omega
          rw [pina_end n E]
          rintro e w6 ⟨rfl, es⟩
          have el6 := el.step st hsb2 es
          have pi := pini_new n E (by omega)
          clear el st es hd3 hgt htn hj2 hsb2
          generalize pinL n E 2 = L at *
          simp only
          go_wp2_with fail
          refine (EpNow_any b g h gr n L _ el6.eg.ep E pi.now (by omega)).mono ?_
          rintro e w7 ⟨rfl, rfl⟩
          go_wp2_with fail
          refine (EpPinned_any 0 b g h gr n L _ el6.eg.ep (by omega) (E + 1) (by have := pi.pin; rw [show (1 + 0 : Int) = 1 from rfl, this]; omega) (by omega)).mono ?_
          rw [show (((E + 1 : Nat)) : Int) - 1 = (E : Int) by omega]
          rintro e w7 ⟨rfl, rfl⟩
          have hlb : w.heap.size ≤ w6.heap.size := el6.bel.size
          have sl2 := SL.new w6 w.heap.size n
          have el7 := el6.bel' (bel_alloc w6 (.cells (Array.replicate n (.pointer none)) 30))
          have pr0 : PR w b g h gr n w6.heap.size E hs G E L (List.replicate n none) (w6.alloc (.cells (Array.replicate n (.pointer none)) 30)) :=
            ⟨el7, sl2, pi, fun j sb s hj => (by have := (List.mem_replicate.1 (List.mem_of_getElem? hj)).2; cases this), by simp, hlb⟩
          clear el6 sl2 el7 pi
          go_upto_block 6 with fail
          clear hmk
          generalize w6.alloc (.cells (Array.replicate n (.pointer none)) 30) = w7 at *
          generalize w6.heap.size = lb at *
          generalize (List.replicate n none : List (Option (Nat × Es))) = ps at *
          go_cut [17] (fun s17 wx => ∃ (E1 : Nat) (L : List Int) (ps : List (Option (Nat × Es))), PR w b g h gr n lb E hs G E1 L ps wx)
          case first =>
            go_wp2_with fail
            go_loopg [17] m (fun gk s17 wr => ∃ (i : Nat), gk = m - i ∧ i ≤ m ∧ i ≤ 100 ∧ s17 = .int .i64 i ∧ ∃ (E1 : Nat) (L : List Int) (ps : List (Option (Nat × Es))), PR w b g h gr n lb E hs G E1 L ps wr)
            case atStart => exact ⟨0, rfl, Nat.zero_le _, by omega, rfl, _, _, _, pr0⟩
            case round =>
              clear pr0
              obtain ⟨i, hgk, him, hi100, rfl, E', L, ps, pr⟩ := hrel
              by_cases hlt : i < m ∧ i < 100
              · obtain ⟨hlt, hlt2⟩ := hlt
                have hd : decide (i < m) = true := by simpa using hlt
                have hd2 : decide ((i : Int) < 100) = true := by simp; omega
                replace hgk := Lib.hid hgk
                obtain ⟨pb, po, rfl, hpb, pc, _⟩ := rd.at_ hlt
                have pcx : wr.cell? ⟨pb, po + i, none⟩ = some (.int .i64 (pk.getD i 0)) := (pr.el.bel.cell (p := ⟨pb, po + i, none⟩) hpb).trans pc
                obtain ⟨k0, hk0, hk0n⟩ := modn (pk.getD i 0) n1 (by omega)
                have hv : Value.int .u64 ((IntKind.u64.wrap (pk.getD i 0)).tmod n1) = .int .u64 (k0 : Int) := by rw [hk0]
                obtain ⟨k, hk⟩ : ∃ k : Nat, k = 1 + k0 := ⟨_, rfl⟩
                have hk1 : 1 + (k0 : Int) = (k : Int) := by omega
                have hk2 : 1 ≤ k := by omega
                have hk3 : k < n := by have := hn.out; omega
                have hk4 : (k : Int) < n := by omega
                have hk5 : (0 : Int) ≤ k := by omega
                generalize hx : pk.getD i 0 = x at *
                clear hk0
                replace hk := Lib.hid hk
                replace hx := Lib.hid hx
                have hnsub2 := hnsub.out
                have hn1u2 := hn1u.out
                obtain ⟨p, hp⟩ : ∃ p, ps[k]? = some p := ⟨_, List.getElem?_eq_getElem (by rw [pr.len]; exact hk3)⟩
                obtain ⟨c1, c2⟩ := pr.sl.cell hp
                obtain ⟨pp, hpp⟩ : ∃ pp, pcell p = .pointer pp := by cases p with
                  | none => exact ⟨_, rfl⟩
                  | some q => exact ⟨_, rfl⟩
                rw [hpp] at c1
                replace hpp := Lib.hid hpp
                replace hp := Lib.hid hp
                go_upto_if 106 with fail
                go_cut [17] (fun s17 wx => s17 = .int .i64 i ∧ ∃ (E1 : Nat) (L : List Int) (ps : List (Option (Nat × Es))) (sb : Nat) (s : Es), ps[k]? = some (some (sb, s)) ∧ PR w b g h gr n lb E hs G E1 L ps wx)
                case first =>
                  cases p with
                  | some q =>
                    obtain ⟨sb2, s2⟩ := q
                    have hpp2 := hpp.out
                    simp only [pcell, Value.pointer.injEq] at hpp2
                    subst hpp2
                    go_wp2_with fail
                    go_meet
                    exact ⟨rfl, _, _, _, _, _, hp.out, pr⟩
                  | none =>
                    have hpp2 := hpp.out
                    simp only [pcell, Value.pointer.injEq] at hpp2
                    subst hpp2
                    have hkl : k < ps.length := by rw [pr.len]; exact hk3
                    go_wp2_with fail
                    refine (EpAdvance_any b _).mono ?_
                    rintro e w8 ⟨sb2, rfl, hsb2, st2, bel8⟩
                    have pr8 := pr.fresh bel8 k hsb2 st2 (pins_adv n E k)
                    have cx8 : w8.cell? ⟨lb, k, none⟩ = some (.pointer none) := by
                      have := ((pr.sl.bel bel8).cell hp.out).1; exact this
                    have cf8 := ((pr.sl.bel bel8).cell hp.out).2
                    have hp8 : (ps.set k (some (sb2, (⟨0, true, 0, 0, false, false⟩ : Es))))[k]? = some (some (sb2, ⟨0, true, 0, 0, false, false⟩)) := List.getElem?_set_self hkl
                    replace hp8 := Lib.hid hp8
                    clear pr bel8 st2 c1 c2 pcx
                    generalize hw9 : w8.setCell ⟨lb, k, none⟩ (.pointer (some ⟨sb2, 0, none⟩)) = w9 at pr8
                    replace hw9 := Lib.hid hw9
                    go_upto_region 26 with fail
                    rw [hw9.out]
                    clear cx8 cf8 hw9
                    have pcx9 : w9.cell? ⟨pb, po + i, none⟩ = some (.int .i64 x) := (pr8.el.bel.cell (p := ⟨pb, po + i, none⟩) hpb).trans pc
                    obtain ⟨c91, c92⟩ := pr8.sl.cell hp8.out
                    simp only [pcell] at c91
                    cases h3 : ((x.tmod 3) == 0) with
                    | false =>
                      go_wp2_with fail
                      go_meet
                      exact ⟨rfl, _, _, _, _, _, hp8.out, pr8⟩
                    | true =>
                      go_wp2_with fail
                      refine (EpPin_any k b g h gr n _ _ pr8.el.eg.ep ⟨hk5, hk4⟩).mono ?_
                      rintro e w10 ⟨sb3, rfl, hsb3, st3, bel10⟩
                      have pr10 := pr8.fresh bel10 k hsb3 st3 (pins_pin n E k)
                      have cx10 := ((pr8.sl.bel bel10).cell hp8.out)
                      obtain ⟨cx10, cf10⟩ := cx10
                      simp only [pcell] at cx10
                      have hp10 := List.getElem?_set_self (l := ps.set k (some (sb2, (⟨0, true, 0, 0, false, false⟩ : Es)))) (i := k) (a := some (sb3, (⟨k, false, 0, 0, false, false⟩ : Es))) (by rw [List.length_set]; exact hkl)
                      replace hp10 := Lib.hid hp10
                      clear pr8 bel10 st3 c91 c92 pcx9
                      go_wp2_with fail
                      go_meet
                      exact ⟨rfl, _, _, _, _, _, hp10.out, pr10⟩
                case rest =>
                  clear pr hp hpp pp c1 c2 p
                  obtain ⟨rfl, E1, L, ps, sb2, s2, hp, pr⟩ := hcut
                  have hkl : k < ps.length := by rw [pr.len]; exact hk3
                  obtain ⟨c1, c2⟩ := pr.sl.cell hp
                  simp only [pcell] at c1
                  go_wp2_with fail
                  refine (pr.does hp hk2 hk3 (by omega)).mono ?_
                  rintro e w8 ⟨s8, L8, E8, rfl, hnd, hdn⟩
                  clear pr c1 c2 pcx
                  go_upto_if 129 with fail
                  go_cut [17] (fun s17 wx => s17 = .int .i64 i ∧ ∃ (E1 : Nat) (L : List Int) (ps : List (Option (Nat × Es))), PR w b g h gr n lb E hs G E1 L ps wx)
                  case first =>
                    cases hd8 : s8.done with
                    | false =>
                      have pr8 := hnd hd8
                      clear hnd hdn
                      go_wp2_with fail
                      go_meet
                      exact ⟨rfl, _, _, _, pr8⟩
                    | true =>
                      obtain ⟨sl8, pr9⟩ := hdn hd8
                      have cx8 := sl8.cell (i := k) (List.getElem?_set_self hkl)
                      obtain ⟨cx8, cf8⟩ := cx8
                      simp only [pcell] at cx8
                      clear hnd hdn hd8 sl8
                      generalize hw9 : w8.setCell ⟨lb, k, none⟩ (.pointer none) = w9 at pr9
                      replace hw9 := Lib.hid hw9
                      go_upto_region 30 with fail
                      rw [hw9.out]
                      clear cx8 cf8 hw9
                      go_wp2_with fail
                      refine (EpUnpin_any k b g h gr n _ _ pr9.el.eg.ep ⟨hk5, hk4⟩).mono ?_
                      rintro e w10 ⟨rfl, ep10, up10⟩
                      have pr10 := pr9.unpin hk2 ep10 up10
                      clear pr9 ep10 up10
                      go_wp2_with fail
                      go_meet
                      exact ⟨rfl, _, _, _, pr10⟩
                  case rest =>
                    clear hnd hdn hp hkl s8 L8 E8 L ps E1
                    obtain ⟨rfl, E1, L, ps, pr⟩ := hcut
                    have hlo := pr.i.lo
                    have hhi := pr.i.hi
                    have hd5 : decide (E1 < E) = false := by simp; omega
                    have hd6 : decide ((E : Int) + 1 < (E1 : Int)) = false := by simp; omega
                    have hnow := fun (w8 : World) (pr : PR w b g h gr n lb E hs G E1 L ps w8) => EpNow_any b g h gr n L w8 pr.el.eg.ep E1 pr.i.now (by omega)
                    have hpin := fun (w8 : World) (pr : PR w b g h gr n lb E hs G E1 L ps w8) => EpPinned_any 0 b g h gr n L w8 pr.el.eg.ep (by omega) (E + 1) (by have := pr.i.pin; rw [show (1 + 0 : Int) = 1 from rfl, this]; omega) (by omega)
                    rw [show (((E + 1 : Nat)) : Int) - 1 = (E : Int) by omega] at hpin
                    replace hnow := Lib.hid hnow
                    replace hpin := Lib.hid hpin
                    clear hlo hhi
                    go_wp2_with (first
                      | (go_at_call 13; refine (hnow.out _ pr).mono ?_; rintro e w9 ⟨rfl, rfl⟩)
                      | (go_at_call 18; refine (hpin.out _ pr).mono ?_; rintro e w9 ⟨rfl, rfl⟩))
                    go_roundg (m - (i + 1))
                    case measure => have := hgk.out; omega
                    case rel => exact ⟨i + 1, rfl, by omega, by omega, by go_num, _, _, _, pr⟩
              · have hcond : decide (i < m) = false ∨ (decide (i < m) = true ∧ decide ((i : Int) < 100) = false) := by
                  rcases Nat.lt_or_ge i m with h | h
                  · exact .inr ⟨by simpa using h, by simp; omega⟩
                  · exact .inl (by simp; omega)
                rcases hcond with hd | ⟨hd, hd2⟩
                · go_wp2_with fail
                  go_meet
                  exact ⟨E', _, _, pr⟩
                · go_wp2_with fail
                  go_meet
                  exact ⟨E', _, _, pr⟩
          case rest =>
            clear pr0
            obtain ⟨E', L, ps, pr⟩ := hcut
            have el7 := pr.el
            have hE' : E' ≤ 10 := by have := pr.i.hi; omega
            have hnow7 : L.length = n + 1 ∧ celAt L 0 = (E' : Int) := ⟨pr.i.len, pr.i.now⟩
            clear pr
            go_wp2_with fail
            refine (EpUnpin_any 0 b g h gr n _ _ el7.eg.ep (by omega)).mono ?_
            rintro e w8 ⟨rfl, ep8, up8⟩
            have el8 := el7.unpin ep8 up8
            have hz8 : (celSet L (1 + 0) 0).length = n + 1 ∧ celAt (celSet L (1 + 0) 0) 0 = (E' : Int) ∧ ∀ j : Nat, 1 ≤ j → j ≤ 1 → celAt (celSet L (1 + 0) 0) (j : Int) = 0 := by
              refine ⟨by rw [celSet_length]; exact hnow7.1, ?_, fun j h1 h2 => ?_⟩
              · have := celAt_set_ne L (i := 0) (j := 1) 0 (by omega)
                exact this.trans hnow7.2
              · obtain rfl : j = 1 := by omega
                exact celAt_set_self L (i := 1) 0 (by have := hnow7.1; omega)
            clear el7 ep8 up8 hnow7
            go_wp2_with fail
            go_loopg [19] (n - 1) (fun gk s19 wr => ∃ (k : Nat) (L : List Int), gk = n - k ∧ 1 ≤ k ∧ k ≤ n ∧ s19 = .int .i64 k ∧ L.length = n + 1 ∧ celAt L 0 = (E' : Int) ∧ (∀ j : Nat, 1 ≤ j → j ≤ k → celAt L (j : Int) = 0) ∧ EL w b g h gr n L hs G wr)
            case atStart => exact ⟨1, _, rfl, Nat.le_refl _, by omega, rfl, hz8.1, hz8.2.1, hz8.2.2, el8⟩
            case round =>
              clear el8 hz8
              obtain ⟨k, L, hgk, hk1, hkn, rfl, hL, hL0, hz, el⟩ := hrel
              by_cases hlt : k < n
              · have hd : decide (k < n) = true := by simpa using hlt
                replace hgk := Lib.hid hgk
                replace hL := Lib.hid hL
                replace hL0 := Lib.hid hL0
                replace hz := Lib.hid hz
                go_wp2_with fail
                refine (EpUnpin_any k b g h gr n _ _ el.eg.ep (by omega)).mono ?_
                rintro e w9 ⟨rfl, ep9, up9⟩
                have el9 := el.unpin ep9 up9
                rw [show (1 + (k : Int)) = ((k + 1 : Nat) : Int) by omega] at el9
                clear el ep9 up9
                go_wp2_with fail
                go_roundg (n - (k + 1))
                case measure => have := hgk.out; omega
                case rel =>
                  refine ⟨k + 1, _, rfl, by omega, by omega, by go_num, by rw [celSet_length]; exact hL.out, ?_, fun j h1 h2 => ?_, el9⟩
                  · have := celAt_set_ne L (i := 0) (j := k + 1) 0 (by omega)
                    exact this.trans hL0.out
                  · by_cases hj : j = k + 1
                    · subst hj
                      exact celAt_set_self L 0 (by have := hL.out; omega)
                    · rw [celAt_set_ne L 0 (by omega)]
                      exact hz.out j h1 (by omega)
              · obtain rfl : k = n := by omega
                obtain rfl := idle_of hL hL0 hz
                clear hL hL0 hz hgk hk1 hkn hlt
                go_wp2_with fail
                refine (EpNow_any b g h gr k _ _ el.eg.ep E' (idle_at0 k _) (by omega)).mono ?_
                rintro e w9 ⟨rfl, rfl⟩
                go_wp2_with fail
                refine (EpAdvance_any b _).mono ?_
                rintro e w5 ⟨sc, rfl, hsc, st, bel5⟩
                have hsc2 : w.heap.size ≤ sc := Nat.le_trans el.bel.size hsc
                have el5 := el.bel' bel5
                have st5 : EsAt w5 sc (advS E' 0) := st
                clear el bel5 st hsc
                go_wp2_with fail
                go_loopg [22] 20 (fun gt s22 wx => ∃ (t : Nat), gt = 20 - t ∧ t ≤ k + 1 ∧ s22 = .int .i64 t ∧ EsAt wx sc (advS E' t) ∧ EL w b g h gr k (idleL k E') hs G wx)
                case atStart => exact ⟨0, rfl, Nat.zero_le _, rfl, st5, el5⟩
                case round =>
                  clear st5 el5
                  obtain ⟨t, hgt, htn, rfl, st, el⟩ := hrel
                  have hd3 : decide ((t : Int) < (k : Int) + 5) = true := by simp; omega
                  replace hgt := Lib.hid hgt
                  go_wp2_with fail
                  refine (EpDo_any b g h gr k sc (advS E' t) (idleL k E') _ el.eg.ep st (by show t ≤ 1000; omega) (fun h => by cases h) rfl).mono ?_
                  by_cases hj2 : t ≤ k
                  · rw [advs_go k E' t hj2]
                    rintro e w6 ⟨rfl, es⟩
                    have el6 := el.step st hsc2 es
                    have st6 : EsAt w6 sc (advS E' (t + 1)) := es.st
                    clear el st es
                    simp only [show (advS (E' : Int) (t + 1)).done = false from rfl]
                    go_wp2_with fail
                    go_roundg (20 - (t + 1))
                    case measure => have := hgt.out; omega
                    case rel => exact ⟨t + 1, rfl, by omega, by go_num, st6, el6⟩
                  · obtain rfl : t = k + 1 := by omega
                    rw [advs_end k E' (by omega), show (E' : Int) + 1 = ((E' + 1 : Nat) : Int) by omega]
                    rintro e w6 ⟨rfl, es⟩
                    have el6 := el.step st hsc2 es
                    have st6 := es.st
                    clear el st es
                    have hnow : Hid (Calls Try.prog 13 #[.pointer (some ⟨b, 0, none⟩)] w6 fun e w' => e = .returned (.int .i64 ((E' : Int) + 1)) ∧ w6 = w') := Lib.hid (EpNow_any b g h gr k _ _ el6.eg.ep (E' + 1) (idle_at0 k _) (by omega))
                    have hpin : Hid (Calls Try.prog 18 #[.pointer (some ⟨b, 0, none⟩), .int .i64 0] w6 fun e w' => e = .returned (.int .i64 (-1)) ∧ w6 = w') := Lib.hid (EpPinned_any 0 b g h gr k _ _ el6.eg.ep (by omega) 0 (idle_at k _ 1 (by omega)) (by omega))
                    simp only
                    go_wp2_with (first
                      | (go_at_call 12; refine (EpWon_any sc _ _ st6).mono ?_; rintro e w9 ⟨rfl, rfl⟩)
                      | (go_at_call 13; refine (hnow.out).mono ?_; rintro e w9 ⟨rfl, rfl⟩)
                      | (go_at_call 18; refine (hpin.out).mono ?_; rintro e w9 ⟨rfl, rfl⟩))
                    go_ret
                    exact ⟨rfl, el6.bel⟩
theorem EpochPinned_args (W : World) (args : Array Value) (hs : args.size = Try.f5.params.size) (hA : ∀ (j : Nat) t v, Try.f5.params[j]? = some t → args[j]? = some v → Arg Try.prog W t v) :
    Calls Try.prog 5 args W fun e W' => e = .returned (.bool true) ∧ Below W.heap.size W W' := by
  obtain ⟨v0, v1, v2, rfl⟩ := args3 hs
  obtain ⟨x0, rfl, _⟩ := arg_int Try.underlying3 (hA 0 3 v0 rfl rfl)
  obtain ⟨x1, rfl, _⟩ := arg_int Try.underlying3 (hA 1 3 v1 rfl rfl)
  obtain ⟨A, len, cap, l, rfl, h1, h2, rd⟩ := arg_ints Try.underlying22 Try.underlying3 (by kernel_rfl) (hA 2 22 v2 rfl rfl)
  unfold maxLen at h2
  exact EpochPinned_any x0 x1 A len cap l W rd (by omega)

set_option maxRecDepth 100000 in
theorem EpochPinned_lifted (os : Os) (started : os.Started) (H : Type) (enc : TypeId × Value → H) :
    ReturnsInHanded {} Try.checked os 5 .any (Rows.epochPinnedSpec.pre6 enc Try.prog Try.f5 Rows.epochPinnedRow.domain false) (Rows.epochPinnedSpec.post enc Try.prog Try.f5 false true false false) :=
  law_lifted os started H enc (by kernel_rfl) Try.func5 rfl rfl (fun H ds h => by match ds, h with | [_, _, _], _ => exact ⟨rfl, rfl, rfl⟩) (by kernel_rfl)
    (ChangeSpec.witness6 (enc := enc) (C := Try.checked) false ⟨#[], #[.int .i64 0, .int .i64 0, .slice none 0 0], []⟩ 8 (by kernel_rfl) (by kernel_rfl) (by kernel_rfl) (by kernel_rfl))
    EpochPinned_args

/-- the statement -/
theorem epochPinned_holds : Rows.EpochPinnedSaid :=
  OpenClaim.holds_of_wide 5 Try.f5 rfl rfl rfl rfl rfl rfl rfl ⟨rfl, rfl, rfl, rfl, rfl⟩ rfl rfl rfl rfl rfl (by kernel_rfl) Try.func5 (by kernel_rfl)
    (of_decide_eq_true (by kernel_rfl)) (by unfold Func.isWrapper; first | (rw [if_pos (by decide +kernel)]; kernel_rfl) | (rw [if_neg (by decide +kernel)]; exact ⟨rfl, rfl⟩))
    (fun os started H enc _ => EpochPinned_lifted os started H enc)

end Go.Proofs.Ytfcldnojmmhekaa
