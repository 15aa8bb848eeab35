/- Every input of EpochOne answers true, and reads behind the call as it read before. No condition. -/
import Derived.Test.YtfcldnojmmhekaaOnePlain
import Derived.Test.YtfcldnojmmhekaaFrame
import Derived.Deep.CutBlock
namespace Go.Proofs.Ytfcldnojmmhekaa
set_option linter.unusedVariables false
set_option linter.unusedSimpArgs false
open Go.RowKit
attribute [local irreducible] Es.does
def DoneOne (w0 : World) (b g h gr n lb i j sb : Nat) (hs : List Value) (G : List (List Th)) (ps : List (Option (Nat × Es))) (s : Es) (E : Nat) (e : Ending) (w' : World) : Prop :=
  ∃ (s' : Es) (E' : Nat), e = .returned (.bool s'.done) ∧ One n E' i (ps.set j (some (sb, s'))) ∧ SL w' w0.heap.size lb (ps.set j (some (sb, s'))) ∧ EL w0 b g h gr n (idleL n E') hs G w' ∧ E ≤ E' ∧ (s.done = true → s' = s) ∧ (s.done = false → s'.pos = s.pos + 1 ∧ (s'.done = true ↔ s.pos = n + 1))
theorem set_same {α : Type} {l : List α} {i : Nat} {x : α} (h : l[i]? = some x) : l.set i x = l := by
  obtain ⟨hl, he⟩ := List.getElem?_eq_some_iff.1 h
  rw [← he]; exact List.set_getElem_self hl
theorem DoOne {w0 w : World} {b g h gr n lb i j sb E : Nat} {hs : List Value} {G : List (List Th)} {ps : List (Option (Nat × Es))} {s : Es} (one : One n E i ps) (sl : SL w w0.heap.size lb ps) (el : EL w0 b g h gr n (idleL n E) hs G w) (hj : ps[j]? = some (some (sb, s))) :
    Calls Try.prog 11 #[.pointer (some ⟨b, 0, none⟩), .pointer (some ⟨sb, 0, none⟩)] w fun e w' => DoneOne w0 b g h gr n lb i j sb hs G ps s E e w' := by
  obtain ⟨st, hsb⟩ := sl.st j sb s hj
  have os := one.st j sb s hj
  have n2 := el.eg.ep.n2
  cases hd : s.done with
  | true =>
    refine (EpDo_done b sb s w st hd).mono ?_
    rintro e w' ⟨rfl, rfl⟩
    refine ⟨s, E, by rw [hd], ?_, ?_, el, Nat.le_refl _, fun _ => rfl, fun h => by rw [hd] at h; cases h⟩
    · rw [set_same hj]; exact one
    · rw [set_same hj]; exact sl
  | false =>
    obtain ⟨s', E', hdo, q1, q2, q3, q4, q5, q6⟩ := one_do os hd one.e1
    have hw := (os.op hd).2
    refine (EpDo_any b g h gr n sb s (idleL n E) w el.eg.ep st (by have := (os.op hd).1; omega) (fun h => by rw [os.adv] at h; cases h) hd).mono ?_
    rw [hdo]
    rintro e w' ⟨rfl, es⟩
    exact ⟨s', E', rfl, one.put hj hw q1 q2 q3 q4, sl.does hj el.eg.ep es, el.step st hsb es, q3, fun h => (by rw [hd] at h; cases h), fun _ => ⟨q5, q6⟩⟩
set_option maxRecDepth 100000 in
set_option maxHeartbeats 1000000 in
theorem EpochOne_any (x0 : Int) (A : Option Addr) (m cap : Nat) (pk : List Int) (w : World) (rd : Rd .i64 w w.heap.size A m pk) (hmx : m ≤ 9223372036854775807) :
    Calls Try.prog 3 #[.int .i64 x0, .slice A m cap] w fun e w' => e = .returned (.bool true) ∧ Below w.heap.size w w' := by
  obtain ⟨q, hq, hq8⟩ := modn x0 8 (by omega)
  obtain ⟨n, hn⟩ : ∃ n : Nat, n = 1 + q := ⟨_, rfl⟩
  have hqv : (Value.int .u64 ((IntKind.u64.wrap x0).tmod 8)) = .int .u64 q := by rw [hq]
  have hw2 : 1 + (q : Int) = (n : Int) := by omega
  have hn1 : 1 ≤ n := by omega
  have hn2 : n ≤ 8 := by omega
  obtain ⟨i0, hi, hz0, hz1, hz2⟩ := info_parts info_pstep
  have hmk := fun W => make_one (P := Try.prog) 29 30 i0 _ Try.underlying29 hi hz0 hz1 rfl .i64 .i64 n (by rw [hz2]; omega) (by omega) W
  clear hq hz0 hz1 hz2
  replace hn := Lib.hid hn
  go_enter Try.func3, Try.ntmps3
  go_wp2_with fail
  refine (EpNew_yes n _ hn1 (by omega)).mono ?_
  rintro e w1 ⟨b, g, h, gr, rfl, bel, hb, hh, hgr, ep, gv⟩
  rw [idle_new] at ep
  have el1 : EL w b g h gr n (idleL n 0) _ _ w1 := ⟨⟨ep, gv, by simp⟩, hh, hgr, bel⟩
  clear ep gv bel hqv hw2 hq8
  generalize List.replicate n (Value.slice none 0 0) = hs at *
  generalize List.replicate n ([] : List Th) = G at *
  go_wp2_with fail
  refine (moves_any _).mono ?_
  rintro e w2 ⟨rfl, bel2⟩
  have el2 := el1.bel' bel2
  have hlb : w.heap.size ≤ w2.heap.size := el2.bel.size
  have sl2 := SL.new w2 w.heap.size n
  have el3 := el2.bel' (bel_alloc w2 (.cells (Array.replicate n (.pointer none)) 30))
  have one3 := one_new n
  clear el1 bel2 el2
  go_wp2_with fail
  clear hmk
  generalize w2.alloc (.cells (Array.replicate n (.pointer none)) 30) = w3 at *
  generalize w2.heap.size = lb at *
  go_loopg [9] n (fun gk s9 wr => ∃ (i : Nat) (ps : List (Option (Nat × Es))), gk = n - i ∧ i ≤ n ∧ s9 = .int .i64 i ∧ One n 0 i ps ∧ SL wr w.heap.size lb ps ∧ EL w b g h gr n (idleL n 0) hs G wr)
  case atStart => exact ⟨0, _, rfl, Nat.zero_le _, rfl, one3, sl2, el3⟩
  case round =>
    clear one3 sl2 el3
    obtain ⟨i, ps, hgk, hin, rfl, one, sl, el⟩ := hrel
    by_cases hlt : i < n
    · have hd : decide (i < n) = true := by simpa using hlt
      replace hgk := Lib.hid hgk
      go_wp2_with fail
      refine (EpAdvance_any b _).mono ?_
      rintro e w4 ⟨sb, rfl, hsb, st, bel4⟩
      have cc := (sl.bel bel4).cell (one.rest i (Nat.le_refl _) hlt)
      obtain ⟨c1, c2⟩ := cc
      obtain ⟨sl4, up4⟩ := sl.fresh bel4 i hsb st el.bel.size
      have el4 := (el.bel' bel4).slot (sl.bel bel4) hlb up4
      have hin2 : i < ps.length := by rw [one.len]; exact hlt
      have hget : (ps.set i (some (sb, (⟨0, true, 0, 0, false, false⟩ : Es))))[i]? = some (some (sb, advS 0 0)) := List.getElem?_set_self hin2
      have one5 := one_add one hlt sb
      obtain ⟨c3, c4⟩ := sl4.cell hget
      simp only [pcell] at c1 c3
      clear sl el bel4 one
      go_wp2_with fail
      generalize w4.setCell ⟨lb, i, none⟩ (.pointer (some ⟨sb, 0, none⟩)) = w5 at *
      obtain ⟨st5, hsb5⟩ := sl4.st i sb _ hget
      refine (EpDo_any b g h gr n sb (advS 0 0) (idleL n 0) _ el4.eg.ep st5 (by show 0 ≤ 1000; omega) (fun h => by cases h) rfl).mono ?_
      rw [advs_go n 0 0 (by omega)]
      rintro e w6 ⟨rfl, es⟩
      have el6 := el4.step st5 hsb5 es
      have sl6 := sl4.does hget el4.eg.ep es
      rw [List.set_set] at sl6
      simp only [show (advS (0 : Int) (0 + 1)).done = false from rfl]
      clear sl4 el4 st5 es c1 c2 c3 c4 up4 hget st
      go_wp2_with fail
      go_roundg (n - (i + 1))
      case measure => have := hgk.out; omega
      case rel => exact ⟨i + 1, _, rfl, by omega, by go_num, one5, sl6, el6⟩
    · obtain rfl : i = n := by omega
      clear hgk hin hlt
      go_upto_block 2 with fail
      go_cut [10] (fun s10 wx => ∃ (E : Nat) (ps : List (Option (Nat × Es))), One i E i ps ∧ SL wx w.heap.size lb ps ∧ EL w b g h gr i (idleL i E) hs G wx)
      case first =>
        go_wp2_with fail
        go_loopg [10] m (fun gk s10 wr => ∃ (j E : Nat) (ps : List (Option (Nat × Es))), gk = m - j ∧ j ≤ m ∧ j ≤ 200 ∧ s10 = .int .i64 j ∧ One i E i ps ∧ SL wr w.heap.size lb ps ∧ EL w b g h gr i (idleL i E) hs G wr)
        case atStart => exact ⟨0, 0, _, rfl, Nat.zero_le _, by omega, rfl, one, sl, el⟩
        case round =>
          clear one sl el
          obtain ⟨j, E, ps, hgk, hjm, hj200, rfl, one, sl, el⟩ := hrel
          by_cases hlt : j < m ∧ j < 200
          · obtain ⟨hlt, hlt2⟩ := hlt
            have hd : decide (j < m) = true := by simpa using hlt
            have hd2 : decide ((j : Int) < 200) = true := by simp; omega
            replace hgk := Lib.hid hgk
            obtain ⟨pb, po, rfl, hpb, pc, _⟩ := rd.at_ hlt
            have pcx : wr.cell? ⟨pb, po + j, none⟩ = some (.int .i64 (pk.getD j 0)) := (el.bel.cell (p := ⟨pb, po + j, none⟩) hpb).trans pc
            obtain ⟨p, hp, hpn⟩ := modn (pk.getD j 0) i (by omega)
            have hv : Value.int .u64 ((IntKind.u64.wrap (pk.getD j 0)).tmod i) = .int .u64 (p : Int) := by rw [hp]
            generalize pk.getD j 0 = x at *
            clear hp pc
            obtain ⟨sb, s, hps⟩ := one.full p (by omega)
            obtain ⟨c1, c2⟩ := sl.cell hps
            simp only [pcell] at c1
            go_wp2_with fail
            refine (DoOne one sl el hps).mono ?_
            rintro e w4 ⟨s', E', rfl, one4, sl4, el4, _, _, _⟩
            clear one sl el c1 c2 pcx
            go_wp2_with fail
            go_roundg (m - (j + 1))
            case measure => have := hgk.out; omega
            case rel => exact ⟨j + 1, E', _, rfl, by omega, by omega, by go_num, one4, sl4, el4⟩
          · have hcond : decide (j < m) = false ∨ (decide (j < m) = true ∧ decide ((j : Int) < 200) = false) := by
              rcases Nat.lt_or_ge j m with h | h
              · exact .inr ⟨by simpa using h, by simp; omega⟩
              · exact .inl (by simp; omega)
            rcases hcond with hd | ⟨hd, hd2⟩
            · go_wp2_with fail
              go_meet
              exact ⟨E, _, one, sl, el⟩
            · go_wp2_with fail
              go_meet
              exact ⟨E, _, one, sl, el⟩
      case rest =>
        clear one sl el
        obtain ⟨E, ps, one, sl, el⟩ := hcut
        go_wp2_with fail
        go_loopg [11, 12] i (fun gk s11 s12 wr => ∃ (k won E : Nat) (ps : List (Option (Nat × Es))), gk = i - k ∧ k ≤ i ∧ s12 = .int .i64 k ∧ s11 = .int .i64 won ∧ won = (ps.take k).countP isWon ∧ (1 ≤ k → E = 1) ∧ One i E i ps ∧ SL wr w.heap.size lb ps ∧ EL w b g h gr i (idleL i E) hs G wr)
        case atStart => exact ⟨0, 0, E, ps, rfl, Nat.zero_le _, rfl, rfl, rfl, by omega, one, sl, el⟩
        case round =>
          clear one sl el
          obtain ⟨k, won, E, ps, hgk, hki, rfl, rfl, hwon, hE1, one, sl, el⟩ := hrel
          by_cases hlt : k < i
          · have hd : decide (k < i) = true := by simpa using hlt
            replace hgk := Lib.hid hgk
            replace hwon := Lib.hid hwon
            replace hE1 := Lib.hid hE1
            have hw5 : wrap64 ((i : Int) + 5) = (i : Int) + 5 := IntWalk.wrap64_in _ (by omega)
            obtain ⟨sb, s, hps⟩ := one.full k hlt
            go_wp2_with fail
            go_loopg [13] 20 (fun gt s13 wx => ∃ (t E : Nat) (ps : List (Option (Nat × Es))) (s : Es), gt = 20 - t ∧ t ≤ i ∧ s13 = .int .i64 t ∧ ps[k]? = some (some (sb, s)) ∧ (s.done = false → t + 1 ≤ s.pos) ∧ (t = 0 ∨ s.done = false) ∧ won = (ps.take k).countP isWon ∧ One i E i ps ∧ SL wx w.heap.size lb ps ∧ EL w b g h gr i (idleL i E) hs G wx)
            case atStart => exact ⟨0, E, ps, s, rfl, Nat.zero_le _, rfl, hps, fun hd => by have := (one.st k sb s hps).p1; omega, .inl rfl, hwon.out, one, sl, el⟩
            case round =>
              clear one sl el hps hwon hE1
              obtain ⟨t, E, ps, s, hgt, hti, rfl, hps, htp, htd, hwon, one, sl, el⟩ := hrel
              have hd5 : decide ((t : Int) < (i : Int) + 5) = true := by simp; omega
              replace hgt := Lib.hid hgt
              obtain ⟨c1, c2⟩ := sl.cell hps
              simp only [pcell] at c1
              have os := one.st k sb s hps
              have hkl : k < ps.length := by rw [one.len]; exact hlt
              have hwb : won ≤ 8 := by
                have h1 := List.countP_le_length (p := isWon) (l := ps.take k)
                rw [List.length_take] at h1
                omega
              go_wp2_with fail
              refine (DoOne one sl el hps).mono ?_
              rintro e w4 ⟨s', E', rfl, one4, sl4, el4, hEE, hdn, hop⟩
              have hget4 : (ps.set k (some (sb, s')))[k]? = some (some (sb, s')) := List.getElem?_set_self hkl
              have hwon4 : won = ((ps.set k (some (sb, s'))).take k).countP isWon := by
                rw [List.take_set, List.set_eq_of_length_le (by rw [List.length_take]; omega)]; exact hwon
              have os4 := one4.st k sb s' hget4
              cases hd' : s'.done with
              | false =>
                have hsd : s.done = false := by
                  cases hs : s.done with
                  | false => rfl
                  | true => rw [hdn hs, hs] at hd'; cases hd'
                obtain ⟨hpos, hiff⟩ := hop hsd
                have htp2 := htp hsd
                have hp1 := (os4.op hd').1
                have htp3 : t + 1 + 1 ≤ s'.pos := by omega
                have hti2 : t + 1 ≤ i := by omega
                replace hd' := Lib.hid hd'
                clear one sl el c1 c2 htd htp hdn hop hpos hiff hwon hsd os os4 hps hgk
                replace hget4 := Lib.hid hget4
                replace hwon4 := Lib.hid hwon4
                go_wp2_with fail
                go_roundg (20 - (t + 1))
                case measure => have := hgt.out; omega
                case rel => exact ⟨t + 1, E', _, s', rfl, hti2, by go_num, hget4.out, fun _ => htp3, .inr hd'.out, hwon4.out, one4, sl4, el4⟩
              | true =>
                have hE1 : E' = 1 := os4.dn hd'
                have htk := won_take one4 hget4
                rw [← hwon4] at htk
                obtain ⟨st4, _⟩ := sl4.st k sb s' hget4
                obtain ⟨c3, c4⟩ := sl4.cell hget4
                simp only [pcell] at c3
                clear one sl el c1 c2 htd htp hdn hop hwon os os4 hps hwon4
                replace hget4 := Lib.hid hget4
                replace hE1 := Lib.hid hE1
                replace htk := Lib.hid htk
                replace hd' := Lib.hid hd'
                go_wp2_with fail
                refine (EpWon_any sb s' _ st4).mono ?_
                rintro e w5 ⟨rfl, rfl⟩
                cases hwn : s'.won with
                | true =>
                  have htk2 := htk.out
                  rw [hwn, if_pos rfl] at htk2
                  replace htk2 := Lib.hid htk2.symm
                  replace hwn := Lib.hid hwn
                  go_wp2_with fail
                  go_roundg (i - (k + 1))
                  case measure => have := hgk.out; omega
                  case rel => exact ⟨k + 1, won + 1, E', _, rfl, by omega, by go_num, by go_num, htk2.out, fun _ => hE1.out, one4, sl4, el4⟩
                | false =>
                  have htk2 := htk.out
                  rw [hwn, if_neg (by simp)] at htk2
                  replace htk2 := Lib.hid htk2.symm
                  replace hwn := Lib.hid hwn
                  go_wp2_with fail
                  go_roundg (i - (k + 1))
                  case measure => have := hgk.out; omega
                  case rel => exact ⟨k + 1, won, E', _, rfl, by omega, by go_num, rfl, htk2.out, fun _ => hE1.out, one4, sl4, el4⟩
          · obtain rfl : k = i := by omega
            obtain rfl : E = 1 := hE1 hn1
            rw [List.take_of_length_le (by rw [one.len]; exact Nat.le_refl _), one.cnt] at hwon
            subst hwon
            clear hgk hki hE1 hlt
            go_wp2_with (go_at_call 13; refine (EpNow_any b g h gr k _ _ el.eg.ep 1 (idle_at0 k _) (by omega)).mono ?_; rintro e w4 ⟨rfl, rfl⟩)
            go_ret
            exact ⟨rfl, el.bel⟩
theorem EpochOne_args (W : World) (args : Array Value) (hs : args.size = Try.f3.params.size) (hA : ∀ (j : Nat) t v, Try.f3.params[j]? = some t → args[j]? = some v → Arg Try.prog W t v) :
    Calls Try.prog 3 args W fun e W' => e = .returned (.bool true) ∧ Below W.heap.size W W' := by
  obtain ⟨v0, v1, rfl⟩ := args2 hs
  obtain ⟨x0, rfl, _⟩ := arg_int Try.underlying3 (hA 0 3 v0 rfl rfl)
  obtain ⟨A, len, cap, l, rfl, h1, h2, rd⟩ := arg_ints Try.underlying22 Try.underlying3 (by kernel_rfl) (hA 1 22 v1 rfl rfl)
  unfold maxLen at h2
  exact EpochOne_any x0 A len cap l W rd (by omega)

set_option maxRecDepth 100000 in
theorem EpochOne_lifted (os : Os) (started : os.Started) (H : Type) (enc : TypeId × Value → H) :
    ReturnsInHanded {} Try.checked os 3 .any (Rows.epochOneSpec.pre6 enc Try.prog Try.f3 Rows.epochOneRow.domain false) (Rows.epochOneSpec.post enc Try.prog Try.f3 false true false false) :=
  law_lifted os started H enc (by kernel_rfl) Try.func3 rfl rfl (fun H ds h => by match ds, h with | [_, _], _ => exact ⟨rfl, rfl, rfl⟩) (by kernel_rfl)
    (ChangeSpec.witness6 (enc := enc) (C := Try.checked) false ⟨#[], #[.int .i64 0, .slice none 0 0], []⟩ 8 (by kernel_rfl) (by kernel_rfl) (by kernel_rfl) (by kernel_rfl))
    EpochOne_args

/-- the statement -/
theorem epochOne_holds : Rows.EpochOneSaid :=
  OpenClaim.holds_of_wide 3 Try.f3 rfl rfl rfl rfl rfl rfl rfl ⟨rfl, rfl, rfl, rfl, rfl⟩ rfl rfl rfl rfl rfl (by kernel_rfl) Try.func3 (by kernel_rfl)
    (of_decide_eq_true (by kernel_rfl)) (by unfold Func.isWrapper; first | (rw [if_pos (by decide +kernel)]; kernel_rfl) | (rw [if_neg (by decide +kernel)]; exact ⟨rfl, rfl⟩))
    (fun os started H enc _ => EpochOne_lifted os started H enc)

end Go.Proofs.Ytfcldnojmmhekaa
