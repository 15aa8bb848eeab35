/- The walks of package turns: Rest. -/
import Derived.Test.YtoifojamblnijaaTurns3
namespace Go.Proofs.Ytoifojamblnijaa
set_option linter.unusedVariables false
set_option linter.unusedSimpArgs false
open Go.RowKit
theorem step_prog (s : TSt) (k : Nat) : (s.step k).1.ws.map (·.prog) = s.ws.map (·.prog) := by
  unfold TSt.step
  cases h : s.ws[k]? with
  | none => rfl
  | some w =>
    cases h2 : w.prog[w.pos]? with
    | none => simp only [h2]
    | some o =>
      simp only [h2]
      apply List.ext_getElem?
      intro i
      simp only [List.getElem?_map, List.getElem?_set]
      split
      · rename_i e
        subst e
        rw [h]
        split
        · rfl
        · rename_i hn; exact absurd (List.getElem?_eq_some_iff.1 h).1 hn
      · rfl
theorem runs_prog (s : TSt) (r : List Nat) : (s.runs r).1.ws.map (·.prog) = s.ws.map (·.prog) := by
  induction r generalizing s with
  | nil => rfl
  | cons k r ih => exact (ih _).trans (step_prog s k)
/-- worker i is through -/
def TSt.fin (s : TSt) (i : Nat) : Prop := ∀ wk, s.ws[i]? = some wk → wk.pos = wk.prog.length
theorem fin_step (s : TSt) (i k : Nat) (h : s.fin i) : (s.step k).1.fin i := by
  intro wk hw
  unfold TSt.step at hw
  cases h1 : s.ws[k]? with
  | none => rw [h1] at hw; exact h wk hw
  | some w =>
    rw [h1] at hw
    simp only at hw
    cases h2 : w.prog[w.pos]? with
    | none => rw [h2] at hw; exact h wk hw
    | some o =>
      rw [h2] at hw
      simp only [List.getElem?_set] at hw
      split at hw
      · rename_i e
        subst e
        have := h w h1
        have h3 := (List.getElem?_eq_some_iff.1 h2).1
        omega
      · exact h wk hw
theorem fin_of_no (s : TSt) (k : Nat) (h : s.step k = (s, [])) (hp : ∀ wk, s.ws[k]? = some wk → wk.pos ≤ wk.prog.length) : s.fin k := by
  intro wk hw
  have h1 := hp wk hw
  rcases Nat.lt_or_ge wk.pos wk.prog.length with h2 | h2
  · unfold TSt.step at h
    rw [hw] at h
    simp only [List.getElem?_eq_getElem h2, Prod.mk.injEq] at h
    exact absurd h.2 (by simp)
  · omega
/-- what is told of the end -/
structure RestTold (s0 : TSt) (P : List Nat) (n : Nat) (ord : List Nat) (s : TSt) (out : List Dn) : Prop where
  eq : s0.runs (P ++ ord) = (s, out)
  lt : ∀ x ∈ ord, x < n
theorem RestTold.step {s0 s : TSt} {P ord : List Nat} {n k : Nat} {out : List Dn} (h : RestTold s0 P n ord s out) (hk : k < n) : RestTold s0 P n (ord ++ [k]) (s.step k).1 (out ++ (s.step k).2) := by
  refine ⟨?_, fun x hx => ?_⟩
  · rw [← List.append_assoc, runs_snoc, h.eq]
  · rcases List.mem_append.1 hx with h1 | h1
    · exact h.lt x h1
    · simp at h1; omega
set_option maxRecDepth 100000 in
set_option maxHeartbeats 2000000 in
theorem Rest_any (g h : Nat) (A : Option Addr) (n cap : Nat) (ps : List (List TOp)) (l : List Int) (w : World) (A2 : Option Addr) (m cap2 : Nat) (picks : List Int) (hp : PrgsAt w A n ps) (hn : n ≤ cap) (hcap : cap ≤ maxLen) (hc : Cel w g h l) (hl : l.length ≤ 65536)
    (rd : Rd .i64 w w.heap.size A2 m picks) (hA : 0 < m → ∀ a, A2 = some a → a.block ≠ h ∧ a.block < w.heap.size) (hm : m ≤ 100000) (hps : ∀ p ∈ ps, p.length ≤ 1000) :
    Calls Try.prog 9 #[.pointer (some ⟨g, 0, none⟩), .slice A n cap, .slice A2 m cap2] w fun e w' => ∃ v ord s out, e = .returned v ∧
      RestTold (freshSt ps l) (picks.map (pk · (ps.take 64).length)) (ps.take 64).length ord s out ∧ (∀ i, s.fin i) ∧ Cel w' g h s.l ∧ OwnT Dn.cs 3 35 w' w.heap.size v out ∧ Upd (fun x => x = h) w w' := by
  obtain ⟨i0, hi, hz0, hz1, hz2⟩ := info_parts info_done
  go_enter Try.func9, Try.ntmps9
  go_wp2_with fail
  refine (crew_any A n cap ps w hp hn hcap).mono ?_
  rintro e w1 ⟨V, bs, rfl, bel, cr⟩
  go_wp2_with fail
  refine (run_any w.heap.size g h V bs (freshSt ps l) w1 A2 m cap2 picks cr (hc.bel bel) hl ((rd.below bel).more bel.size) hA hm).mono ?_
  rintro e w2 ⟨v, rfl, r⟩
  have hlen : (freshSt ps l).ws.length = (ps.take 64).length := by simp [freshSt]
  have hlen2 : bs.length = (ps.take 64).length := by rw [cr.len]; simp
  have hprog : ∀ (s : TSt), s.ws.map (·.prog) = (freshSt ps l).ws.map (·.prog) → ∀ (i : Nat) wk, s.ws[i]? = some wk → wk.prog.length ≤ 1000 := by
    intro s hs i wk hw
    have h1 : (s.ws.map (·.prog))[i]? = some wk.prog := by rw [List.getElem?_map, hw]; rfl
    rw [hs] at h1
    simp only [freshSt, List.map_map, List.getElem?_map] at h1
    cases h2 : (ps.take 64)[i]? with
    | none => rw [h2] at h1; simp at h1
    | some p =>
      rw [h2] at h1
      simp [fresh] at h1
      rw [← h1]
      exact hps p (List.mem_of_mem_take (List.mem_of_getElem? h2))
  rw [hlen] at r
  have htold : RestTold (freshSt ps l) (picks.map (pk · (ps.take 64).length)) (ps.take 64).length [] ((freshSt ps l).runs (picks.map (pk · (ps.take 64).length))).1 ((freshSt ps l).runs (picks.map (pk · (ps.take 64).length))).2 := ⟨by rw [List.append_nil], by simp⟩
  have hN : (ps.take 64).length ≤ 64 := by rw [List.length_take]; omega
  have hpl : (picks.map (pk · (ps.take 64).length)).length = m := by rw [List.length_map, rd.len]
  obtain ⟨P, hP⟩ : ∃ P, P = picks.map (pk · (ps.take 64).length) := ⟨_, rfl⟩
  obtain ⟨N, hNe⟩ : ∃ N, N = (ps.take 64).length := ⟨_, rfl⟩
  rw [← hP] at r htold hpl
  rw [← hNe] at htold hlen hlen2 hN
  obtain ⟨A3, cap3, rfl, hc1, hc2⟩ := cr.own.form hlen2
  replace hP := Lib.hid hP
  replace hNe := Lib.hid hNe
  replace hlen := Lib.hid hlen
  replace hpl := Lib.hid hpl
  go_wp2_with fail
  go_loopg [8, 21] N (fun gk s8 s21 wr => ∃ (k : Nat) (s : TSt) (out : List Dn) (ord : List Nat), gk = N - k ∧ k ≤ N ∧ s21 = .int .i64 k ∧ RunAt w1 wr w.heap.size g h (.slice A3 N cap3) s8 bs s out ∧
    RestTold (freshSt ps l) P N ord s out ∧ ord.length ≤ 1000 * k ∧ (∀ i, i < k → s.fin i))
  case atStart => exact ⟨0, _, _, [], rfl, Nat.zero_le _, rfl, r, htold, by simp, by intro i hi; omega⟩
  case round =>
    clear r htold
    obtain ⟨k, s, out, ord, hgk, hk, rfl, r, told, hol, hfin⟩ := hrel
    by_cases hlt : k < N
    · have hd : decide (k < N) = true := by simpa using hlt
      obtain ⟨g2, c2, hVe, _, _, _, _, _⟩ := r.cr.own.formG hlen2 (by omega)
      simp only [Value.slice.injEq, true_and] at hVe
      obtain ⟨rfl, rfl⟩ := hVe
      obtain ⟨b, hqb⟩ : ∃ b, bs[k]? = some b := ⟨_, List.getElem?_eq_getElem (by omega)⟩
      have cq : wr.cell? ⟨g2, k, none⟩ = some (.pointer (some ⟨b, 0, none⟩)) := by
        have := r.cr.own.at_ ptr_len hqb (f := 0) (u := .pointer (some ⟨b, 0, none⟩)) rfl
        simpa using this
      have hll : s.l.length ≤ 65536 := by
        have := TSt.runs_len (freshSt ps l) (P ++ ord)
        rw [told.eq] at this
        rw [this.2]; exact hl
      replace hgk := Lib.hid hgk
      go_wp2_with fail
      trace "A"
      refine (step_crew w.heap.size b k g h _ bs s wr r.cr hqb r.hc hll).mono ?_
      rintro e w3 ⟨got, ok, rfl, cr1, hc1, hu, stold⟩
      have r1 := r.step hqb cr1 hc1 hu
      clear cr1 hc1 hu r cq
      go_wp2_with fail
      trace "B"
      go_loopg [8, 11, 12] 1001 (fun gi s8 s11 s12 wr => ∃ (j : Nat) (s : TSt) (out : List Dn) (ord : List Nat) (got : Int) (ok : Bool), gi = 1001 - j ∧ s11 = .int .u64 got ∧ s12 = .bool ok ∧
        RunAt w1 wr w.heap.size g h (.slice (some ⟨g2, 0, none⟩) N cap3) s8 bs (s.step k).1 out ∧ StepTold s k got ok ∧ RestTold (freshSt ps l) P N ord s out ∧ ord.length ≤ 1000 * k + j ∧ (∀ wk, s.ws[k]? = some wk → j ≤ wk.pos) ∧ (∀ i, i < k → s.fin i))
      case atStart => exact ⟨0, s, out, ord, got, ok, rfl, rfl, rfl, r1, stold, told, by omega, fun _ _ => Nat.zero_le _, hfin⟩
      case round =>
        clear r1 stold told hol hfin hll
        obtain ⟨j, s, out, ord, got, ok, hgi, rfl, rfl, r, stold, told, hol, hpos, hfin⟩ := hrel
        have hl2 := TSt.runs_len (freshSt ps l) (P ++ ord)
        have hpr := runs_prog (freshSt ps l) (P ++ ord)
        rw [told.eq] at hl2 hpr
        replace hgi := Lib.hid hgi
        rcases stold with ⟨rfl, he⟩ | ⟨rfl, wk, k', hwk, hlt2, he, hk'⟩
        · rw [he] at r
          go_wp2_with fail
          go_roundg (N - (k + 1))
          case measure => have := hgk.out; omega
          case rel =>
            have hf : s.fin k := fin_of_no s k he (fun wk hw => by obtain ⟨b', _, hb'⟩ := r.cr.at_ hw; exact hb'.pos)
            have hj : j ≤ 1000 := by
              have hkw : k < s.ws.length := by have := r.cr.len; omega
              have h1 := hpos _ (List.getElem?_eq_getElem hkw)
              have h2 := hprog s hpr k _ (List.getElem?_eq_getElem hkw)
              obtain ⟨b', _, hb'⟩ := r.cr.at_ (List.getElem?_eq_getElem hkw)
              have := hb'.pos
              omega
            refine ⟨k + 1, s, out, ord, rfl, by omega, by go_num, r, told, by omega, fun i hi => ?_⟩
            rcases Nat.lt_or_ge i k with h1 | h1
            · exact hfin i h1
            · obtain rfl : i = k := by omega
              exact hf
        · obtain ⟨b', hb', hwk'⟩ := r.cr.at_ hk'
          rw [hqb] at hb'
          simp only [Option.some.injEq] at hb'
          subst hb'
          obtain ⟨A', cap', h1', h2', h3', h4'⟩ := hwk'.obj
          have p1 : wr.cell? ⟨b, 1, none⟩ = some (.int .i64 ((wk.pos : Int) + 1)) := h3'.cell 1
          have hpl1 : (wk.pos : Int) + 1 ≤ 9223372036854775807 := by simp only at h1'; unfold maxLen at h2'; omega
          have hwp : wrap64 ((wk.pos : Int) + 1 - 1) = wk.pos := by rw [IntWalk.wrap64_in _ (by omega)]; omega
          have hj1 := hpos wk hwk
          have hj2 := hprog s hpr k wk hwk
          clear h3' h4' hwk'
          have told2 := told.step hlt
          have hfin2 : ∀ i, i < k → (s.step k).1.fin i := fun i hi => fin_step s i k (hfin i hi)
          have hol2 : out.length ≤ m + (1000 * k + j) := by
            have h1 := runs_out_len (freshSt ps l) (P ++ ord)
            rw [told.eq, List.length_append, hpl.out] at h1
            simp only at h1
            omega
          have hl3 := TSt.step_len s k
          generalize hwp' : wk.pos = pz at *
          replace hwp' := Lib.hid hwp'
          generalize hs2 : (s.step k).1 = s2 at *
          rw [he] at told2
          replace hs2 := Lib.hid hs2
          have hll2 : s2.l.length ≤ 65536 := by rw [hl3.2, hl2.2]; exact hl
          have hx := RdT.new (cs := Dn.cs) (sz := 3) Dn.cs_len wr 35 [⟨k, pz, got⟩] #[.int .i64 k, .int .i64 pz, .int .u64 got] rfl 1 rfl
          have r2 := r.alloc (.cells #[.int .i64 k, .int .i64 pz, .int .u64 got] 35)
          have hub := r2.upd.size
          go_wp2_with (first | (at_builtin; go_loud (refine wpList_appT Dn.cs_len Dn.cs_one (by decide) _ rfl (.tmp 39) (.tmp 48) 32 rfl w1.heap.size 35 i0 (.agg #[.int .i64 0, .int .i64 0, .int .u64 0]) 24 Try.underlying32 hi hz0 hz1 hz2 rfl u8 rfl out r2.own _ _ 1 1 rfl [⟨k, pz, got⟩] hx (by omega) (by decide) hub ?_; intro v1 w2 own1 hg1 hb1)))
          have r3 := r2.app own1 hg1
          clear r r2 hx own1 hg1 hb1 hub
          go_wp2_with fail
          refine (step_crew w.heap.size b k g h _ bs s2 w2 r3.cr hqb r3.hc hll2).mono ?_
          rintro e w3 ⟨got2, ok2, rfl, cr1, hc1, hu, stold⟩
          have r4 := r3.step hqb cr1 hc1 hu
          clear cr1 hc1 hu r3
          go_wp2_with fail
          go_roundg (1001 - (j + 1))
          case measure => have := hgi.out; omega
          case rel =>
            refine ⟨j + 1, s2, _, _, got2, ok2, rfl, rfl, rfl, r4, stold, told2, by rw [List.length_append]; simp; omega, fun wk2 hw2 => ?_, hfin2⟩
            rw [hk'] at hw2
            simp only [Option.some.injEq] at hw2
            subst hw2
            simp only
            omega
    · obtain rfl : k = N := by omega
      go_wp2
      go_ret
      rw [hP.out, hNe.out] at told
      refine ⟨_, ord, s, out, rfl, told, fun i => ?_, r.hc, r.own.mono bel.size, ⟨r.upd.os.trans bel.os, r.upd.tape.trans bel.tape, r.upd.output.trans bel.output, Nat.le_trans bel.size r.upd.size, fun j hj hS => ?_⟩⟩
      · rcases Nat.lt_or_ge i k with h1 | h1
        · exact hfin i h1
        · intro wk hw
          have h2 := (List.getElem?_eq_some_iff.1 hw).1
          have h3 := r.cr.len
          omega
      · refine (r.upd.block j (Nat.lt_of_lt_of_le hj bel.size) ?_).trans (bel.block j hj)
        rintro (e | e)
        · have := cr.base j e; omega
        · exact hS e
end Go.Proofs.Ytoifojamblnijaa
