/- The walks of package turns: run, Run. -/
import Derived.Test.YtoifojamblnijaaTurns2
namespace Go.Proofs.Ytoifojamblnijaa
set_option linter.unusedVariables false
set_option linter.unusedSimpArgs false
open Go.RowKit
theorem Rd.updA {k : IntKind} {B n : Nat} {w w' : World} {A : Option Addr} {l : List Int} {S : Nat → Prop} (h : Rd k w B A n l) (hu : Upd S w w') (hB : B ≤ w.heap.size) (hS : 0 < n → ∀ a, A = some a → ¬ S a.block) : Rd k w' B A n l :=
  ⟨h.len, h.rng, fun hn => by
    obtain ⟨b, o, e, hb, hc⟩ := h.cel hn
    refine ⟨b, o, e, hb, fun j hj => ?_⟩
    rw [World.cell?_of_block (a := ⟨b, o + j, none⟩) (hu.block b (by omega) (hS hn _ e))]
    exact hc j hj⟩
theorem WkAt.ne {w : World} {b : Nat} {k : Wk} (h : WkAt w b k) {g' : Nat} {t : TypeId} {cs : Array Value} (hb : Blk w g' t cs) (hne : 78 ≠ t) : b ≠ g' := by
  obtain ⟨c, hc⟩ := h.blk
  exact hc.ne_ hb hne
theorem CrewAt.step {w w' : World} {base b q h : Nat} {V : Value} {bs : List Nat} {ws : List Wk} {k' : Wk} {cs : Array Value} (cr : CrewAt w base V bs ws) (hq : bs[q]? = some b) (hrow : Blk w h 85 cs) (hu : Upd (fun x => x = b ∨ x = h) w w') (hk : WkAt w' b k') :
    CrewAt w' base V bs (ws.set q k') := by
  have hql : q < bs.length := (List.getElem?_eq_some_iff.1 hq).1
  obtain ⟨cb, hcb⟩ := cr.mem (List.mem_of_getElem? hq)
  refine ⟨cr.own.upd hu (fun g hg => ?_), by rw [List.length_set]; exact cr.len, cr.nod, cr.base, fun i b' k2 hb' hk2 => ?_⟩
  · rintro (e | e)
    · subst e; exact cr.own.ne hcb (by decide) hg
    · subst e; exact cr.own.ne hrow (by decide) hg
  · by_cases hi : i = q
    · subst hi
      rw [hq] at hb'
      simp only [Option.some.injEq] at hb'
      rw [List.getElem?_set_self (by rw [← cr.len]; exact hql)] at hk2
      simp only [Option.some.injEq] at hk2
      subst hb' hk2
      exact hk
    · rw [List.getElem?_set_ne (Ne.symm hi)] at hk2
      have hw := cr.wk i b' k2 hb' hk2
      have hne : b' ≠ b := by
        intro e
        subst e
        have hil : i < bs.length := (List.getElem?_eq_some_iff.1 hb').1
        have e1 := (List.getElem?_eq_some_iff.1 hb').2
        have e2 := (List.getElem?_eq_some_iff.1 hq).2
        have hn := List.pairwise_iff_getElem.1 cr.nod
        rcases Nat.lt_or_gt_of_ne hi with h1 | h1
        · exact hn i q hil hql h1 (by rw [e1, e2])
        · exact hn q i hql hil h1 (by rw [e1, e2])
      refine hw.upd hu ?_ ?_
      · rintro (e | e)
        · exact hne e
        · exact hw.ne hrow (by decide) e
      · rintro x cx hx (e | e)
        · subst e; exact hx.ne_ hcb (by decide) rfl
        · subst e; exact hx.ne_ hrow (by decide) rfl
/-- what a call of step tells of worker q -/
def StepTold (s : TSt) (q : Nat) (got : Int) (ok : Bool) : Prop :=
  (ok = false ∧ s.step q = (s, [])) ∨ (ok = true ∧ ∃ wk k', s.ws[q]? = some wk ∧ wk.pos < wk.prog.length ∧ (s.step q).2 = [⟨q, wk.pos, got⟩] ∧ (s.step q).1.ws[q]? = some ⟨wk.prog, wk.pos + 1, k'⟩)
theorem step_crew (base b q g h : Nat) (V : Value) (bs : List Nat) (s : TSt) (w : World) (cr : CrewAt w base V bs s.ws) (hq : bs[q]? = some b) (hc : Cel w g h s.l) (hl : s.l.length ≤ 65536) :
    Calls Try.prog 21 #[.pointer (some ⟨b, 0, none⟩), .pointer (some ⟨g, 0, none⟩)] w fun e w' => ∃ got ok, e = .returned (.tuple #[.int .u64 got, .bool ok]) ∧
      CrewAt w' base V bs (s.step q).1.ws ∧ Cel w' g h (s.step q).1.l ∧ Upd (fun x => x = b ∨ x = h) w w' ∧ StepTold s q got ok := by
  have hql : q < s.ws.length := by rw [← cr.len]; exact (List.getElem?_eq_some_iff.1 hq).1
  obtain ⟨wk, hwk⟩ : ∃ wk, s.ws[q]? = some wk := ⟨_, List.getElem?_eq_getElem hql⟩
  have hw := cr.wk q b wk hq hwk
  by_cases hp : wk.pos = wk.prog.length
  · have he : s.step q = (s, []) := by
      unfold TSt.step
      rw [hwk]
      simp only
      rw [List.getElem?_eq_none (by omega)]
    refine (step_no b wk _ w hw hp).mono ?_
    rintro e w' ⟨rfl, bel⟩
    rw [he]
    exact ⟨0, false, rfl, cr.bel bel, hc.bel bel, Upd.of_below bel _, .inl ⟨rfl, he⟩⟩
  · have hlt : wk.pos < wk.prog.length := by have := hw.pos; omega
    obtain ⟨o, ho⟩ : ∃ o, wk.prog[wk.pos]? = some o := ⟨_, List.getElem?_eq_getElem hlt⟩
    have he : s.step q = (⟨s.ws.set q ⟨wk.prog, wk.pos + 1, o.keep wk.kept s.l⟩, o.put wk.kept s.l⟩, [⟨q, wk.pos, o.got wk.kept s.l⟩]) := by
      unfold TSt.step
      rw [hwk]
      simp only
      rw [ho]
    refine (step_yes b g h wk s.l o w hw hc hl ho).mono ?_
    rintro e w' ⟨rfl, hk, hc', hu⟩
    refine ⟨_, true, rfl, ?_, ?_, hu, .inr ⟨rfl, wk, o.keep wk.kept s.l, hwk, hlt, by rw [he], ?_⟩⟩
    · rw [he]; exact cr.step hq hc.row hu hk
    · rw [he]; exact hc'
    · rw [he]; simp only; rw [List.getElem?_set_self hql]
def pk (x : Int) (n : Nat) : Nat := ((IntKind.u64.wrap x).tmod n).toNat
theorem pk_spec (x : Int) (n : Nat) (h : 0 < n) : (IntKind.u64.wrap x).tmod n = (pk x n : Int) ∧ pk x n < n := by
  obtain ⟨q, hq, hlt⟩ := modn x n (by omega)
  unfold pk
  rw [hq]
  exact ⟨by simp, by simp; omega⟩
theorem runs_out_len (s : TSt) (r : List Nat) : (s.runs r).2.length ≤ r.length := by
  induction r generalizing s with
  | nil => simp [TSt.runs]
  | cons k r ih =>
    have := ih (s.step k).1
    simp only [TSt.runs, List.length_append, List.length_cons]
    have h1 : (s.step k).2.length ≤ 1 := by
      unfold TSt.step
      split
      · simp
      · split <;> simp
    omega
theorem runs_none (s : TSt) (h : s.ws = []) (r : List Nat) : s.runs r = (s, []) := by
  induction r with
  | nil => rfl
  | cons k r ih =>
    have : s.step k = (s, []) := by unfold TSt.step; rw [h]; simp
    simp only [TSt.runs, this, ih, List.nil_append]
theorem runs_snoc (s : TSt) (r : List Nat) (k : Nat) : s.runs (r ++ [k]) = (((s.runs r).1.step k).1, (s.runs r).2 ++ ((s.runs r).1.step k).2) := by
  rw [TSt.runs_append]; simp [TSt.runs]
theorem info_done : (Try.prog.info? 35).map (fun i => (i.zero, i.size, i.bytes)) = some (some (.agg #[.int .i64 0, .int .i64 0, .int .u64 0]), 3, 24) := by kernel_rfl
theorem OwnT.updne {α : Type} {cs : α → List Value} {sz : Nat} {e : TypeId} {w w' : World} {base : Nat} {v : Value} {l : List α} {S : Nat → Prop} (h : OwnT cs sz e w base v l) (hu : Upd S w w') (hS : ∀ b c, Blk w b e c → ¬ S b) : OwnT cs sz e w' base v l := by
  refine h.upd hu (fun g hg => ?_)
  rcases h.row.2 with ⟨rfl, _⟩ | ⟨g', cap, cur, rfl, _, hh, _⟩
  · simp [Value.ownBlock] at hg
  · simp only [Value.ownBlock, Option.some.injEq] at hg
    subst hg
    exact hS g' cur hh
/-- the world of a run -/
structure RunAt (w wr : World) (base g h : Nat) (V vo : Value) (bs : List Nat) (s : TSt) (out : List Dn) : Prop where
  cr : CrewAt wr base V bs s.ws
  hc : Cel wr g h s.l
  own : OwnT Dn.cs 3 35 wr w.heap.size vo out
  upd : Upd (fun x => x ∈ bs ∨ x = h) w wr
theorem RunAt.step {w wr w1 : World} {base g h b q : Nat} {V vo : Value} {bs : List Nat} {s : TSt} {out : List Dn} (r : RunAt w wr base g h V vo bs s out) (hq : bs[q]? = some b)
    (cr1 : CrewAt w1 base V bs (s.step q).1.ws) (hc1 : Cel w1 g h (s.step q).1.l) (hu : Upd (fun x => x = b ∨ x = h) wr w1) : RunAt w w1 base g h V vo bs (s.step q).1 out := by
  obtain ⟨cb, hcb⟩ := r.cr.mem (List.mem_of_getElem? hq)
  refine ⟨cr1, hc1, r.own.updne hu (fun b' c hb' => ?_), r.upd.trans (hu.mono fun k _ e => ?_)⟩
  · rintro (e | e)
    · subst e; exact hb'.ne_ hcb (by decide) rfl
    · subst e; exact hb'.ne_ r.hc.row (by decide) rfl
  · rcases e with e | e
    · left; subst e; exact List.mem_of_getElem? hq
    · right; exact e
theorem RunAt.alloc {w wr : World} {base g h : Nat} {V vo : Value} {bs : List Nat} {s : TSt} {out : List Dn} (r : RunAt w wr base g h V vo bs s out) (o : Obj) : RunAt w (wr.alloc o) base g h V vo bs s out :=
  ⟨r.cr.bel (bel_alloc _ _), r.hc.alloc _, r.own.alloc _, r.upd.alloc _⟩
theorem RunAt.app {w wr w1 : World} {base g h : Nat} {V vo v1 : Value} {bs : List Nat} {s : TSt} {out out1 : List Dn} (r : RunAt w wr base g h V vo bs s out) (own1 : OwnT Dn.cs 3 35 w1 w.heap.size v1 out1) (hg : wr.grownBy w1 vo.ownBlock) : RunAt w w1 base g h V v1 bs s out1 := by
  have hu : Upd (fun g => vo.ownBlock = some g) wr w1 := Upd.of_grown hg (fun g h => h)
  refine ⟨r.cr.upd hu (fun b cs hb => r.own.ne hb (by decide)) (fun b cs hb => r.own.ne hb (by decide)) (fun b cs hb => r.own.ne hb (by decide)), ?_, own1, ?_⟩
  · obtain ⟨o1, o2, o3, ho⟩ := r.hc.obj
    exact r.hc.upd hu (r.own.ne ho (by decide)) (r.own.ne r.hc.row (by decide))
  · exact ⟨hg.os.trans r.upd.os, hg.tape.trans r.upd.tape, hg.output.trans r.upd.output, Nat.le_trans r.upd.size hg.size, fun k hk hS => (hg.block k (Nat.lt_of_lt_of_le hk r.upd.size) (fun e => by have := (r.own.lt k e.symm).1; omega)).trans (r.upd.block k hk hS)⟩
set_option maxRecDepth 100000 in
set_option maxHeartbeats 1000000 in
theorem run_any (base g h : Nat) (V : Value) (bs : List Nat) (s : TSt) (w : World) (A2 : Option Addr) (m cap2 : Nat) (picks : List Int) (cr : CrewAt w base V bs s.ws) (hc : Cel w g h s.l) (hl : s.l.length ≤ 65536)
    (rd : Rd .i64 w w.heap.size A2 m picks) (hA : 0 < m → ∀ a, A2 = some a → a.block ≠ h ∧ a.block < base) (hm : m ≤ 100000) :
    Calls Try.prog 20 #[.pointer (some ⟨g, 0, none⟩), V, .slice A2 m cap2] w fun e w' => ∃ v, e = .returned v ∧
      RunAt w w' base g h V v bs (s.runs (picks.map (pk · s.ws.length))).1 (s.runs (picks.map (pk · s.ws.length))).2 := by
  obtain ⟨i0, hi, hz0, hz1, hz2⟩ := info_parts info_done
  have h0 : RunAt w w base g h V (.slice none 0 0) bs s [] := ⟨cr, hc, OwnT.nil _ _ _ _ _, Upd.refl _ _⟩
  obtain ⟨A, cap, rfl, hc1, hc2⟩ := cr.own.form cr.len
  generalize hn : s.ws.length = n at *
  replace hn := Lib.hid hn
  rcases Nat.eq_zero_or_pos n with hz | hpos
  · subst hz
    have he := runs_none s (List.length_eq_zero_iff.mp hn.out) (picks.map (pk · 0))
    rw [he]
    clear he
    go_enter Try.func20, Try.ntmps20
    go_wp2_with fail
    go_ret
    exact ⟨_, rfl, h0⟩
  · have hd : ((n : Int) == 0) = false := by simp; omega
    have hwn : IntKind.u64.wrap (n : Int) = n := by unfold maxLen at hc2; rw [IntKind.wrap_u64]; omega
    go_enter Try.func20, Try.ntmps20
    go_wp2_with fail
    go_loopg [7, 19] m (fun gk s7 s19 wr => ∃ (j : Nat), gk = m - j ∧ j ≤ m ∧ s19 = .int .i64 j ∧ RunAt w wr base g h (.slice A n cap) s7 bs (s.runs ((picks.take j).map (pk · n))).1 (s.runs ((picks.take j).map (pk · n))).2)
    case atStart => exact ⟨0, rfl, Nat.zero_le _, rfl, h0⟩
    case round =>
      clear h0
      obtain ⟨j, hgk, hj, rfl, r⟩ := hrel
      by_cases hlt : j < m
      · have hd2 : decide (j < m) = true := by simpa using hlt
        obtain ⟨pb, po, rfl, hpb, pc, prng⟩ := (rd.updA r.upd (Nat.le_refl _) (fun h0 a ha => by
          obtain ⟨e1, e2⟩ := hA h0 a ha
          rintro (e | e)
          · have := cr.base _ e; omega
          · exact e1 e)).at_ hlt
        have hpj : picks[j]? = some (picks.getD j 0) := by rw [List.getD_eq_getElem?_getD, List.getElem?_eq_getElem (by have := rd.len; omega)]; rfl
        generalize picks.getD j 0 = x at *
        obtain ⟨q1, q2⟩ := pk_spec x n hpos
        have htk : (picks.take (j + 1)).map (pk · n) = (picks.take j).map (pk · n) ++ [pk x n] := by rw [List.take_add_one, hpj]; simp
        have hsn := runs_snoc s ((picks.take j).map (pk · n)) (pk x n)
        rw [← htk] at hsn
        have hol := runs_out_len s ((picks.take j).map (pk · n))
        have hsl := (TSt.runs_len s ((picks.take j).map (pk · n)))
        simp only [List.length_map, List.length_take] at hol
        generalize pk x n = q at *
        have hqb : q < bs.length := by have := cr.len; have := hn.out; omega
        obtain ⟨b, hqb⟩ : ∃ b, bs[q]? = some b := ⟨_, List.getElem?_eq_getElem hqb⟩
        have hbl : bs.length = n := by have := cr.len; have := hn.out; omega
        obtain ⟨g2, c2, hVe, _, _, _, _, _⟩ := r.cr.own.formG hbl hpos
        simp only [Value.slice.injEq, true_and] at hVe
        obtain ⟨rfl, rfl⟩ := hVe
        have cq : wr.cell? ⟨g2, q, none⟩ = some (.pointer (some ⟨b, 0, none⟩)) := by
          have := r.cr.own.at_ ptr_len hqb (f := 0) (u := .pointer (some ⟨b, 0, none⟩)) rfl
          simpa using this
        replace hgk := Lib.hid hgk
        replace htk := Lib.hid htk
        replace hsn := Lib.hid hsn
        have hll : (s.runs ((picks.take j).map (pk · n))).1.l.length ≤ 65536 := by rw [hsl.2]; exact hl
        replace hsl := Lib.hid hsl
        generalize hs1 : (s.runs ((picks.take j).map (pk · n))).1 = s1 at *
        generalize hs2 : (s.runs ((picks.take j).map (pk · n))).2 = out at *
        replace hs1 := Lib.hid hs1
        replace hs2 := Lib.hid hs2
        have hqn : (q : Int) < n := by omega
        have hwq : wrap64 (q : Int) = q := IntWalk.wrap64_in _ (by unfold maxLen at hc2; omega)
        clear hpj
        go_wp2_with fail
        refine (step_crew base b q g h _ bs s1 wr r.cr hqb r.hc hll).mono ?_
        rintro e w1 ⟨got, ok, rfl, cr1, hc1, hu, told⟩
        have r1 := r.step hqb cr1 hc1 hu
        clear cr1 hc1 hu r
        rcases told with ⟨rfl, he⟩ | ⟨rfl, wk, k', hwk, hlt2, he, hk'⟩
        · go_wp2_with fail
          go_roundg (m - (j + 1))
          case measure => have := hgk.out; omega
          case rel =>
            refine ⟨j + 1, rfl, by omega, by go_num, ?_⟩
            have h1 := hsn.out
            rw [he] at h1
            rw [h1]
            rw [he] at r1
            simpa using r1
        · obtain ⟨b', hb', hwk'⟩ := r1.cr.at_ hk'
          rw [hqb] at hb'
          simp only [Option.some.injEq] at hb'
          subst hb'
          obtain ⟨A', cap', h1', h2', h3', h4'⟩ := hwk'.obj
          have p1 : w1.cell? ⟨b, 1, none⟩ = some (.int .i64 ((wk.pos : Int) + 1)) := h3'.cell 1
          have hpl : (wk.pos : Int) + 1 ≤ 9223372036854775807 := by simp only at h1'; unfold maxLen at h2'; omega
          have hwp : wrap64 ((wk.pos : Int) + 1 - 1) = wk.pos := by rw [IntWalk.wrap64_in _ (by omega)]; omega
          clear h3' h4' hwk'
          generalize hwp' : wk.pos = ps at *
          replace hwp' := Lib.hid hwp'
          have hx := RdT.new (cs := Dn.cs) (sz := 3) Dn.cs_len w1 35 [⟨q, ps, got⟩] #[.int .i64 q, .int .i64 ps, .int .u64 got] rfl 1 rfl
          have r2 := r1.alloc (.cells #[.int .i64 q, .int .i64 ps, .int .u64 got] 35)
          have hub := r2.upd.size
          go_wp2_with (at_builtin; go_loud (refine wpList_appT Dn.cs_len Dn.cs_one (by decide) _ rfl (.tmp 41) (.tmp 50) 32 rfl w.heap.size 35 i0 (.agg #[.int .i64 0, .int .i64 0, .int .u64 0]) 24 Try.underlying32 hi hz0 hz1 hz2 rfl u7 rfl out r2.own _ _ 1 1 rfl [⟨q, ps, got⟩] hx (by omega) (by decide) hub ?_; intro v1 w2 own1 hg1 hb1))
          have r3 := r2.app own1 hg1
          clear r1 r2 hx own1 hg1 hb1 hub
          go_wp2_with fail
          go_roundg (m - (j + 1))
          case measure => have := hgk.out; omega
          case rel =>
            refine ⟨j + 1, rfl, by omega, by go_num, ?_⟩
            have h1 := hsn.out
            rw [he] at h1
            rw [h1]
            exact r3
      · obtain rfl : j = m := by omega
        rw [show picks.take j = picks from List.take_of_length_le (by rw [rd.len]; omega)] at r
        go_wp2
        go_ret
        exact ⟨_, rfl, r⟩
theorem OwnT.mono {α : Type} {cs : α → List Value} {sz : Nat} {e : TypeId} {w : World} {base base' : Nat} {v : Value} {l : List α} (h : OwnT cs sz e w base v l) (hb : base' ≤ base) : OwnT cs sz e w base' v l := by
  refine ⟨h.row.1, ?_⟩
  rcases h.row.2 with hn | ⟨g, cap, cur, rfl, hg, rest⟩
  · exact .inl hn
  · exact .inr ⟨g, cap, cur, rfl, by omega, rest⟩
def freshSt (ps : List (List TOp)) (l : List Int) : TSt := ⟨(ps.take 64).map fresh, l⟩
theorem Run_any (g h : Nat) (A : Option Addr) (n cap : Nat) (ps : List (List TOp)) (l : List Int) (w : World) (A2 : Option Addr) (m cap2 : Nat) (picks : List Int) (hp : PrgsAt w A n ps) (hn : n ≤ cap) (hcap : cap ≤ maxLen) (hc : Cel w g h l) (hl : l.length ≤ 65536)
    (rd : Rd .i64 w w.heap.size A2 m picks) (hA : 0 < m → ∀ a, A2 = some a → a.block ≠ h ∧ a.block < w.heap.size) (hm : m ≤ 100000) :
    Calls Try.prog 22 #[.pointer (some ⟨g, 0, none⟩), .slice A n cap, .slice A2 m cap2] w fun e w' => ∃ v, e = .returned v ∧
      Cel w' g h ((freshSt ps l).runs (picks.map (pk · (ps.take 64).length))).1.l ∧ OwnT Dn.cs 3 35 w' w.heap.size v ((freshSt ps l).runs (picks.map (pk · (ps.take 64).length))).2 ∧ Upd (fun x => x = h) w w' := by
  go_enter Try.func22, Try.ntmps22
  go_wp2_with fail
  refine (crew_any A n cap ps w hp hn hcap).mono ?_
  rintro e w1 ⟨V, bs, rfl, bel, cr⟩
  go_wp2_with fail
  refine (run_any w.heap.size g h V bs (freshSt ps l) w1 A2 m cap2 picks cr (hc.bel bel) hl ((rd.below bel).more bel.size) hA hm).mono ?_
  rintro e w2 ⟨v, rfl, r⟩
  go_wp2_with fail
  go_ret
  have hlen : (freshSt ps l).ws.length = (ps.take 64).length := by simp [freshSt]
  rw [hlen] at r
  refine ⟨_, rfl, r.hc, r.own.mono bel.size, ⟨r.upd.os.trans bel.os, r.upd.tape.trans bel.tape, r.upd.output.trans bel.output, Nat.le_trans bel.size r.upd.size, fun k hk hS => ?_⟩⟩
  refine (r.upd.block k (Nat.lt_of_lt_of_le hk bel.size) ?_).trans (bel.block k hk)
  rintro (e | e)
  · have := cr.base k e; omega
  · exact hS e
end Go.Proofs.Ytoifojamblnijaa
