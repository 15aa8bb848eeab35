/- The walks of package turns: the crew. -/
import Derived.Test.YtoifojamblnijaaTurns
import Derived.Test.YtoifojamblnijaaFrame
namespace Go.Proofs.Ytoifojamblnijaa
set_option linter.unusedVariables false
set_option linter.unusedSimpArgs false
open Go.RowKit
/-- rows of programs in memory -/
def PrgsAt (w : World) (A : Option Addr) (n : Nat) (ps : List (List TOp)) : Prop :=
  ps.length = n ∧ (0 < n → ∃ b o cs, A = some ⟨b, o, none⟩ ∧ Blk w b 25 cs ∧ ∀ (j : Nat) p, ps[j]? = some p → ∃ A' cap, p.length ≤ cap ∧ cap ≤ maxLen ∧ cs[o + j]? = some (.slice A' p.length cap) ∧ PrgAt w A' p.length p)
theorem PrgsAt.bel {w w' : World} {A : Option Addr} {n : Nat} {ps : List (List TOp)} (h : PrgsAt w A n ps) (hb : Below w.heap.size w w') : PrgsAt w' A n ps := by
  refine ⟨h.1, fun h0 => ?_⟩
  obtain ⟨b, o, cs, rfl, hbk, hc⟩ := h.2 h0
  refine ⟨b, o, cs, rfl, hbk.bel hb, fun j p hj => ?_⟩
  obtain ⟨A', cap, h1, h2, h3, h4⟩ := hc j p hj
  exact ⟨A', cap, h1, h2, h3, h4.bel hb⟩
def ptr (b : Nat) : List Value := [.pointer (some ⟨b, 0, none⟩)]
theorem ptr_len (b : Nat) : (ptr b).length = 1 := rfl
theorem ptr_one (b : Nat) : ∀ u ∈ ptr b, u.oneCell' = true := by intro u hu; simp [ptr] at hu; subst hu; rfl
/-- a crew in memory -/
structure CrewAt (w : World) (base : Nat) (v : Value) (bs : List Nat) (ws : List Wk) : Prop where
  own : OwnT ptr 1 74 w base v bs
  len : bs.length = ws.length
  nod : bs.Nodup
  base : ∀ b ∈ bs, base ≤ b
  wk : ∀ (i b : Nat) (k : Wk), bs[i]? = some b → ws[i]? = some k → WkAt w b k
theorem OwnT.ne {α : Type} {cs : α → List Value} {sz : Nat} {e t : TypeId} {w : World} {base g : Nat} {v : Value} {l : List α} {c : Array Value} (h : OwnT cs sz e w base v l) (hb : Blk w g t c) (hne : e ≠ t) : v.ownBlock ≠ some g := by
  intro hv
  rcases h.row.2 with ⟨rfl, h1⟩ | ⟨g', cap, cur, rfl, hg, hh, _⟩
  · simp [Value.ownBlock] at hv
  · simp only [Value.ownBlock, Option.some.injEq] at hv
    have h' : Blk w g' e cur := hh
    exact h'.ne_ hb hne hv
theorem WkAt.upd {S : Nat → Prop} {w w' : World} {b : Nat} {k : Wk} (h : WkAt w b k) (hu : Upd S w w') (hb : ¬ S b) (hS : ∀ b cs, Blk w b 27 cs → ¬ S b) : WkAt w' b k := by
  obtain ⟨A, cap, h1, h2, h3, h4⟩ := h.obj
  exact ⟨⟨A, cap, h1, h2, h3.upd hu hb, h4.upd hu hS⟩, h.pos, h.kept⟩
theorem WkAt.bel {w w' : World} {b : Nat} {k : Wk} (h : WkAt w b k) (hb : Below w.heap.size w w') : WkAt w' b k :=
  h.upd (Upd.of_below hb (fun _ => False)) id (fun _ _ _ => id)
theorem WkAt.blk {w : World} {b : Nat} {k : Wk} (h : WkAt w b k) : ∃ cs, Blk w b 78 cs := by obtain ⟨A, cap, h1, h2, h3, h4⟩ := h.obj; exact ⟨_, h3⟩
theorem CrewAt.at_ {w : World} {base : Nat} {v : Value} {bs : List Nat} {ws : List Wk} (h : CrewAt w base v bs ws) {i : Nat} {k : Wk} (hk : ws[i]? = some k) : ∃ b, bs[i]? = some b ∧ WkAt w b k := by
  have hi : i < bs.length := by rw [h.len]; exact (List.getElem?_eq_some_iff.1 hk).1
  exact ⟨bs[i], List.getElem?_eq_getElem hi, h.wk i _ k (List.getElem?_eq_getElem hi) hk⟩
theorem CrewAt.mem {w : World} {base : Nat} {v : Value} {bs : List Nat} {ws : List Wk} (h : CrewAt w base v bs ws) {b : Nat} (hb : b ∈ bs) : ∃ cs, Blk w b 78 cs := by
  obtain ⟨i, hi, rfl⟩ := List.mem_iff_getElem.1 hb
  have hi2 : i < ws.length := by rw [← h.len]; exact hi
  exact (h.wk i _ _ (List.getElem?_eq_getElem hi) (List.getElem?_eq_getElem hi2)).blk
theorem CrewAt.upd {S : Nat → Prop} {w w' : World} {base : Nat} {v : Value} {bs : List Nat} {ws : List Wk} (h : CrewAt w base v bs ws) (hu : Upd S w w') (h1 : ∀ b cs, Blk w b 78 cs → ¬ S b)
    (h2 : ∀ b cs, Blk w b 27 cs → ¬ S b) (h3 : ∀ b cs, Blk w b 74 cs → ¬ S b) : CrewAt w' base v bs ws := by
  refine ⟨h.own.upd hu (fun g hg => ?_), h.len, h.nod, h.base, fun i b k hb hk => ?_⟩
  · rcases h.own.row.2 with ⟨rfl, _⟩ | ⟨g', cap, cur, rfl, _, hh, _⟩
    · simp [Value.ownBlock] at hg
    · simp only [Value.ownBlock, Option.some.injEq] at hg
      subst hg
      exact h3 g' cur hh
  · have hw := h.wk i b k hb hk
    obtain ⟨cs, hc⟩ := hw.blk
    exact hw.upd hu (h1 b cs hc) h2
theorem CrewAt.bel {w w' : World} {base : Nat} {v : Value} {bs : List Nat} {ws : List Wk} (h : CrewAt w base v bs ws) (hb : Below w.heap.size w w') : CrewAt w' base v bs ws :=
  h.upd (Upd.of_below hb (fun _ => False)) (fun _ _ _ => id) (fun _ _ _ => id) (fun _ _ _ => id)
theorem CrewAt.app {w w1 : World} {base x : Nat} {v v1 : Value} {bs : List Nat} {ws : List Wk} {k : Wk} (h : CrewAt w base v bs ws) (own1 : OwnT ptr 1 74 w1 base v1 (bs ++ [x])) (hg : w.grownBy w1 v.ownBlock)
    (hx : x ∉ bs) (hbx : base ≤ x) (hw : WkAt w x k) : CrewAt w1 base v1 (bs ++ [x]) (ws ++ [k]) := by
  have hu : Upd (fun g => v.ownBlock = some g) w w1 := Upd.of_grown hg (fun g h => h)
  have ho : ∀ b cs, Blk w b 27 cs → ¬ v.ownBlock = some b := fun b cs hb => h.own.ne hb (by decide)
  refine ⟨own1, by rw [List.length_append, List.length_append, h.len]; rfl, ?_, ?_, ?_⟩
  · rw [List.nodup_append]
    exact ⟨h.nod, by simp, by intro a ha b hb e; simp at hb; subst hb; subst e; exact hx ha⟩
  · intro b hb
    rcases List.mem_append.1 hb with h1 | h1
    · exact h.base b h1
    · simp at h1; subst h1; exact hbx
  · intro i b q hb hq
    rcases Nat.lt_or_ge i bs.length with hi | hi
    · rw [List.getElem?_append_left hi] at hb
      rw [List.getElem?_append_left (by rw [← h.len]; exact hi)] at hq
      have hk := h.wk i b q hb hq
      obtain ⟨cs, hc⟩ := hk.blk
      exact hk.upd hu (h.own.ne hc (by decide)) ho
    · rw [List.getElem?_append_right hi] at hb
      rw [List.getElem?_append_right (by rw [← h.len]; exact hi)] at hq
      rw [h.len] at hb
      cases hj : i - ws.length with
      | zero =>
        rw [hj] at hb hq
        simp at hb hq
        subst hb hq
        obtain ⟨cs, hc⟩ := hw.blk
        exact hw.upd hu (h.own.ne hc (by decide)) ho
      | succ j => rw [hj] at hb; simp at hb
theorem info_ptr : (Try.prog.info? 74).map (fun i => (i.zero, i.size, i.bytes)) = some (some (.pointer none), 1, 8) := by kernel_rfl
def fresh (p : List TOp) : Wk := ⟨p, 0, 0⟩
set_option maxHeartbeats 1000000 in
theorem crew_any (A : Option Addr) (n cap : Nat) (ps : List (List TOp)) (w : World) (hp : PrgsAt w A n ps) (hn : n ≤ cap) (hcap : cap ≤ maxLen) :
    Calls Try.prog 19 #[.slice A n cap] w fun e w' => ∃ v bs, e = .returned v ∧ Below w.heap.size w w' ∧ CrewAt w' w.heap.size v bs ((ps.take 64).map fresh) := by
  obtain ⟨i0, hi, hz0, hz1, hz2⟩ := info_parts info_ptr
  obtain ⟨m, hm⟩ : ∃ m : Nat, m = min n 64 := ⟨_, rfl⟩
  have hmi : (if (64 : Int) < (n : Int) then 64 else (n : Int)) = (m : Int) := by split <;> omega
  have hm1 : (m : Int) ≤ cap := by omega
  have hm2 : m ≤ cap := by omega
  have hm3 : (0 : Int) ≤ m := by omega
  have hmn : m ≤ n := by omega
  have hm64 : m ≤ 64 := by omega
  have htk : ps.take 64 = ps.take m := by rw [hm, ← hp.1]; rcases Nat.le_total ps.length 64 with h | h; · rw [Nat.min_eq_left h, List.take_of_length_le h, List.take_length]
                                          · rw [Nat.min_eq_right h]
  rw [htk]
  replace hm := Lib.hid hm
  clear htk
  go_enter Try.func19, Try.ntmps19
  go_wp2_with fail
  go_loopg [3, 12] m (fun gk s3 s12 wr => ∃ (k : Nat) (bs : List Nat), gk = m - k ∧ k ≤ m ∧ s12 = .int .i64 k ∧ CrewAt wr w.heap.size s3 bs ((ps.take k).map fresh) ∧ Below w.heap.size w wr)
  case atStart => exact ⟨0, [], rfl, Nat.zero_le _, rfl, ⟨OwnT.nil _ _ _ _ _, rfl, List.nodup_nil, by simp, by simp⟩, Below.refl _ _⟩
  case round =>
    obtain ⟨k, bs, hgk, hk, rfl, cr, bel⟩ := hrel
    by_cases hlt : k < m
    · have hd : decide (k < m) = true := by simpa using hlt
      obtain ⟨b, o, cs, rfl, hb, hps⟩ := hp.2 (by omega)
      have hkl : k < ps.length := by rw [hp.1]; omega
      obtain ⟨p, hpk⟩ : ∃ p, ps[k]? = some p := ⟨_, List.getElem?_eq_getElem hkl⟩
      obtain ⟨A', cap', h1, h2, h3, h4⟩ := hps k p hpk
      have c0 : wr.cell? ⟨b, o + k, none⟩ = some (.slice A' p.length cap') := ((hb.below bel hb.lt).cell _).trans h3
      clear hps
      replace hgk := Lib.hid hgk
      generalize hnp : p.length = np at *
      replace hnp := Lib.hid hnp
      have kb := Blk.new wr 78 #[.slice A' np cap', .int .i64 0, .int .u64 0]
      have bel1 := bel_alloc wr (.cells #[.slice A' np cap', .int .i64 0, .int .u64 0] 78)
      have cr1 := cr.bel bel1
      have pg1 := (h4.bel (Below.refl _ _)) |> fun h => PrgAt.bel (w := w) (w' := wr) h bel |>.bel bel1
      have hx := RdT.new (cs := ptr) (sz := 1) ptr_len (wr.alloc (.cells #[.slice A' np cap', .int .i64 0, .int .u64 0] 78)) 74 [wr.heap.size] #[.pointer (some ⟨wr.heap.size, 0, none⟩)] rfl 1 rfl
      rw [show (wr.alloc (.cells #[.slice A' np cap', .int .i64 0, .int .u64 0] 78)).heap.size = wr.heap.size + 1 by simp] at hx
      have cr2 := cr1.bel (bel_alloc _ (.cells #[.pointer (some ⟨wr.heap.size, 0, none⟩)] 74))
      have kb2 := kb.bel (bel_alloc _ (.cells #[.pointer (some ⟨wr.heap.size, 0, none⟩)] 74))
      have pg2 := pg1.bel (bel_alloc _ (.cells #[.pointer (some ⟨wr.heap.size, 0, none⟩)] 74))
      have bel2 : Below w.heap.size w ((wr.alloc (.cells #[.slice A' np cap', .int .i64 0, .int .u64 0] 78)).alloc (.cells #[.pointer (some ⟨wr.heap.size, 0, none⟩)] 74)) := bel_after (bel_after bel bel1) (bel_alloc _ _)
      go_wp2_with (at_builtin; go_loud (refine wpList_appT ptr_len ptr_one (by decide) _ rfl (.tmp 16) (.tmp 20) 71 rfl w.heap.size 74 i0 (.pointer none) 8 Try.underlying71 hi hz0 hz1 hz2 rfl u3 rfl bs cr2.own _ _ 1 1 rfl [wr.heap.size] hx (by rw [cr.len, List.length_map, List.length_take]; omega) (by decide) bel2.size ?_; intro v1 w1 own1 hg1 hb1))
      have hnew : WkAt ((wr.alloc (.cells #[.slice A' np cap', .int .i64 0, .int .u64 0] 78)).alloc (.cells #[.pointer (some ⟨wr.heap.size, 0, none⟩)] 74)) wr.heap.size (fresh p) :=
        ⟨⟨A', cap', by simp only [fresh]; rw [hnp.out]; exact h1, h2, by simp only [fresh]; rw [hnp.out]; exact kb2, by simp only [fresh]; rw [hnp.out]; exact pg2⟩, Nat.zero_le _, by simp [fresh]⟩
      have cr3 := cr2.app own1 hg1 (fun hm => by obtain ⟨cs, hc⟩ := cr.mem hm; have := hc.lt; omega) bel.size hnew
      have bel3 : Below w.heap.size w w1 := bel2.grown hg1 (by have := bel2.size; exact this) (fun g h => (cr2.own.lt g h).1)
      rw [show (ps.take k).map fresh ++ [fresh p] = (ps.take (k + 1)).map fresh by rw [List.take_add_one, hpk]; simp] at cr3
      clear kb bel1 cr1 pg1 hx cr2 kb2 pg2 bel2 own1 hg1 hb1 hnew
      go_wp2_with fail
      go_roundg (m - (k + 1))
      case measure => have := hgk.out; omega
      case rel => exact ⟨k + 1, _, rfl, by omega, by go_num, cr3, bel3⟩
    · obtain rfl : k = m := by omega
      go_wp2
      go_ret
      exact ⟨_, bs, rfl, bel, cr⟩
end Go.Proofs.Ytoifojamblnijaa
