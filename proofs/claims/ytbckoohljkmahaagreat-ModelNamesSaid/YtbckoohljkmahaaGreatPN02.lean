/- What the laws' proofs lean on: plain facts and contracts of the program's functions, laid together (2). -/
import Derived.Shelf.SlIterI.Nil
import Derived.Shelf.SortM.Plain
import Derived.Shelf.SortM.SortNone
import Derived.Test.YtbckoohljkmahaaGreatProg
import Derived.Test.YtbckoohljkmahaaGreatPB02
import Derived.Test.YtbckoohljkmahaaGreatPN01
namespace Go.Proofs.YtbckoohljkmahaaGreat
set_option linter.unusedVariables false
set_option linter.unusedSimpArgs false
open Go.RowKit Go.Maps
theorem rbd_info : (Tryz.prog.info? 92).map (fun i => (i.zero, i.size, i.bytes)) = some (some (.agg #[.int .i64 0, .int .u32 0, .int .u16 0, .int .i64 0, .int .i64 0, .int .i64 0]), 6, 40) := by kernel_rfl
theorem rbd_size : (Tryz.prog.info? 92).map (·.size) = some 6 := by kernel_rfl
set_option maxRecDepth 100000 in
set_option maxHeartbeats 4000000 in
theorem from_any (L : List Bd) (A : Option Addr) (n cap : Nat) (w : World) (hr : RdT BdL 6 w w.heap.size A n L) (hnc : n ≤ cap) (hn1 : n ≤ 1000000) :
    Calls Tryz.prog 28 #[.slice A n cap] w fun e w' => ∃ v, e = .returned v ∧ OwnT BdL 6 92 w' w.heap.size v L ∧ Below w.heap.size w w' := by
  obtain ⟨i0, hi, hz0, hz1, hz2⟩ := info_parts rbd_info
  go_enter Tryz.func28, Tryz.ntmps28
  go_wp2_with fail
  go_loopw [3, 4] (fun o i wr => ∃ k : Nat, k ≤ n ∧ i = .int .i64 k ∧ OwnT BdL 6 92 wr w.heap.size o (L.take k) ∧ Below w.heap.size w wr) (fun _ i _ => n - (intOf i).toNat)
  case atStart => exact ⟨0, by omega, rfl, ⟨World.ownsRow_nil _ _ _ _⟩, Below.refl _ _⟩
  case round =>
    obtain ⟨k, hk, rfl, own, bel⟩ := hrel
    rcases Nat.lt_or_ge k n with hkn | hkn
    · have d1 : decide ((k : Int) < (n : Int)) = true := by simpa using hkn
      have d2 : decide (k < n) = true := by simpa using hkn
      obtain ⟨b, hb⟩ : ∃ b, L[k]? = some b := ⟨_, List.getElem?_eq_getElem (by rw [hr.len]; omega)⟩
      have htk : L.take (k + 1) = L.take k ++ [b] := by rw [List.take_add_one, hb]; rfl
      have hlt : (L.take k).length = k := by rw [List.length_take, hr.len]; omega
      obtain ⟨g, o, hA, hg, hc⟩ := hr.cel (by omega)
      have hcx := fun (t : Tw (Up w)) f u hu => (t.h.cell (p := ⟨g, o + k * 6 + f, none⟩) hg).trans (hc k b hb f u hu)
      subst hA
      replace htk := Lib.hid htk
      replace hlt := Lib.hid hlt
      obtain ⟨⟨b0, b1, b2⟩, b3, b4, b5⟩ := b
      clear hb hc
      have z0 : ∀ w', (∃ t : Tw (Up w), w' = t.w) → ∀ j u, ([.int .i64 b0, .int .u32 b1, .int .u16 b2] : List Value)[j]? = some u → w'.cell? ⟨g, o + k * 6 + j, none⟩ = some u := fun w' ⟨t, ht⟩ j u hu => by
        rw [ht]
        refine hcx t j u ?_
        match j with
        | 0 | 1 | 2 => exact hu
        | j + 3 => simp at hu
      have z3 : ∀ t : Tw (Up w), t.w.cell? ⟨g, o + k * 6 + 3, none⟩ = some (.int .i64 b3) := fun t => hcx t 3 _ rfl
      have z4 : ∀ t : Tw (Up w), t.w.cell? ⟨g, o + k * 6 + 4, none⟩ = some (.int .i64 b4) := fun t => hcx t 4 _ rfl
      have z5 : ∀ t : Tw (Up w), t.w.cell? ⟨g, o + k * 6 + 5, none⟩ = some (.int .i64 b5) := fun t => hcx t 5 _ rfl
      have zz := Up.one w
      have k0 : (0 : Int) ≤ (k : Int) := by omega
      have k1 : (k : Int) < (n : Int) := by omega
      clear hcx
      go_upto_region 5 with fail
      refine wp_region_plan (Up w) [(0, true), (1, true), (2, true), (3, true), (4, true), (5, true), (7, true), (8, true), (9, true), (10, true), (11, true), (12, true), (13, true), (14, true), (15, true), (16, true), (17, true), (18, true), (19, true), (20, true), (21, true), (6, false), (22, true), (23, false), (24, false), (25, true)] (by kernel_rfl) (by kernel_rfl) (by kernel_rfl) (by kernel_rfl) bel.drew ?_
      replace own := own.drew
      replace bel := bel.drew
      generalize wr.drew = W1 at *
      refine wpPl_qs 21 _ _ _ (by kernel_rfl) (by kernel_rfl) (by simp) ?_
      unfold clsS
      simp only [List.take_succ_cons, List.take_zero, List.drop_succ_cons, List.drop_zero, List.filterMap_cons, List.filterMap_nil, List.getElem?_toArray, List.getElem?_cons_zero, List.getElem?_cons_succ]
      repeat (first
        | go_big_quiet_skip
        | (go_big_quiet_want; first | (refine quiet_ldAt rfl rfl z0 Tryz.underlying32 fl_size ?_; go_simp; go_big_quiet_on) | (go_big_quiet_op; go_big_quiet_on))
        | (refine id (?_ : wpQuiet _ _ _ _ (_ :: _) _); first | go_big_quiet_skip | (go_big_quiet_want; first | (refine quiet_ldAt rfl rfl z0 Tryz.underlying32 fl_size ?_; go_simp; go_big_quiet_on) | (go_big_quiet_op; go_big_quiet_on))))
      refine wpQuiet_nil ?_
      clear z0 z3 z4 z5
      refine wpPl_e _ (by rfl) (by kernel_rfl) (fun K hK => ?_)
      go_simp
      refine (FromKey_any ⟨b0, b1, b2⟩ W1).mono ?_
      rintro e W2 ⟨rfl, hb2⟩
      replace own := own.below hb2
      replace bel := bel_after bel hb2
      refine hK _ _ bel ?_
      clear hK K hb2
      simp only [Fl.cs]
      refine wpPl_qs 1 _ _ _ (by kernel_rfl) (by kernel_rfl) (by simp) ?_
      unfold clsS
      simp only [List.take_succ_cons, List.take_zero, List.drop_succ_cons, List.drop_zero, List.filterMap_cons, List.filterMap_nil, List.getElem?_toArray, List.getElem?_cons_zero, List.getElem?_cons_succ]
      repeat (first
        | go_big_quiet_skip
        | (go_big_quiet_want; go_big_quiet_op; go_big_quiet_on)
        | (refine id (?_ : wpQuiet _ _ _ _ (_ :: _) _); first | go_big_quiet_skip | (go_big_quiet_want; go_big_quiet_op; go_big_quiet_on)))
      refine wpQuiet_nil ?_
      have hy := RdT.new (cs := BdL) (sz := 6) BdL_len W2 92 [(⟨⟨b0, b1, b2⟩, b3, b4, b5⟩ : Bd)] #[.int .i64 b0, .int .u32 b1, .int .u16 b2, .int .i64 b3, .int .i64 b4, .int .i64 b5] rfl 1 rfl
      have hsz := bel.size
      have hal := bel_alloc W2 (.cells #[.int .i64 b0, .int .u32 b1, .int .u16 b2, .int .i64 b3, .int .i64 b4, .int .i64 b5] 92)
      refine wpPl_e _ (by rfl) (by kernel_rfl) (fun K hK => ?_)
      go_simp
      replace own := own.below hal
      replace bel := bel_after bel hal
      refine hK _ _ bel ?_
      clear hK K
      have hsz3 := hal.size
      clear hal
      generalize W2.alloc (.cells #[.int .i64 b0, .int .u32 b1, .int .u16 b2, .int .i64 b3, .int .i64 b4, .int .i64 b5] 92) = W3 at *
      refine wpPl_e _ (by rfl) (by kernel_rfl) (fun K hK => ?_)
      refine wp_appT BdL_len BdL_one (by decide) W3 (.tmp 11) (.tmp 34) 81 rfl w.heap.size 92 i0 (.agg #[.int .i64 0, .int .u32 0, .int .u16 0, .int .i64 0, .int .i64 0, .int .i64 0]) 40 Tryz.underlying81 hi hz0 hz1 hz2 rfl _ rfl (L.take k) own _ _ 1 1 rfl [(⟨⟨b0, b1, b2⟩, b3, b4, b5⟩ : Bd)] hy (by rw [hlt.out]; omega) (by decide) bel.size ?_
      intro v4 W4 own4 hg4 hv4
      have hb4 : Below w.heap.size W3 W4 := (Upd.of_grown (S := fun k => w.heap.size ≤ k) hg4 (fun g e => (own.lt g e).1)).below bel.size (fun k hk h => by omega)
      rw [← htk.out] at own4
      replace bel := bel.trans hb4
      go_simp
      refine hK _ _ bel ?_
      clear hK K
      refine wpPl_qs 1 _ _ _ (by kernel_rfl) (by kernel_rfl) (by simp) ?_
      unfold clsS
      simp only [List.take_succ_cons, List.take_zero, List.drop_succ_cons, List.drop_zero, List.filterMap_cons, List.filterMap_nil, List.getElem?_toArray, List.getElem?_cons_zero, List.getElem?_cons_succ]
      repeat (first
        | go_big_quiet_skip
        | (go_big_quiet_want; go_big_quiet_op; go_big_quiet_on)
        | (refine id (?_ : wpQuiet _ _ _ _ (_ :: _) _); first | go_big_quiet_skip | (go_big_quiet_want; go_big_quiet_op; go_big_quiet_on)))
      refine wpQuiet_nil ?_
      unfold wpPl
      refine NoPanic.normal ?_
      go_wp2_with fail
      go_roundw
      case rel => exact ⟨k + 1, by omega, by go_num, own4, bel⟩
      case measure => simp [intOf]; omega
    · obtain rfl : k = n := by omega
      have d1 : decide ((k : Int) < (k : Int)) = false := by simp
      have ht : L.take k = L := by rw [← hr.len, List.take_length]
      rw [ht] at own
      have d2 : decide (k < k) = false := by simp
      go_wp2
      go_ret
      exact ⟨_, rfl, own, bel⟩
set_option maxRecDepth 100000 in
set_option maxHeartbeats 4000000 in
theorem Same_yes (L : List Bd) (A A2 : Option Addr) (n cap cap2 : Nat) (w : World) (hr : RdT BdL 6 w w.heap.size A n L) (hr2 : RdT BdL 6 w w.heap.size A2 n L) (hn1 : n ≤ 1000000) :
    Calls Tryz.prog 29 #[.slice A n cap, .slice A2 n cap2] w fun e w' => e = .returned (.bool true) ∧ Below w.heap.size w w' := by
  go_enter Tryz.func29, Tryz.ntmps29
  go_wp2_with fail
  go_loopw [5] (fun i wr => ∃ k : Nat, k ≤ n ∧ i = .int .i64 k ∧ Below w.heap.size w wr) (fun i _ => n - (intOf i).toNat)
  case atStart => exact ⟨0, by omega, rfl, Below.refl _ _⟩
  case round =>
    obtain ⟨k, hk, rfl, bel⟩ := hrel
    rcases Nat.lt_or_ge k n with hkn | hkn
    · have d1 : decide ((k : Int) < (n : Int)) = true := by simpa using hkn
      have d2 : decide (k < n) = true := by simpa using hkn
      obtain ⟨b, hb⟩ : ∃ b, L[k]? = some b := ⟨_, List.getElem?_eq_getElem (by rw [hr.len]; omega)⟩
      obtain ⟨g, o, hA, hg, hc⟩ := hr.cel (by omega)
      obtain ⟨g2, o2, hA2, hg2, hc2⟩ := hr2.cel (by omega)
      have z0 : ∀ w', (∃ t : Tw (Up w), w' = t.w) → ∀ j u, (BdL b)[j]? = some u → w'.cell? ⟨g, o + k * 6 + j, none⟩ = some u := fun w' ⟨t, ht⟩ j u hu => by rw [ht]; exact (t.h.cell (p := ⟨g, o + k * 6 + j, none⟩) hg).trans (hc k b hb j u hu)
      have z1 : ∀ w', (∃ t : Tw (Up w), w' = t.w) → ∀ j u, (BdL b)[j]? = some u → w'.cell? ⟨g2, o2 + k * 6 + j, none⟩ = some u := fun w' ⟨t, ht⟩ j u hu => by rw [ht]; exact (t.h.cell (p := ⟨g2, o2 + k * 6 + j, none⟩) hg2).trans (hc2 k b hb j u hu)
      subst hA hA2
      obtain ⟨⟨b0, b1, b2⟩, b3, b4, b5⟩ := b
      simp only [BdL] at z0 z1
      clear hb hc hc2
      have zz := Up.one w
      have k0 : (0 : Int) ≤ (k : Int) := by omega
      have k1 : (k : Int) < (n : Int) := by omega
      go_upto_region 6 with fail
      refine region_tw (Up w) (by kernel_rfl) (by kernel_rfl) bel.drew ?_
      unfold clsS
      repeat (first
        | go_big_quiet_skip
        | (go_big_quiet_want; go_big_quiet_op; first | go_big_quiet_on | go_big_quiet_call (fail)))
      go_big_quiet_want
      refine quiet_ldAt rfl rfl z0 Tryz.underlying92 rbd_size ?_
      go_simp
      go_big_quiet_on
      repeat (first
        | go_big_quiet_skip
        | (go_big_quiet_want; go_big_quiet_op; first | go_big_quiet_on | go_big_quiet_call (fail)))
      go_big_quiet_want
      refine quiet_ldAt rfl rfl z1 Tryz.underlying92 rbd_size ?_
      go_simp
      go_big_quiet_on
      repeat (first
        | go_big_quiet_skip
        | (go_big_quiet_want; go_big_quiet_op; first | go_big_quiet_on | go_big_quiet_call (fail)))
      refine wpQuiet_nil ?_
      intro tq
      have belq := tq.h
      clear z0 z1 zz
      go_wp2_with fail
      go_roundw
      case rel => exact ⟨k + 1, by omega, by go_num, belq⟩
      case measure => simp [intOf]; omega
    · obtain rfl : k = n := by omega
      have d1 : decide ((k : Int) < (k : Int)) = false := by simp
      have d2 : decide (k < k) = false := by simp
      go_wp2
      go_ret
      exact ⟨rfl, bel⟩
end Go.Proofs.YtbckoohljkmahaaGreat
namespace Go.Proofs.YtbckoohljkmahaaGreat
set_option linter.unusedVariables false
set_option linter.unusedSimpArgs false
open Go.RowKit
section
variable {w W W' : World} {c : Cf} {gn pb fm np nf : Nat} {L : List Bd} {bs : BkL} {os : OwL}
theorem Ev.far (h : Ev w W c gn pb fm np nf L bs os) {g : Nat} {t : TypeId} {old : Array Value} (hb : Blk W g t old) (hts : (bs.all fun x => x.2.1 != t) = true) : ∀ x, x ∈ bs → x.1 ≠ g := fun x hx e => by
  have h1 := h.bs x hx
  have h2 := List.all_eq_true.1 hts x hx
  have h3 : W.heap[g]? = some (.cells old t (0, 0)) := hb
  have h4 : W.heap[x.1]? = some (.cells x.2.2 x.2.1 (0, 0)) := h1
  rw [e, h3] at h4
  simp only [Option.some.injEq, Obj.cells.injEq] at h4
  rw [← h4.2.1] at h2
  simp at h2
theorem Ev.fill (h : Ev w W c gn pb fm np nf L bs os) {g : Nat} {t : TypeId} {old : Array Value} (hb : Blk W g t old) (hbs : ∀ x, x ∈ bs → x.1 ≠ g) (ht : 5 ≠ t) (ht2 : 117 ≠ t) (hg : w.heap.size ≤ g) (cs : Array Value) : Ev w (W.setRow g cs) c gn pb fm np nf L ((g, t, cs) :: bs) os := by
  have hu := Upd.row' W g cs
  refine ⟨h.ln.updB hu (fun k e => by omega) (fun e => h.ln.nm.obj.ne_ hb ht2 e) (fun e => h.ln.nm.pl.notBlk hb e.symm) (fun e => h.ln.nm.fl.notBlk hb e.symm), fun x hx => ?_, fun x hx => (h.os x hx).updne hb ht hu⟩
  rcases List.mem_cons.1 hx with rfl | hx
  · exact hb.setRow cs
  · exact (h.bs x hx).setRow_far (hbs x hx) cs
theorem Ev.sub (h : Ev w W c gn pb fm np nf L bs os) {bs' : BkL} {os' : OwL} (h1 : ∀ x, x ∈ bs' → x ∈ bs) (h2 : ∀ x, x ∈ os' → x ∈ os) : Ev w W c gn pb fm np nf L bs' os' := ⟨h.ln, fun x hx => h.bs x (h1 x hx), fun x hx => h.os x (h2 x hx)⟩
theorem Ev.bnd (h : Ev w W c gn pb fm np nf L bs os) (hc : c.ok) (hnp : np ≤ 1000000) : Calls Tryz.prog 23 #[.pointer (some ⟨gn, 0, none⟩)] W fun e W' => ∃ A cp, e = .returned (.slice A L.length cp) ∧ L.length ≤ cp ∧ OwnT BdL 6 63 W' W.heap.size (.slice A L.length cp) L ∧ Ev w W' c gn pb fm np nf L bs os ∧ Below W.heap.size W W' := by
  refine (h.ln.bnd hc hnp).mono ?_
  rintro e W' ⟨v, rfl, hO, hl, hb⟩
  obtain ⟨A, cp, rfl, h1, h2⟩ := hO.form rfl
  exact ⟨A, cp, rfl, h1, hO, h.bel hb, hb⟩
end
end Go.Proofs.YtbckoohljkmahaaGreat
namespace Go.Proofs.YtbckoohljkmahaaGreat
set_option linter.unusedVariables false
set_option linter.unusedSimpArgs false
open Go.RowKit
def nmT (k : Nat) (j : Int) : List Int := frameL k 9 3221225985 9 j 16 []
def nmZ (k a p : Nat) (j : Int) : List Int := rwL (nmT k j) false (167772161 + (a : Int)) (5 + (p : Int))
theorem nm_all : ((List.range 2).all fun k => (List.range 3).all fun a => (List.range 5).all fun p => (List.range 40).all fun j => nmZ k a p (1000 + (j : Int)) == nmZ k a p 1000) = true := by kernel_rfl
theorem nm_eq {k a p j : Nat} (hk : k < 2) (ha : a < 3) (hp : p < 5) (hj : j < 40) : nmZ k a p (1000 + (j : Int)) = nmZ k a p 1000 := by
  have h := nm_all
  have h1 := List.all_eq_true.1 h k (List.mem_range.2 hk)
  have h2 := List.all_eq_true.1 h1 a (List.mem_range.2 ha)
  have h3 := List.all_eq_true.1 h2 p (List.mem_range.2 hp)
  exact eq_of_beq (List.all_eq_true.1 h3 j (List.mem_range.2 hj))
def nmB (k : Nat) (a p : Nat) (j : Int) : Bd := ⟨⟨carP k, 167772161 + (a : Int), 5 + (p : Int)⟩, j, if k = 1 then 1 else 0, if k = 1 then 2 else 1⟩
theorem nm_back {k a p : Nat} (hk : k < 2) (j : Int) (hj : 1000 ≤ j ∧ j ≤ 1039) :
    stepP (cfL 39) [⟨⟨carP k, 167772161 + (a : Int), 5 + (p : Int)⟩, j, 0, 1⟩] false (nmT k j) 2 0 = ([nmB k a p j], 0, nmZ k a p j) := by
  have hd := gotP_dst2 (a := 9) (b := j) (f := 16) hk
  have h := step_back (k := k) (s := 9) (d := 3221225985) (a := 9) (b := j) (f := 16) (l := []) (by omega) (by omega) (by omega) (by omega) (fun x hx => by simp at hx) (by simp) (by omega) (cfL 39) [⟨⟨carP k, 167772161 + (a : Int), 5 + (p : Int)⟩, j, 0, 1⟩] ⟨⟨carP k, 167772161 + (a : Int), 5 + (p : Int)⟩, j, 0, 1⟩ 2 0 rfl (by omega) (by rw [hd]; exact atB_one (b := ⟨⟨carP k, 167772161 + (a : Int), 5 + (p : Int)⟩, j, 0, 1⟩))
  rw [putB_one (seenB_key _ _ _)] at h
  unfold nmT nmZ
  rw [h]
  have hs : seenB ⟨⟨carP k, 167772161 + (a : Int), 5 + (p : Int)⟩, j, 0, 1⟩ (gotP k 9 j 16) false 2 = nmB k a p j := by
    have h2 : k = 0 ∨ k = 1 := by omega
    rcases h2 with rfl | rfl
    · rfl
    · show (⟨⟨carP 1, 167772161 + (a : Int), 5 + (p : Int)⟩, j, nxt 6 0 false (fb 16 4) (fb 16 1) (fb 16 2) (fb 16 16), 2⟩ : Bd) = nmB 1 a p j
      have e : nxt 6 0 false (fb 16 4) (fb 16 1) (fb 16 2) (fb 16 16) = 1 := by decide +kernel
      rw [e]; rfl
  rw [hs]
  rfl
end Go.Proofs.YtbckoohljkmahaaGreat
