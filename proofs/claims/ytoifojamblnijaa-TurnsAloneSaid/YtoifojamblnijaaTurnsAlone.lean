/- Every input of TurnsAlone answers true, and reads behind the call as it read before. No condition. -/
import Derived.Test.YtoifojamblnijaaTurns10
import Derived.Test.YtoifojamblnijaaAlonePlain
import Derived.Test.YtoifojamblnijaaTurnsOrders
namespace Go.Proofs.Ytoifojamblnijaa
set_option linter.unusedVariables false
set_option linter.unusedSimpArgs false
open Go.RowKit
def zer : List Int := [0, 0, 0, 0]
set_option maxRecDepth 100000 in
set_option maxHeartbeats 1000000 in
theorem TurnsAlone_any (A0 : Option Addr) (n0 cap0 : Nat) (p0 : List TOp) (A : Option Addr) (m cap : Nat) (picks : List Int) (w : World) (rp : RdT TOp.cs 5 w w.heap.size A0 n0 p0) (hok0 : ∀ x ∈ p0, x.ok) (hn0 : n0 ≤ cap0) (hcap0 : cap0 ≤ maxLen)
    (rd : Rd .i64 w w.heap.size A m picks) (hmc : m ≤ cap) (hcap : cap ≤ maxLen) :
    Calls Try.prog 4 #[.slice A0 n0 cap0, .slice A m cap] w fun e w' => e = .returned (.bool true) ∧ Below w.heap.size w w' := by
  obtain ⟨k, hk⟩ : ∃ k, k = min n0 20 := ⟨_, rfl⟩
  obtain ⟨p, hp⟩ : ∃ p, p = p0.take k := ⟨_, rfl⟩
  have rpk : RdT TOp.cs 5 w w.heap.size A0 k p := by rw [hp]; exact rp.take (by omega)
  have hpk := rpk.len
  have hok : ∀ x ∈ p, x.ok := fun x hx => by rw [hp] at hx; exact hok0 x (List.mem_of_mem_take hx)
  have hk20 : k ≤ 20 := by omega
  have hkc : k ≤ cap0 := by omega
  have hh := RdT.new (cs := Hdr.cs) (sz := 1) Hdr.cs_len w 39 [⟨A0, n0, cap0⟩, ⟨none, 0, 0⟩] #[.slice A0 n0 cap0, .slice none 0 0] rfl 2 rfl
  have bel0 := bel_alloc w (.cells #[.slice A0 n0 cap0, .slice none 0 0] 39)
  obtain ⟨m2, hm2, hm3, hm4⟩ := minc 100 (by omega) m
  have hm5 : (m2 : Int) ≤ cap := by omega
  have hm6 : m2 ≤ cap := by omega
  have hm7 : (0 : Int) ≤ m2 := by omega
  have hm8 : m2 ≤ 100 := by omega
  replace hpk := Lib.hid hpk
  replace hp := Lib.hid hp
  go_enter Try.func4, Try.ntmps4
  go_wp2_with fail
  refine (few_any _ 2 2 _ _ (hh.more (by simp)) (by omega) (by intro x hx; simp at hx; rcases hx with rfl | rfl <;> first | exact ⟨hn0, hcap0⟩ | exact ⟨Nat.le_refl _, Nat.zero_le _⟩)).mono ?_
  rintro e w1 ⟨v, rfl, bel1, own⟩
  replace bel1 := bel_after bel0 bel1
  have hfew : [(⟨A0, n0, cap0⟩ : Hdr), ⟨none, 0, 0⟩].map fewH = [⟨A0, k, cap0⟩, ⟨none, 0, 0⟩] := by simp only [List.map_cons, List.map_nil, fewH, hk]; rfl
  rw [hfew] at own
  obtain ⟨g0, c0, rfl, hc1, hc2, _, _, _⟩ := own.formG rfl (by simp)
  have rprg : RProgs w1 (some ⟨g0, 0, none⟩) 2 [⟨A0, k, cap0⟩, ⟨none, 0, 0⟩] [p, []] := by
    refine ⟨own.rd Hdr.cs_len rfl rfl, rfl, fun i hd q a b => ?_⟩
    match i, a, b with
    | 0, a, b => simp at a b; subst a b; exact ⟨(rpk.below bel1).more bel1.size, by have := hpk.out; omega, hok⟩
    | 1, a, b => simp at a b; subst a b; exact ⟨RdT.nil _ _ _ _ _, by simp, by simp⟩
  have hlens : ∀ q ∈ [p, []], q.length ≤ 1000 := by
    intro q hq
    simp at hq
    rcases hq with e | e
    · subst e; have := hpk.out; omega
    · subst e; simp
  clear hh bel0 hfew rp hok0 hk
  go_wp2_with fail
  refine (CellsNew_yes 4 _ (by omega) (by omega)).mono ?_
  rintro e w2 ⟨g, h, rfl, bel2, hg, hhh, hc, _⟩
  go_wp2_with fail
  refine (CellsNew_yes 4 _ (by omega) (by omega)).mono ?_
  rintro e w3 ⟨g2, h2, rfl, bel3, hg2, hh2, hd, _⟩
  replace own := (own.below bel2).below bel3
  replace rprg := (rprg.bel bel2).bel bel3
  have hw1 := bel1.size
  have hhlt : h < w2.heap.size := hc.row.lt
  have hglt : g < w2.heap.size := by obtain ⟨_, _, _, ho⟩ := hc.obj; exact ho.lt
  replace hc := hc.bel bel3
  have bel4 := bel_after (bel_after bel1 bel2) bel3
  have hw2 := bel2.size
  clear bel1 bel2 bel3
  go_wp2_with fail
  refine wp_region_plan (fun _ => True) [(0, true), (1, true), (3, true), (4, true), (5, true), (6, true), (7, true), (2, false), (8, false), (9, true)] (by kernel_rfl) (by kernel_rfl) (by kernel_rfl) (by kernel_rfl) trivial ?_
  have : Nonempty (Tw (fun _ => True)) := ⟨⟨w3, trivial⟩⟩
  refine wpPl_qs 7 _ _ _ (by kernel_rfl) (by kernel_rfl) (by simp) ?_
  unfold clsS
  simp only [List.take_succ_cons, List.take_zero, List.drop_succ_cons, List.drop_zero, List.filterMap_cons, List.filterMap_nil, List.getElem?_toArray, List.getElem?_cons_zero, List.getElem?_cons_succ]
  repeat (first
    | go_big_quiet_skip
    | (go_big_quiet_want; go_big_quiet_op; go_big_quiet_on)
    | (refine id (?_ : wpQuiet _ _ _ _ (_ :: _) _); first | go_big_quiet_skip | (go_big_quiet_want; go_big_quiet_op; go_big_quiet_on)))
  refine wpQuiet_nil ?_
  refine wpPl_e _ (by rfl) (by kernel_rfl) (fun K hK => ?_)
  go_simp
  have belx : Below w3.heap.size w3 w3.drew := (Below.refl _ _).drew
  refine (to_any _ 2 _ _ _ _ (rprg.bel belx) (by omega)).mono ?_
  rintro r w4 ⟨va, hs1, rfl, bel5, po⟩
  refine hK _ _ trivial ?_
  clear hK K rprg
  refine wpPl_e _ (by rfl) (by kernel_rfl) (fun K hK => ?_)
  go_simp
  obtain ⟨A3, cap3, rfl, hc3, hc4⟩ := po.own.form (po.len.trans (rfl : [p, []].length = 2))
  have belw4 := bel_after belx bel5
  have bel6 := bel_after bel4 belw4
  refine (Rest_any g h A3 2 cap3 [p, []] zer _ A m2 _ (picks.take m2) (po.prgs rfl) hc3 hc4 (hc.bel belw4) (by simp [zer]) (((rd.below bel6).more bel6.size).take hm3) (fun h0 a ha => ?_) (by omega) hlens).mono ?_
  · obtain ⟨b, o, rfl, hb, _⟩ := rd.cel (by omega)
    simp only [Option.some.injEq] at ha
    subst ha
    simp only
    have := bel6.size
    constructor <;> omega
  have hcr := (hc.bel belw4).row
  rintro r w5 ⟨v1, ord, s, out, rfl, told, hfin, hc5, owna, up⟩
  refine hK _ _ trivial ?_
  clear hK K
  refine wpPl_qs 1 _ _ _ (by kernel_rfl) (by kernel_rfl) (by simp) ?_
  unfold clsS
  simp only [List.take_succ_cons, List.take_zero, List.drop_succ_cons, List.drop_zero, List.filterMap_cons, List.filterMap_nil, List.getElem?_toArray, List.getElem?_cons_zero, List.getElem?_cons_succ]
  repeat (first
    | go_big_quiet_skip
    | (go_big_quiet_want; go_big_quiet_op; go_big_quiet_on)
    | (refine id (?_ : wpQuiet _ _ _ _ (_ :: _) _); first | go_big_quiet_skip | (go_big_quiet_want; go_big_quiet_op; go_big_quiet_on)))
  refine wpQuiet_nil ?_
  unfold wpPl
  refine NoPanic.normal ?_
  obtain ⟨ho1, hl1⟩ := alo_rest told (by simp) hfin
  replace owna := owna.mono (base' := w.heap.size) bel6.size
  have hw34 := belw4.size
  replace hd := (hd.bel belw4).upd up (by have := hd.row.lt; obtain ⟨_, _, _, ho⟩ := hd.obj; have := ho.lt; omega) (by omega)
  replace own := own.below belw4
  replace own := own.updne up (fun b c hb e => by subst e; exact hb.ne_ hcr (by decide) rfl)
  have hhw : w.heap.size ≤ h := by omega
  have bel7 : Below w.heap.size w w5 := bel6.trans (up.below bel6.size (fun k hk e => by subst e; omega))
  have rprg1 : RProgs w5 (some ⟨g0, 0, none⟩) 1 [⟨A0, k, cap0⟩] [p] := by
    refine ⟨(own.rd Hdr.cs_len rfl rfl).take (n := 2) (m := 1) (by omega), rfl, fun i hd q a b => ?_⟩
    match i, a, b with
    | 0, a, b => simp at a b; subst a b; exact ⟨(rpk.below bel7).more bel7.size, hlens _ (by simp), hok⟩
  have hcell : w5.cell? ⟨g0, 0, none⟩ = some (.slice A0 k cap0) := own.at_ Hdr.cs_len (j := 0) (f := 0) rfl rfl
  have hw5 : w3.heap.size ≤ w5.heap.size := Nat.le_trans hw34 up.size
  clear told hfin po hcr up bel4 belw4 belx bel5 bel6 hw34 hc this
  have hone : (1 : Int) ≤ c0 := by have : 2 ≤ c0 := hc1; omega
  have hone2 : 1 ≤ c0 := by have : 2 ≤ c0 := hc1; omega
  go_wp2_with fail
  refine (to_any _ 1 _ _ _ _ rprg1 (by omega)).mono ?_
  rintro r w6 ⟨vb, hs2, rfl, bel8, po⟩
  obtain ⟨A4, cap4, rfl, hc6, hc7⟩ := po.own.form (po.len.trans (rfl : [p].length = 1))
  replace hd := hd.bel bel8
  replace hc5 := hc5.bel bel8
  replace owna := owna.below bel8
  replace own := own.below bel8
  replace bel7 := bel_after bel7 bel8
  have hw6 := bel8.size
  go_wp2_with fail
  refine (Rest_any g2 h2 A4 1 cap4 [p] zer _ none 0 0 [] (po.prgs rfl) hc6 hc7 hd (by simp [zer]) (Rd.nil _ _ _ _) (fun h0 => absurd h0 (by omega)) (by omega) (fun q hq => hlens q (by simp at hq; subst hq; simp))).mono ?_
  have hcr := hd.row
  rintro r w7 ⟨v2, ord2, s2, out2, rfl, told, hfin, hd7, ownb, up⟩
  obtain ⟨ho2, hl2⟩ := alo_rest told (by simp) hfin
  subst ho1 ho2
  rw [hl1] at hc5
  rw [hl2] at hd7
  replace ownb := ownb.mono (base' := w.heap.size) bel7.size
  replace hc5 := hc5.upd up (by omega) (by omega)
  replace owna := owna.updne up (fun b c hb e => by subst e; exact hb.ne_ hcr (by decide) rfl)
  replace own := own.updne up (fun b c hb e => by subst e; exact hb.ne_ hcr (by decide) rfl)
  replace bel7 := bel7.trans (up.below bel7.size (fun k hk e => by subst e; omega))
  have hlen : (alo 0 zer p 0).1.length = k := by rw [(alo_len p 0 zer 0).1, hpk.out]
  obtain ⟨A5, c5, rfl, hc8, hc9⟩ := owna.form hlen
  obtain ⟨A6, c6, rfl, hc10, hc11⟩ := ownb.form hlen
  clear told hfin po hcr up hl1 hl2 bel8 rprg1 hcell
  have hl4 : (alo 0 zer p 0).2.length = 4 := by rw [(alo_len p 0 zer 0).2]; rfl
  generalize (alo 0 zer p 0).1 = oa at *
  generalize (alo 0 zer p 0).2 = la at *
  replace hlen := Lib.hid hlen
  replace hl4 := Lib.hid hl4
  go_wp2_with fail
  refine (goes_any _).mono ?_
  rintro e w8 ⟨rfl, bel8⟩
  go_wp2_with fail
  refine (from_any A5 k c5 oa w8 ((owna.below bel8).rd Dn.cs_len rfl hlen.out) (by omega)).mono ?_
  rintro e w9 ⟨v3, rfl, bel9, own3⟩
  go_wp2_with fail
  refine (from_any A6 k c6 oa w9 (((ownb.below bel8).below bel9).rd Dn.cs_len rfl hlen.out) (by omega)).mono ?_
  rintro e w10 ⟨v4, rfl, bel10, own4⟩
  obtain ⟨A7, c7, rfl, _, _⟩ := own3.form hlen.out
  obtain ⟨A8, c8, rfl, _, _⟩ := own4.form hlen.out
  go_wp2_with fail
  refine (Same_any A7 A8 k c7 c8 oa w10 ((own3.below bel10).rd Dn.cs_len rfl hlen.out) (own4.rd Dn.cs_len rfl hlen.out) (by omega)).mono ?_
  rintro e w11 ⟨rfl, bel11⟩
  have bel12 := bel_after (bel_after (bel_after bel8 bel9) bel10) bel11
  replace bel7 := bel_after bel7 bel12
  replace hc5 := hc5.bel bel12
  replace hd7 := hd7.bel bel12
  replace own := own.below bel12
  clear bel8 bel9 bel10 bel11 bel12 own3 own4 owna ownb
  go_wp2_with fail
  have hcell : w11.cell? ⟨g0, 0, none⟩ = some (.slice A0 k cap0) := own.at_ Hdr.cs_len (j := 0) (f := 0) rfl rfl
  have hla : la.length ≤ 65536 := by rw [hl4.out]; omega
  clear own rpk rd
  go_loopg [12] 4 (fun gk s12 wr => ∃ i : Nat, gk = 4 - i ∧ i ≤ 4 ∧ s12 = .int .i64 i ∧ wr = w11)
  case atStart => exact ⟨0, rfl, Nat.zero_le _, rfl, rfl⟩
  case round =>
    obtain ⟨i, hgk, hi4, rfl, rfl⟩ := hrel
    by_cases hlt : i < 4
    · have hd3 : decide ((i : Int) < 4) = true := by simp; omega
      replace hgk := Lib.hid hgk
      go_wp2_with fail
      refine (Load_any i g h la _ hc5 hla).mono ?_
      rintro e w12 ⟨rfl, rfl⟩
      go_wp2_with fail
      refine (Load_any i g2 h2 la _ hd7 hla).mono ?_
      rintro e w12 ⟨rfl, rfl⟩
      generalize celAt la i = x at *
      go_wp2_with fail
      go_roundg (4 - (i + 1))
      case measure => have := hgk.out; omega
      case rel => exact ⟨i + 1, rfl, by omega, by go_num, rfl⟩
    · obtain rfl : i = 4 := by omega
      go_wp2
      go_ret
      exact ⟨rfl, bel7⟩
theorem TurnsAlone_args (W : World) (args : Array Value) (hs : args.size = Try.f4.params.size) (hA : ∀ (j : Nat) t v, Try.f4.params[j]? = some t → args[j]? = some v → Arg Try.prog W t v) :
    Calls Try.prog 4 args W fun e W' => e = .returned (.bool true) ∧ Below W.heap.size W W' := by
  obtain ⟨v0, v1, rfl⟩ := args2 hs
  obtain ⟨A0, len, cap, m, rfl, h1, h2, h3⟩ := arg_slice Try.underlying39 (hA 0 39 v0 rfl rfl)
  obtain ⟨A, len2, cap2, l2, rfl, k1, k2, rd⟩ := arg_ints Try.underlying22 Try.underlying3 (by kernel_rfl) (hA 1 22 v1 rfl rfl)
  have hC : Try.prog.cellsOf 82 = 5 := by kernel_rfl
  have hCi : Try.prog.cellsOf 3 = 1 := by kernel_rfl
  have hCu : Try.prog.cellsOf 23 = 1 := by kernel_rfl
  have hCb : Try.prog.cellsOf 4 = 1 := by kernel_rfl
  rw [hC] at h3
  have h4 := slice_rows (by omega) h3
  have key : ∃ l : List TOp, RdT TOp.cs 5 W W.heap.size A0 len l ∧ ∀ x ∈ l, x.ok := by
    rcases Nat.eq_zero_or_pos len with h0 | h0
    · subst h0; exact ⟨[], RdT.nil _ _ _ _ _, by simp⟩
    · obtain ⟨b, o, rfl, hb, hi⟩ := h4 h0
      obtain ⟨l, hl, hP⟩ := list_of (P := fun i (d : TOp) => d.ok ∧ ∀ f u, d.cs[f]? = some u → W.cell? ⟨b, o + i * 5 + f, none⟩ = some u) len (fun i hil => by
        obtain ⟨ys, hc, hyl, hr⟩ := hi i hil
        obtain ⟨m', _, hf⟩ := rdg_struct Try.underlying82 hr
        obtain ⟨x0, e0, r0⟩ := fld_int (i := 0) hf rfl Try.underlying3 hCi
        obtain ⟨x1, e1, r1⟩ := fld_int (i := 1) hf rfl Try.underlying3 hCi
        obtain ⟨x2, e2, r2⟩ := fld_int (i := 2) hf rfl Try.underlying23 hCu
        obtain ⟨x3, e3, r3⟩ := fld_int (i := 3) hf rfl Try.underlying23 hCu
        obtain ⟨x4, e4⟩ := fld_bool (i := 4) hf rfl Try.underlying4 hCb
        refine ⟨⟨x0, x1, x2, x3, x4⟩, ⟨inr_u64 r2, inr_u64 r3⟩, fun f u hu => ?_⟩
        have hf3 : f < 5 := (List.getElem?_eq_some_iff.1 hu).1
        refine (hc f (by omega)).trans ?_
        rw [← hu]
        match f, hf3 with
        | 0, _ => exact e0
        | 1, _ => exact e1
        | 2, _ => exact e2
        | 3, _ => exact e3
        | 4, _ => exact e4)
      refine ⟨l, ⟨hl, fun _ => ⟨b, o, rfl, hb, fun j x hj f u hu => (hP j x hj).2 f u hu⟩⟩, fun x hx => ?_⟩
      obtain ⟨i, hi, rfl⟩ := List.mem_iff_getElem.1 hx
      exact (hP i _ (List.getElem?_eq_getElem hi)).1
  obtain ⟨l, rp, hok⟩ := key
  exact TurnsAlone_any A0 len cap l A len2 cap2 l2 W rp hok h1 h2 rd k1 k2

set_option maxRecDepth 100000 in
theorem TurnsAlone_lifted (os : Os) (started : os.Started) (H : Type) (enc : TypeId × Value → H) :
    ReturnsInHanded {} Try.checked os 4 .any (Rows.turnsAloneSpec.pre6 enc Try.prog Try.f4 Rows.turnsAloneRow.domain false) (Rows.turnsAloneSpec.post enc Try.prog Try.f4 false true false false) :=
  law_lifted os started H enc (by kernel_rfl) Try.func4 rfl rfl (fun H ds h => by match ds, h with | [_, _], _ => exact ⟨rfl, rfl, rfl⟩) (by kernel_rfl)
    (ChangeSpec.witness6 (enc := enc) (C := Try.checked) false ⟨#[], #[.slice none 0 0, .slice none 0 0], []⟩ 8 (by kernel_rfl) (by kernel_rfl) (by kernel_rfl) (by kernel_rfl))
    TurnsAlone_args

/-- the statement -/
theorem turnsAlone_holds : Rows.TurnsAloneSaid :=
  OpenClaim.holds_of_wide 4 Try.f4 rfl rfl rfl rfl rfl rfl rfl ⟨rfl, rfl, rfl, rfl, rfl⟩ rfl rfl rfl rfl rfl (by kernel_rfl) Try.func4 (by kernel_rfl)
    (of_decide_eq_true (by kernel_rfl)) (by unfold Func.isWrapper; first | (rw [if_pos (by decide +kernel)]; kernel_rfl) | (rw [if_neg (by decide +kernel)]; exact ⟨rfl, rfl⟩))
    (fun os started H enc _ => TurnsAlone_lifted os started H enc)

end Go.Proofs.Ytoifojamblnijaa
