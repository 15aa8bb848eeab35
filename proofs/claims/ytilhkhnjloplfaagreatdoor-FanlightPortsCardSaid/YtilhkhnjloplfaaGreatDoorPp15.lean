/- What the laws' proofs lean on: plain facts and contracts of the program's functions, laid together (15). -/
import Derived.Test.YtilhkhnjloplfaaGreatDoorPp13
import Derived.Test.YtilhkhnjloplfaaGreatDoorPp04
import Derived.Deep.DeepCutAuto
import Derived.Deep.CutBlock
namespace Go.Proofs.YtilhkhnjloplfaaGreatDoor
set_option linter.unusedVariables false
set_option linter.unusedSimpArgs false
open Go.RowKit
theorem wp_appI {P : Program} {o : Oper} {a : Act} {Q : Exit → Act → World → Prop} {K : Act → World → Prop} (w : World) (s x : Operand) (t : TypeId)
    (ho : o.op = .call { callee := .builtin .append, args := #[s, x], argTypes := #[t, t] }) (k : IntKind)
    (base : Nat) (e : TypeId) (i : TypeInfo) (z : Value) (bytes : Nat) (ht : P.underlying t = some (.slice e)) (hi : P.info? e = some i) (hz : i.zero = some z)
    (hsize : i.size = 1) (hby : i.bytes = bytes) (hzs : z.cells.size = 1) (v : Value) (hs : a.eval s = v) (l : List Int) (hown : Own k e w base v l)
    (B : Nat) (A : Option Addr) (m c : Nat) (hx : a.eval x = .slice A m c) (l2 : List Int) (hr : Rd k w B A m l2) (hlen : (l.length + m) * bytes ≤ 140737488355328) (hbp : 0 < bytes) (hbase : base ≤ w.heap.size)
    (h : ∀ v' w', Own k e w' base v' (l ++ l2) → w.grownBy w' v.ownBlock → (v'.ownBlock = v.ownBlock ∨ v'.ownBlock = some w.heap.size) → K (a.put o.dst v') w') : o.wp P a w K Q := by
  obtain ⟨v', w', hrun, h2, h3, h4⟩ := run_app (P := P) w k base t o.type e i z bytes ht hi hz hsize hby hzs v l hown B A m c l2 hr hlen hbp hbase
  unfold Oper.wp execOp
  simp only [ho, resolve, invoke, builtin, Sem.run_bind, Sem.run_pure, Result.andThen_ok, List.map_toArray, List.map_cons, List.map_nil, hs, hx, hrun]
  exact h v' w' h2 h3 h4
theorem iN_perm {S : List Int} {l : List Nat} (h : S.Perm (iN l)) : ∃ S' : List Nat, iN S' = S ∧ S'.Perm l := by
  refine ⟨S.map Int.toNat, ?_, ?_⟩
  · unfold iN
    rw [List.map_map]
    conv => rhs; rw [← List.map_id S]
    refine List.map_congr_left fun x hx => ?_
    have hx2 := h.mem_iff.1 hx
    unfold iN at hx2
    obtain ⟨y, _, rfl⟩ := List.mem_map.1 hx2
    simp
  · have h2 := h.map Int.toNat
    unfold iN at h2
    rw [List.map_map] at h2
    have h3 : l.map (Int.toNat ∘ fun (x : Nat) => (x : Int)) = l := by
      conv => rhs; rw [← List.map_id l]
      refine List.map_congr_left fun x _ => ?_
      simp
    rw [h3] at h2
    exact h2
theorem flat_le {α β : Type} (f : α → List β) (m : Nat) : ∀ {l : List α}, (∀ x, x ∈ l → (f x).length ≤ m) → (l.flatMap f).length ≤ m * l.length
  | [], _ => by simp
  | y :: l, h => by
    rw [List.flatMap_cons, List.length_append, List.length_cons]
    have h1 := h y (by simp)
    have h2 := flat_le f m (l := l) (fun x hx => h x (by simp [hx]))
    rw [Nat.mul_add]; omega
/-- all the workers -/
structure AllW (W : World) (base gp nw : Nat) (ks : List Wk) (cbs : List Nat) : Prop where
  w : ∀ (i : Nat) k cb, ks[i]? = some k → cbs[i]? = some cb → ∃ (I : Nat → Prop) (s : St) (sp : Value), WM I W base gp nw k s cb sp ∧ StOk nw k s
theorem AllW.bel {W W' : World} {base gp nw : Nat} {ks : List Wk} {cbs : List Nat} (h : AllW W base gp nw ks cbs) (hb : Below W.heap.size W W') : AllW W' base gp nw ks cbs := ⟨fun i k cb h1 h2 => by
  obtain ⟨I, s, sp, h3, h4⟩ := h.w i k cb h1 h2
  exact ⟨I, s, sp, h3.upd (Upd.of_below hb (fun _ => False)) (fun _ _ e => e), h4⟩⟩
/-- how often each number came so far -/
def cntR (n : Nat) (l : List Nat) : List Value := (List.range n).map fun v => Value.int .i64 ((l.count v : Nat) : Int)
theorem cntR_at {n : Nat} {l : List Nat} {v : Nat} (h : v < n) : (cntR n l).toArray[v]? = some (.int .i64 ((l.count v : Nat) : Int)) := by
  unfold cntR
  simp [h]
theorem cntR_nil (n : Nat) : Array.replicate n (Value.int .i64 0) = (cntR n []).toArray := by
  unfold cntR
  simp only [List.count_nil]
  rw [List.map_const', List.length_range]
  simp
theorem cntR_snoc {n : Nat} {l : List Nat} {y : Nat} (h : y < n) : (cntR n l).toArray.setIfInBounds y (.int .i64 ((l.count y + 1 : Nat) : Int)) = (cntR n (l ++ [y])).toArray := by
  rw [List.setIfInBounds_toArray]
  congr 1
  refine List.ext_getElem (by unfold cntR; simp) fun i h1 h2 => ?_
  rw [List.getElem_set]
  simp only [cntR, List.getElem_map, List.getElem_range, List.count_append]
  by_cases e : y = i
  · subst e; rw [if_pos rfl]; simp
  · rw [if_neg e]
    have : List.count i [y] = 0 := by rw [List.count_eq_zero]; simp; exact fun h => e h.symm
    rw [this]; simp
/-- what a worker has in its cache, or leaving it -/
def Wk.lv (k : Wk) : List Nat := k.list ++ leaf k.parts
set_option maxRecDepth 100000 in
set_option maxHeartbeats 2000000 in
theorem once_any (W : World) (base gp gc h n nk gcs : Nat) (px pg ph : Nat) (L : List Int) (ws : List Nat) (ks : List Wk) (cbs : List Nat) (pm : PoM W gp gc h n ws) (inv : PInv n ws ks) (hn : n ≤ 60) (aw : AllW W base gp ws.length ks cbs) (hck : cbs.length = nk) (hkk : ks.length = nk)
    (hcs : ∀ (i : Nat) cb, cbs[i]? = some cb → W.cell? ⟨gcs, i, none⟩ = some (.pointer (some ⟨cb, 0, none⟩))) (hgl : gcs < W.heap.size) (hnk : nk ≤ 4) (pl : Pl W px pg ph n L) (made : Nat → Bool) (hI : PlI n L made) (hm : ∀ i, i < n → (made i = true ↔ i ∈ ks.flatMap Wk.mine)) :
    Calls Tryz.prog 14 #[.pointer (some ⟨gp, 0, none⟩), .slice (some ⟨gcs, 0, none⟩) nk nk, .pointer (some ⟨px, 0, none⟩)] W fun e W' => e = .returned (.bool true) ∧ Below W.heap.size W W' := by
  obtain ⟨i0, hi0, hz0, hz1, hz2⟩ := info_parts info_int
  have hmk := fun W => make_one (P := Tryz.prog) 23 3 i0 _ Tryz.underlying23 hi0 hz0 hz1 rfl .i64 .i64 n (by rw [hz2]; omega) (by omega) W
  have hlen := inv.len
  have kS := PlSize_any px pg ph n L W pl (by omega)
  replace kS := Lib.hid kS
  go_enter Tryz.func14, Tryz.ntmps14
  go_wp2_with fail
  refine kS.out.mono ?_
  rintro e w' ⟨rfl, rfl⟩
  have bcnt := Blk.new W 3 (Array.replicate n (.int .i64 0))
  have hb1 := bel_alloc W (.cells (Array.replicate n (.int .i64 0)) 3)
  go_upto_region 2 with fail
  generalize W.alloc (.cells (Array.replicate n (.int .i64 0)) 3) = W1 at *
  have kF := pFree_any W1 gp gc h n ws (pm.bel hb1) (by omega)
  replace kF := Lib.hid kF
  go_wp2_with fail
  refine kF.out.mono ?_
  rintro e W2 ⟨v2, rfl, own2, hb2⟩
  clear kF kS
  have aw1 := aw.bel hb1
  have hcs1 : ∀ (i : Nat) cb, cbs[i]? = some cb → W1.cell? ⟨gcs, i, none⟩ = some (.pointer (some ⟨cb, 0, none⟩)) := fun i cb hcb => (hb1.cell (p := ⟨gcs, i, none⟩) hgl).trans (hcs i cb hcb)
  have pl1 := pl.bel hb1
  have hgl1 : gcs < W1.heap.size := Nat.lt_of_lt_of_le hgl hb1.size
  clear hcs aw hmk
  go_upto_block 0 with fail
  go_cut [8] (fun s wx => ∃ X : List Nat, Own .i64 3 wx W1.heap.size s (iN X) ∧ X.Perm (frL 0 ws ++ ks.flatMap Wk.lv) ∧ Below W1.heap.size W1 wx)
  case first =>
    go_wp2_with fail
    go_loopw [8, 9] (fun s i wr => ∃ (k : Nat) (X : List Nat), k ≤ nk ∧ i = .int .i64 (k : Int) ∧ Own .i64 3 wr W1.heap.size s (iN X) ∧ X.Perm (frL 0 ws ++ (ks.take k).flatMap Wk.lv) ∧ Below W1.heap.size W1 wr) (fun _ i _ => nk - (intOf i).toNat)
    case atStart => exact ⟨0, frL 0 ws, by omega, rfl, own2, by simp, hb2⟩
    case round =>
      obtain ⟨k, X, hk, rfl, own, hX, bel⟩ := hrel
      by_cases hkn : k < nk
      · obtain ⟨kk, hkk'⟩ : ∃ x, ks[k]? = some x := ⟨_, List.getElem?_eq_getElem (by omega)⟩
        obtain ⟨cb, hcb⟩ : ∃ x, cbs[k]? = some x := ⟨_, List.getElem?_eq_getElem (by omega)⟩
        have hcx := hcs1 k cb hcb
        have hkm := List.mem_of_getElem? hkk'
        have hll := inv.list_len hkm
        have htk : ks.take (k + 1) = ks.take k ++ [kk] := by rw [List.take_add_one, hkk']; rfl
        have hd1 : decide (k < nk) = true := by simpa using hkn
        have hd3 : decide ((k : Int) < (nk : Int)) = true := by simpa using hkn
        have k0 : (0 : Int) ≤ (k : Int) := by omega
        have k1 : (k : Int) < (nk : Int) := by omega
        have hXl : X.length ≤ 400 := by
          rw [hX.length_eq, List.length_append]
          have h1 := frL_len ws 0
          have h2 := flat_le Wk.lv 60 (l := ks.take k) (fun x hx => by
            have := inv.all_len (List.mem_of_mem_take hx)
            unfold Wk.all at this
            unfold Wk.lv
            rw [List.length_append] at this
            omega)
          rw [List.length_take] at h2
          omega
        have hpl : kk.parts.length ≤ 100 := by have := (inv.pt kk hkm).len; omega
        have hpb : ∀ x, x ∈ kk.parts → x.1 < 100 ∧ x.2 < 18446744073709551616 := fun x hx => by
          have h1 := (inv.pt kk hkm).w x hx
          have h2 := (inv.pt kk hkm).m x hx
          omega
        go_upto_region 6 with fail
        have z0 : ∀ t : Tw (fun w' => Below W1.heap.size W1 w'), t.w.cell? ⟨gcs, k, none⟩ = some (.pointer (some ⟨cb, 0, none⟩)) := fun t => (t.h.cell (p := ⟨gcs, k, none⟩) hgl1).trans hcx
        have zz : Nonempty (Tw (fun w' => Below W1.heap.size W1 w')) := ⟨⟨W1, Below.refl _ _⟩⟩
        refine wp_region_plan (fun w' => Below W1.heap.size W1 w') [(0, true), (1, true), (2, true), (3, true), (4, true), (7, true), (8, true), (9, true), (10, true), (5, false), (6, false), (11, false), (12, false), (13, true)] (by kernel_rfl) (by kernel_rfl) (by kernel_rfl) (by kernel_rfl) bel.drew ?_
        replace own := own.drew
        replace bel := bel.drew
        generalize wr.drew = w3 at *
        refine wpPl_qs 9 _ _ _ (by kernel_rfl) (by kernel_rfl) (by simp) ?_
        unfold clsS
        simp only [List.take_succ_cons, List.take_zero, List.drop_succ_cons, List.drop_zero, List.filterMap_cons, List.filterMap_nil, List.getElem?_toArray, List.getElem?_cons_zero, List.getElem?_cons_succ]
        repeat (first
          | go_big_quiet_skip
          | (go_big_quiet_want; go_big_quiet_op; go_big_quiet_on)
          | (refine id (?_ : wpQuiet _ _ _ _ (_ :: _) _); first | go_big_quiet_skip | (go_big_quiet_want; go_big_quiet_op; go_big_quiet_on)))
        refine wpQuiet_nil ?_
        obtain ⟨I1, s1, sp1, wm1, ok1⟩ := (aw1.bel bel).w k kk cb hkk' hcb
        obtain ⟨ov1, cm1, st1⟩ := wm1
        refine wpPl_e _ (by rfl) (by kernel_rfl) (fun K hK => ?_)
        go_simp
        refine (cAll_any I1 w3 base gp cb ov1 kk.list (by omega) cm1).mono ?_
        rintro e w4 ⟨v4, rfl, own4, hb4⟩
        have own3 := own.below hb4
        have bel4 := bel_after bel hb4
        refine hK _ _ bel4 ?_
        clear hK K cm1 st1 ok1
        obtain ⟨m4, hm4⟩ : ∃ m4, (iN kk.list).length = m4 := ⟨_, rfl⟩
        obtain ⟨A4, c4, rfl, _, _, rd4⟩ := own4.form hm4
        have hm4' : m4 ≤ 100 := by rw [← hm4, iN_len]; omega
        refine wpPl_e _ (by rfl) (by kernel_rfl) (fun K hK => ?_)
        refine wp_appI w4 (.tmp 23) (.tmp 28) 23 rfl .i64 W1.heap.size 3 i0 (.int .i64 0) 8 Tryz.underlying23 hi0 hz0 hz1 hz2 rfl _ rfl (iN X) own3 _ _ _ _ rfl (iN kk.list) rd4 (by rw [iN_len]; omega) (by decide) bel4.size ?_
        intro v5 w5 own5 hg5 hv5
        have bel5 : Below W1.heap.size W1 w5 := bel4.trans (Upd.below (Upd.of_grown (S := fun b => W1.heap.size ≤ b) hg5 (fun g e => (own3.lt g e).1)) bel4.size (fun b hb e => by omega))
        rw [← iN_app] at own5
        go_simp
        refine hK _ _ bel5 ?_
        clear hK K own3 own4 rd4 hg5 own hb4 bel4
        obtain ⟨I2, s2, sp2, wm2, ok2⟩ := (aw1.bel bel5).w k kk cb hkk' hcb
        refine wpPl_e _ (by rfl) (by kernel_rfl) (fun K hK => ?_)
        go_simp
        refine (cLeaving_any I2 w5 base gp ws.length cb kk s2 sp2 wm2 ok2.out hpl hpb).mono ?_
        rintro e w6 ⟨A6, n6, c6, S, rfl, hS, rd6, hb6⟩
        obtain ⟨S', rfl, hS'⟩ := iN_perm hS
        have own6 := own5.below hb6
        have bel6 := bel_after bel5 hb6
        have hn6 : n6 ≤ 3200 := by
          have h1 := leaf_len kk.parts
          have h2 := hS'.length_eq
          have h3 := rd6.len
          rw [iN_len] at h3
          omega
        refine hK _ _ bel6 ?_
        clear hK K wm2 ok2
        refine wpPl_e _ (by rfl) (by kernel_rfl) (fun K hK => ?_)
        refine wp_appI w6 (.tmp 29) (.tmp 34) 23 rfl .i64 W1.heap.size 3 i0 (.int .i64 0) 8 Tryz.underlying23 hi0 hz0 hz1 hz2 rfl _ rfl (iN (X ++ kk.list)) own6 _ _ _ _ rfl (iN S') rd6 (by rw [iN_len, List.length_append]; omega) (by decide) bel6.size ?_
        intro v7 w7 own7 hg7 hv7
        have bel7 : Below W1.heap.size W1 w7 := bel6.trans (Upd.below (Upd.of_grown (S := fun b => W1.heap.size ≤ b) hg7 (fun g e => (own6.lt g e).1)) bel6.size (fun b hb e => by omega))
        rw [← iN_app] at own7
        go_simp
        refine hK _ _ bel7 ?_
        clear hK K own6 own5 rd6 hg7 bel6 bel5 hb6
        refine wpPl_qs 1 _ _ _ (by kernel_rfl) (by kernel_rfl) (by simp) ?_
        unfold clsS
        simp only [List.take_succ_cons, List.take_zero, List.drop_succ_cons, List.drop_zero, List.filterMap_cons, List.filterMap_nil, List.getElem?_toArray, List.getElem?_cons_zero, List.getElem?_cons_succ]
        repeat (first
          | go_big_quiet_skip
          | (go_big_quiet_want; go_big_quiet_op; go_big_quiet_on)
          | (refine id (?_ : wpQuiet _ _ _ _ (_ :: _) _); first | go_big_quiet_skip | (go_big_quiet_want; go_big_quiet_op; go_big_quiet_on)))
        refine wpQuiet_nil ?_
        unfold wpPl
        refine NoPanic.normal ?_
        have hperm : (X ++ kk.list ++ S').Perm (frL 0 ws ++ (ks.take (k + 1)).flatMap Wk.lv) := by
          rw [htk, List.flatMap_append, List.append_assoc, ← List.append_assoc (frL 0 ws)]
          refine hX.append ?_
          simp only [List.flatMap_cons, List.flatMap_nil, List.append_nil]
          exact List.Perm.append_left _ hS'
        clear z0 zz hX
        replace hperm := Lib.hid hperm
        go_wp2_with fail
        go_roundw
        case rel => exact ⟨k + 1, _, by omega, by go_num, own7, hperm.out, bel7⟩
        case measure => simp [intOf]; omega
      · obtain rfl : k = nk := by omega
        have hd1 : decide (k < k) = false := by simp
        have hd3 : decide ((k : Int) < (k : Int)) = false := by simp
        rw [List.take_of_length_le (by omega)] at hX
        replace hX := Lib.hid hX
        go_wp2_with fail
        go_meet
        exact ⟨X, own, hX.out, bel⟩
  case rest =>
    obtain ⟨X, own, hX, bel⟩ := hcut
    have hXn : ∀ i, i ≤ n → (X ++ (List.range i).filter made).length ≤ 1000 := fun i hi => by
      have h1 := frL_len ws 0
      have h2 := flat_le Wk.lv 60 (l := ks) (fun x hx => by
        have := inv.all_len hx
        unfold Wk.all at this
        unfold Wk.lv
        rw [List.length_append] at this
        omega)
      have h3 := List.length_filter_le made (List.range i)
      rw [List.length_range] at h3
      have h4 := hX.length_eq
      rw [List.length_append] at h4
      rw [List.length_append]
      omega
    have hfin : (X ++ (List.range n).filter made).Perm (List.range n) := by
      have h1 := inv.once hm (S := fun k => leaf k.parts) (fun k _ => .refl _)
      refine List.Perm.trans ?_ h1
      exact List.Perm.append_right _ hX
    replace hfin := Lib.hid hfin
    go_upto_block 2 with fail
    go_cut [8] (fun s wx => ∃ Y : List Nat, Own .i64 3 wx W1.heap.size s (iN Y) ∧ Y.Perm (List.range n) ∧ Below W1.heap.size W1 wx)
    case first =>
      go_wp2_with fail
      go_loopw [8, 10] (fun s i wr => ∃ k : Nat, k ≤ n ∧ i = .int .i64 (k : Int) ∧ Own .i64 3 wr W1.heap.size s (iN (X ++ (List.range k).filter made)) ∧ Below W1.heap.size W1 wr) (fun _ i _ => n - (intOf i).toNat)
      case atStart => exact ⟨0, by omega, rfl, by rw [List.range_zero, List.filter_nil, List.append_nil]; exact own, bel⟩
      case round =>
        clear own bel
        obtain ⟨k, hk, rfl, own, bel⟩ := hrel
        have kS := PlSize_any px pg ph n L wr (pl1.bel bel) (by omega)
        replace kS := Lib.hid kS
        by_cases hkn : k < n
        · have hd1 : decide (k < n) = true := by simpa using hkn
          have hd3 : decide ((k : Int) < (n : Int)) = true := by simpa using hkn
          obtain ⟨gen, hg, hw, kl⟩ := plLoad_any k px pg ph n L made wr (pl1.bel bel) (by omega) hI hkn
          have hlen := hXn k hk
          have hsc : (List.range (k + 1)).filter made = (List.range k).filter made ++ (if made k = true then [k] else []) := by
            rw [List.range_succ, List.filter_append]
            cases h : made k <;> simp [h]
          have hfd := fun (a b c d : Int) (w : World) => fld0 a b c d w
          cases hmk : made k with
          | true =>
            rw [hmk, if_pos rfl] at hsc kl
            have hnx : iN (X ++ (List.range (k + 1)).filter made) = iN (X ++ (List.range k).filter made) ++ [(k : Int)] := by rw [hsc, ← List.append_assoc, iN_app]; rfl
            replace kl := Lib.hid kl
            replace hsc := Lib.hid hsc
            replace hnx := Lib.hid hnx
            clear hw
            go_wp2_with fail
            refine kS.out.mono ?_
            rintro e w' ⟨rfl, rfl⟩
            go_wp2_with fail
            refine kl.out.mono ?_
            rintro e w3 ⟨rfl, hb3⟩
            have own3 := own.below hb3
            have bel3 := bel_after bel hb3
            have hrg : inr .i64 (k : Int) := i64_inr (by show _ ≤ (k : Int) ∧ (k : Int) ≤ _; omega)
            have hrd := Rd.new .i64 w3 3 [(k : Int)] (by intro y hy; simp at hy; subst hy; exact hrg) #[.int .i64 (k : Int)] rfl 1 rfl
            go_wp2_with (at_builtin; refine wpList_app _ rfl (.tmp 47) (.tmp 49) 23 rfl .i64 W1.heap.size 3 i0 (.int .i64 0) 8 Tryz.underlying23 hi0 hz0 hz1 hz2 rfl _ rfl (iN (X ++ (List.range k).filter made)) (own3.alloc _) (w3.heap.size + 1) _ 1 1 rfl [(k : Int)] hrd (by rw [iN_len]; omega) (by decide) (by have := bel3.size; simp; omega) ?_; intro v4 w4 own4 hg4 _; have bel4 : Below W1.heap.size W1 w4 := (bel3.alloc bel3.size _).grown hg4 (by have := bel3.size; simp; omega) (fun g h => (own3.lt g h).1); clear hg4)
            go_roundw
            case rel => exact ⟨k + 1, by omega, by go_num, by rw [hnx.out]; exact own4, bel4⟩
            case measure => simp [intOf]; omega
          | false =>
            rw [hmk, if_neg (by simp), List.append_nil] at hsc
            rw [hmk, if_neg (by simp)] at kl
            replace kl := Lib.hid kl
            replace hsc := Lib.hid hsc
            clear hw
            go_wp2_with fail
            refine kS.out.mono ?_
            rintro e w' ⟨rfl, rfl⟩
            go_wp2_with fail
            refine kl.out.mono ?_
            rintro e w3 ⟨rfl, hb3⟩
            go_wp2_with fail
            go_roundw
            case rel => exact ⟨k + 1, by omega, by go_num, by rw [hsc.out]; exact own.below hb3, bel_after bel hb3⟩
            case measure => simp [intOf]; omega
        · obtain rfl : k = n := by omega
          have hd1 : decide (k < k) = false := by simp
          have hd3 : decide ((k : Int) < (k : Int)) = false := by simp
          go_wp2_with fail
          refine kS.out.mono ?_
          rintro e w' ⟨rfl, rfl⟩
          go_wp2_with fail
          go_meet
          exact ⟨_, own, hfin.out, bel⟩
    case rest =>
      obtain ⟨Y, own, hY, bel⟩ := hcut
      have hYl : Y.length = n := by rw [hY.length_eq, List.length_range]
      have hYn : Y.Nodup := hY.nodup_iff.2 List.nodup_range
      have hYi : (iN Y).length = n := by rw [iN_len]; exact hYl
      obtain ⟨A, c, rfl, _, _, rd⟩ := own.form hYi
      have bc := bcnt.bel bel
      rw [cntR_nil] at bc
      have hgW : W.heap.size < W1.heap.size := bcnt.lt
      have hAb : ∀ b i, A = some ⟨b, i, none⟩ → W.heap.size < b := fun b i e => by
        rcases own.row.2 with ⟨h1, _⟩ | ⟨g', cap, cur, h1, hb', _⟩
        · simp only [Value.slice.injEq] at h1; rw [e] at h1; cases h1.1
        · simp only [Value.slice.injEq] at h1
          rw [e] at h1
          obtain ⟨h2, _⟩ := h1
          simp only [Option.some.injEq, Addr.mk.injEq] at h2
          omega
      clear hX hfin hXn
      go_wp2_with fail
      go_loopw [11] (fun i wr => ∃ k : Nat, k ≤ n ∧ i = .int .i64 (k : Int) ∧ Blk wr W.heap.size 3 (cntR n (Y.take k)).toArray ∧ Rd .i64 wr wr.heap.size A n (iN Y) ∧ Below W.heap.size W wr) (fun i _ => n - (intOf i).toNat)
      case atStart => exact ⟨0, by omega, rfl, bc, rd, hb1.trans (bel.mono (by omega))⟩
      case round =>
        clear bc rd bel own
        obtain ⟨k, hk, rfl, bc, rd, bel⟩ := hrel
        by_cases hkn : k < n
        · obtain ⟨y, hy⟩ : ∃ y, Y[k]? = some y := ⟨_, List.getElem?_eq_getElem (by omega)⟩
          have hyn : y < n := List.mem_range.1 (hY.mem_iff.1 (List.mem_of_getElem? hy))
          have htk : Y.take (k + 1) = Y.take k ++ [y] := by rw [List.take_add_one, hy]; rfl
          have hc0 : (Y.take k).count y = 0 := by
            rw [List.count_eq_zero]
            intro hm'
            have h1 : (Y.take (k + 1)).Nodup := (List.take_sublist _ _).nodup hYn
            rw [htk, List.nodup_append] at h1
            exact h1.2.2 y hm' y (by simp) rfl
          have hy0 : (iN Y).getD k 0 = (y : Int) := by unfold iN; rw [List.getD_eq_getElem?_getD, List.getElem?_map, hy]; rfl
          obtain ⟨b, o, rfl, hb, hcl⟩ := rd.cel (by omega)
          have hcx := hcl k hkn
          rw [hy0] at hcx
          have cc := bc.cell y
          rw [cntR_at hyn, hc0] at cc
          have fc := bc.frozen y
          have hd1 : decide (k < n) = true := by simpa using hkn
          have hd3 : decide ((k : Int) < (n : Int)) = true := by simpa using hkn
          have k0 : (0 : Int) ≤ (k : Int) := by omega
          have k1 : (k : Int) < (n : Int) := by omega
          have y0 : decide ((y : Int) < 0) = false := decide_eq_false (by omega)
          have y1 : decide ((n : Int) ≤ (y : Int)) = false := decide_eq_false (by omega)
          have y2 : decide (n ≤ y) = false := decide_eq_false (by omega)
          have yy0 : (0 : Int) ≤ (y : Int) := by omega
          have yy1 : (y : Int) < (n : Int) := by omega
          have hbw := hAb b o rfl
          have hsn := cntR_snoc (l := Y.take k) hyn
          rw [hc0, ← htk] at hsn
          have b2 := bc.set_ y (.int .i64 ((0 + 1 : Nat) : Int))
          rw [hsn] at b2
          have rd2 : Rd .i64 (wr.setCell ⟨W.heap.size, y, none⟩ (.int .i64 ((0 + 1 : Nat) : Int))) (wr.setCell ⟨W.heap.size, y, none⟩ (.int .i64 ((0 + 1 : Nat) : Int))).heap.size (some ⟨b, o, none⟩) n (iN Y) := ⟨rd.len, rd.rng, fun h0 => by
            have hu := Upd.one wr W.heap.size y (.int .i64 ((0 + 1 : Nat) : Int))
            refine ⟨b, o, rfl, Nat.lt_of_lt_of_le hb hu.size, fun j hj => ?_⟩
            rw [← hcl j hj]
            have hblk := hu.block b hb (fun e => by omega)
            simp only [World.cell?, hblk]⟩
          have bel2 := bel.setCell (p := ⟨W.heap.size, y, none⟩) (Nat.le_refl _) (.int .i64 ((0 + 1 : Nat) : Int))
          clear hsn hcl hy0 htk hc0 hy bc rd bel
          go_wp2_with fail
          go_roundw
          case rel => exact ⟨k + 1, by omega, by go_num, b2, rd2, bel2⟩
          case measure => simp [intOf]; omega
        · obtain rfl : k = n := by omega
          have hd1 : decide (k < k) = false := by simp
          have hd3 : decide ((k : Int) < (k : Int)) = false := by simp
          go_wp2_with fail
          go_ret
          exact ⟨rfl, bel⟩
end Go.Proofs.YtilhkhnjloplfaaGreatDoor
namespace Go.Proofs.YtilhkhnjloplfaaGreatDoor
set_option linter.unusedVariables false
set_option linter.unusedSimpArgs false
open Go.RowKit
theorem WM.monoLt {I I' : Nat → Prop} {W : World} {base gp nw cb : Nat} {k : Wk} {s : St} {sp : Value} (h : WM I W base gp nw k s cb sp) (hI : ∀ b, b < W.heap.size → I b → I' b) : WM I' W base gp nw k s cb sp := by
  obtain ⟨ov, c1, c2⟩ := h
  refine ⟨ov, c1.mono hI, ?_⟩
  cases s with
  | none => exact c2
  | still =>
    obtain ⟨h1, sb, h2, h3, h4⟩ := c2
    exact ⟨h1, sb, h2, hI _ (Blk.lt h4) h3, h4⟩
  | fill word left rd seen =>
    obtain ⟨h1, sb, pb, h2, h3, h4, h5⟩ := c2
    exact ⟨h1, sb, pb, h2, hI _ (Blk.lt h4) h3, h4, h5.mono hI⟩
  | back rd seen =>
    obtain ⟨sb, pb, h1, h2, h3, h4, hip, A, m, c, h5, h6, h7, h8, h9, h10⟩ := c2
    exact ⟨sb, pb, h1, h2, hI _ (Blk.lt h4) h3, h4, hI _ h5.lt hip, A, m, c, h5, h6, h7, h8, fun b i e => by
      obtain ⟨cs, hb⟩ := h10 b i e
      exact hI _ hb.lt (h9 b i e), h10⟩
/-- whose a block is behind worker w's step -/
def ownS (o : Nat → Nat) (W W' : World) (w : Nat) : Nat → Nat := fun b => if b < W.heap.size then o b else if b < W'.heap.size then w + 1 else 0
/-- all workers, their steps, and whose each block is -/
structure LM (W : World) (o : Nat → Nat) (base gp gc h n : Nat) (ws : List Nat) (ks : List Wk) (ss : List St) (cbs : List Nat) (sps : List Value) : Prop where
  pm : PoM W gp gc h n ws
  inv : PInv n ws ks
  wm : ∀ (i : Nat) k s cb sp, ks[i]? = some k → ss[i]? = some s → cbs[i]? = some cb → sps[i]? = some sp → WM (fun b => o b = i + 1) W base gp ws.length k s cb sp ∧ StOk ws.length k s
  far : ∀ b, o b ≠ 0 → b < W.heap.size ∧ b ≠ gp ∧ b ≠ gc ∧ b ≠ h ∧ base ≤ b
  lt : gp < W.heap.size ∧ gc < W.heap.size ∧ h < W.heap.size ∧ base ≤ W.heap.size
theorem LM.doStep {W W' : World} {o : Nat → Nat} {base gp gc h n w cb : Nat} {ws : List Nat} {ks : List Wk} {ss : List St} {cbs : List Nat} {sps : List Value} {k : Wk} {s : St} {sp : Value} {e : Ending} (lm : LM W o base gp gc h n ws ks ss cbs sps) (h1 : ks[w]? = some k) (h2 : ss[w]? = some s) (h3 : cbs[w]? = some cb) (h4 : sps[w]? = some sp)
    (R : CdR (fun b => o b = w + 1) W base gp gc h n ws.length cb sp (doS ws k s).1 (doS ws k s).2.1 (doS ws k s).2.2 e W') :
    LM W' (ownS o W W' w) base gp gc h n (doS ws k s).1 (ks.set w (doS ws k s).2.1) (ss.set w (doS ws k s).2.2) cbs (sps.set w (spOf (doS ws k s).2.2 sp)) := by
  obtain ⟨wm0, ok0⟩ := lm.wm w k s cb sp h1 h2 h3 h4
  obtain ⟨i1, i2, i3, _⟩ := lm.inv.step h1 ok0
  have hsz := R.upd.size
  refine ⟨R.pm, i1, fun i k' s' cb' sp' e1 e2 e3 e4 => ?_, fun b hb => ?_, by have := lm.lt; omega⟩
  · rw [i3]
    by_cases hi : i = w
    · subst hi
      rw [List.getElem?_set_self (List.getElem?_eq_some_iff.1 h1).1] at e1
      rw [List.getElem?_set_self (List.getElem?_eq_some_iff.1 h2).1] at e2
      rw [List.getElem?_set_self (List.getElem?_eq_some_iff.1 h4).1] at e4
      rw [h3] at e3
      cases e1; cases e2; cases e3; cases e4
      refine ⟨R.wm.monoLt (fun b hb hI => ?_), i2⟩
      unfold ownS
      rcases hI with hI | hI
      · have := (lm.far b (by omega)).1
        rw [if_pos this]; exact hI
      · rw [if_neg (by omega), if_pos hb]
    · have hi' : w ≠ i := fun e => hi e.symm
      rw [List.getElem?_set_ne hi'] at e1 e2 e4
      obtain ⟨wm1, ok1⟩ := lm.wm i k' s' cb' sp' e1 e2 e3 e4
      refine ⟨(wm1.upd R.upd (fun b hb hS => ?_)).monoLt (fun b _ hI => ?_), ok1⟩
      · have := lm.far b (by omega)
        rcases hS with hS | hS <;> omega
      · have := (lm.far b (by omega)).1
        unfold ownS
        rw [if_pos this]; exact hI
  · unfold ownS at hb
    have hl := lm.lt
    by_cases hlt : b < W.heap.size
    · rw [if_pos hlt] at hb
      have := lm.far b hb
      omega
    · rw [if_neg hlt] at hb
      by_cases hlt2 : b < W'.heap.size
      · omega
      · rw [if_neg hlt2] at hb; exact absurd rfl hb
end Go.Proofs.YtilhkhnjloplfaaGreatDoor
namespace Go.Proofs.YtilhkhnjloplfaaGreatDoor
set_option linter.unusedVariables false
set_option linter.unusedSimpArgs false
open Go.RowKit
section
variable {W W' : World} {o : Nat → Nat} {base gp gc h n w cb : Nat} {ws ws' : List Nat} {ks : List Wk} {ss : List St} {cbs : List Nat} {sps : List Value} {k k' : Wk} {s s' : St} {sp sp' : Value} {S : Nat → Prop}
theorem ownS_lt {b : Nat} (h : b < W.heap.size) : ownS o W W' w b = o b := by unfold ownS; rw [if_pos h]
theorem ownS_new {b : Nat} (h : W.heap.size ≤ b) (h2 : b < W'.heap.size) : ownS o W W' w b = w + 1 := by unfold ownS; rw [if_neg (by omega), if_pos h2]
theorem ownS_far {b : Nat} (hb : ownS o W W' w b ≠ 0) : (b < W.heap.size ∧ o b ≠ 0) ∨ (W.heap.size ≤ b ∧ b < W'.heap.size) := by
  unfold ownS at hb
  by_cases h1 : b < W.heap.size
  · rw [if_pos h1] at hb; exact Or.inl ⟨h1, hb⟩
  · rw [if_neg h1] at hb
    by_cases h2 : b < W'.heap.size
    · exact Or.inr ⟨by omega, h2⟩
    · rw [if_neg h2] at hb; exact absurd rfl hb
theorem LM.farS (lm : LM W o base gp gc h n ws ks ss cbs sps) (hsz : W.heap.size ≤ W'.heap.size) (w : Nat) : ∀ b, ownS o W W' w b ≠ 0 → b < W'.heap.size ∧ b ≠ gp ∧ b ≠ gc ∧ b ≠ h ∧ base ≤ b := fun b hb => by
  have hl := lm.lt
  rcases ownS_far hb with ⟨h1, h2⟩ | ⟨h1, h2⟩
  · have := lm.far b h2; omega
  · omega
theorem LM.setW (lm : LM W o base gp gc h n ws ks ss cbs sps) (h1 : ks[w]? = some k) (h2 : ss[w]? = some s) (h3 : cbs[w]? = some cb) (h4 : sps[w]? = some sp) (hu : Upd S W W') (hS : ∀ b, S b → b = gp ∨ b = gc ∨ b = h ∨ o b = w + 1)
    (pm : PoM W' gp gc h n ws') (inv : PInv n ws' (ks.set w k')) (hl : ws'.length = ws.length) (wm : WM (fun b => o b = w + 1 ∨ W.heap.size ≤ b) W' base gp ws.length k' s' cb sp') (ok : StOk ws.length k' s') :
    LM W' (ownS o W W' w) base gp gc h n ws' (ks.set w k') (ss.set w s') cbs (sps.set w sp') := by
  have hsz := hu.size
  refine ⟨pm, inv, fun i k2 s2 cb2 sp2 e1 e2 e3 e4 => ?_, lm.farS hsz w, by have := lm.lt; omega⟩
  rw [hl]
  by_cases hi : i = w
  · subst hi
    rw [List.getElem?_set_self (List.getElem?_eq_some_iff.1 h1).1] at e1
    rw [List.getElem?_set_self (List.getElem?_eq_some_iff.1 h2).1] at e2
    rw [List.getElem?_set_self (List.getElem?_eq_some_iff.1 h4).1] at e4
    rw [h3] at e3
    cases e1; cases e2; cases e3; cases e4
    refine ⟨wm.monoLt (fun b hb hI => ?_), ok⟩
    rcases hI with hI | hI
    · rw [ownS_lt (lm.far b (by omega)).1]; exact hI
    · exact ownS_new hI hb
  · have hi' : w ≠ i := fun e => hi e.symm
    rw [List.getElem?_set_ne hi'] at e1 e2 e4
    obtain ⟨wm1, ok1⟩ := lm.wm i k2 s2 cb2 sp2 e1 e2 e3 e4
    refine ⟨(wm1.upd hu (fun b hb hSb => ?_)).monoLt (fun b _ hI => ?_), ok1⟩
    · have := lm.far b (by omega)
      rcases hS b hSb with h | h | h | h <;> omega
    · rw [ownS_lt (lm.far b (by omega)).1]; exact hI
theorem LM.put {id : Nat} {r : List Nat} (lm : LM W o base gp gc h n ws ks ss cbs sps) (h1 : ks[w]? = some k) (h2 : ss[w]? = some .none) (h3 : cbs[w]? = some cb) (h4 : sps[w]? = some sp) (hm : k.mine = id :: r) (hu : Upd (fun b => o b = w + 1) W W')
    (wm : WM (fun b => o b = w + 1 ∨ W.heap.size ≤ b) W' base gp ws.length (putS { k with mine := r } id).1 (putS { k with mine := r } id).2 cb sp') :
    LM W' (ownS o W W' w) base gp gc h n ws (ks.set w (putS { k with mine := r } id).1) (ss.set w (putS { k with mine := r } id).2) cbs (sps.set w sp') := by
  obtain ⟨wm0, ok0⟩ := lm.wm w k .none cb sp h1 h2 h3 h4
  have hp := ok0.out (fun _ _ e => by cases e)
  have i1 := lm.inv.put h1 hm
  have hlt := (List.getElem?_eq_some_iff.1 h1).1
  refine lm.setW h1 h2 h3 h4 hu (fun b hb => Or.inr (Or.inr (Or.inr hb))) (lm.pm.upd hu (fun hb => ?_) (fun hb => ?_) (fun hb => ?_)) ?_ rfl wm ?_
  · have := (lm.far _ (show o gp ≠ 0 by omega)).2.1; exact this rfl
  · have := (lm.far _ (show o gc ≠ 0 by omega)).2.2.1; exact this rfl
  · have := (lm.far _ (show o h ≠ 0 by omega)).2.2.2.1; exact this rfl
  · unfold putS
    by_cases hc : 16 < (k.list ++ [id]).length
    · rw [if_pos hc]
      have i2 := i1.leave (w := w) (k := { k with list := k.list ++ [id], mine := r }) (by rw [List.getElem?_set_self hlt]) hp 8
      rw [List.set_set] at i2
      exact i2
    · rw [if_neg hc]
      exact i1
  · unfold putS
    by_cases hc : 16 < (k.list ++ [id]).length
    · rw [if_pos hc]
      exact ⟨fun _ _ _ _ e => by (cases e), fun _ _ e => by (cases e; omega), fun e => absurd rfl (e _ _)⟩
    · rw [if_neg hc]
      exact ⟨fun _ _ _ _ e => by (cases e), fun _ _ e => by (cases e), fun _ => hp⟩
theorem LM.fill {word : Nat} (lm : LM W o base gp gc h n ws ks ss cbs sps) (h1 : ks[w]? = some k) (h2 : ss[w]? = some .none) (h3 : cbs[w]? = some cb) (h4 : sps[w]? = some sp) (hw : word < ws.length) (hb : Below W.heap.size W W')
    (wm : WM (fun b => o b = w + 1 ∨ W.heap.size ≤ b) W' base gp ws.length k (.fill word ws.length false 0) cb sp') :
    LM W' (ownS o W W' w) base gp gc h n ws ks (ss.set w (.fill word ws.length false 0)) cbs (sps.set w sp') := by
  obtain ⟨wm0, ok0⟩ := lm.wm w k .none cb sp h1 h2 h3 h4
  have hp := ok0.out (fun _ _ e => by cases e)
  have i1 := lm.setW (S := fun _ => False) (k' := k) (s' := .fill word ws.length false 0) h1 h2 h3 h4 (Upd.of_below hb _) (fun b hb => hb.elim) (lm.pm.bel hb) (by rw [ptSet_same h1]; exact lm.inv) rfl wm ⟨fun _ _ _ _ e => by (cases e; omega), fun _ _ e => by (cases e), fun _ => hp⟩
  rw [ptSet_same h1] at i1
  exact i1
theorem LM.flush (lm : LM W o base gp gc h n ws ks ss cbs sps) (h1 : ks[w]? = some k) (h2 : ss[w]? = some .none) (h3 : cbs[w]? = some cb) (h4 : sps[w]? = some sp) (hu : Upd (fun b => b = cb) W W')
    (wm : WM (fun b => o b = w + 1 ∨ W.heap.size ≤ b) W' base gp ws.length ⟨[], addL [] k.list, k.mine⟩ (.back false 0) cb sp') :
    LM W' (ownS o W W' w) base gp gc h n ws (ks.set w ⟨[], addL [] k.list, k.mine⟩) (ss.set w (.back false 0)) cbs (sps.set w sp') := by
  obtain ⟨wm0, ok0⟩ := lm.wm w k .none cb sp h1 h2 h3 h4
  have hp := ok0.out (fun _ _ e => by cases e)
  have hcb : o cb = w + 1 := by
    obtain ⟨ov, cm, _⟩ := wm0
    exact cm.ic
  have i1 := lm.inv.leave h1 hp k.list.length
  rw [List.drop_length, List.take_length] at i1
  have hf := lm.far cb (by omega)
  exact lm.setW h1 h2 h3 h4 hu (fun b hb => by subst hb; exact Or.inr (Or.inr (Or.inr hcb))) (lm.pm.upd hu (fun e => hf.2.1 e.symm) (fun e => hf.2.2.1 e.symm) (fun e => hf.2.2.2.1 e.symm)) i1 rfl wm ⟨fun _ _ _ _ e => by (cases e), fun _ _ e => by (cases e; omega), fun e => absurd rfl (e _ _)⟩
theorem LM.make {id : Nat} {r : List Nat} (lm : LM W o base gp gc h n ws ks ss cbs sps) (h1 : ks[w]? = some k) (h2 : ss[w]? = some .none) (h3 : cbs[w]? = some cb) (h4 : sps[w]? = some sp) (hk : k.list = r ++ [id]) (hu : Upd (fun b => b = cb) W W')
    (cm : CaM (fun b => o b = w + 1) W' base gp cb r (.pointer none)) :
    LM W' (ownS o W W' w) base gp gc h n ws (ks.set w { k with list := r, mine := k.mine ++ [id] }) ss cbs sps := by
  obtain ⟨wm0, ok0⟩ := lm.wm w k .none cb sp h1 h2 h3 h4
  have hp := ok0.out (fun _ _ e => by cases e)
  obtain ⟨ov, cm0, hsp, _⟩ := wm0
  have hf := lm.far cb (by have := cm0.ic; omega)
  have i1 := lm.setW (s' := .none) (sp' := sp) h1 h2 h3 h4 hu (fun b hb => by subst hb; exact Or.inr (Or.inr (Or.inr cm0.ic))) (lm.pm.upd hu (fun e => hf.2.1 e.symm) (fun e => hf.2.2.1 e.symm) (fun e => hf.2.2.2.1 e.symm)) (lm.inv.make h1 hk) rfl ⟨_, cm.mono (fun b _ hb => Or.inl hb), hsp, rfl⟩ ⟨fun _ _ _ _ e => by (cases e), fun _ _ e => by (cases e), fun _ => hp⟩
  rw [ptSet_same h2, ptSet_same h4] at i1
  exact i1
theorem PInv.more (h : PInv n ws ks) : PInv n ws (ks ++ [Wk.z]) := by
  refine ⟨h.len, h.rng, ?_, fun k hk => ?_⟩
  · rw [List.flatMap_append]
    have : ([Wk.z] : List Wk).flatMap Wk.all = [] := rfl
    rw [this, List.append_nil]
    exact h.perm
  · rcases List.mem_append.1 hk with hk | hk
    · exact h.pt k hk
    · rw [List.mem_singleton.1 hk]
      exact PtOk.nil _
theorem LM.more (lm : LM W o base gp gc h n ws ks ss cbs sps) (e1 : ks.length = w) (e2 : ss.length = w) (e3 : cbs.length = w) (e4 : sps.length = w) (hb : Below W.heap.size W W')
    (wm : WM (fun b => W.heap.size ≤ b) W' base gp ws.length Wk.z .none cb (.pointer none)) : LM W' (ownS o W W' w) base gp gc h n ws (ks ++ [Wk.z]) (ss ++ [.none]) (cbs ++ [cb]) (sps ++ [.pointer none]) := by
  have hsz := hb.size
  refine ⟨lm.pm.bel hb, lm.inv.more, fun i k2 s2 cb2 sp2 f1 f2 f3 f4 => ?_, lm.farS hsz w, by have := lm.lt; omega⟩
  by_cases hi : i < w
  · rw [List.getElem?_append_left (by omega)] at f1 f2 f3 f4
    obtain ⟨wm1, ok1⟩ := lm.wm i k2 s2 cb2 sp2 f1 f2 f3 f4
    refine ⟨(wm1.upd (Upd.of_below hb (fun _ => False)) (fun b _ hb => hb)).monoLt (fun b _ hI => ?_), ok1⟩
    rw [ownS_lt (lm.far b (by omega)).1]; exact hI
  · have hi2 : i = w := by
      have := (List.getElem?_eq_some_iff.1 f1).1
      rw [List.length_append, e1] at this
      simp at this; omega
    subst hi2
    have g1 : (ks ++ [Wk.z])[i]? = some Wk.z := by rw [← e1]; exact List.getElem?_concat_length
    have g2 : (ss ++ [St.none])[i]? = some .none := by rw [← e2]; exact List.getElem?_concat_length
    have g3 : (cbs ++ [cb])[i]? = some cb := by rw [← e3]; exact List.getElem?_concat_length
    have g4 : (sps ++ [Value.pointer none])[i]? = some (.pointer none) := by rw [← e4]; exact List.getElem?_concat_length
    rw [g1] at f1; rw [g2] at f2; rw [g3] at f3; rw [g4] at f4
    cases f1; cases f2; cases f3; cases f4
    exact ⟨wm.monoLt (fun b hb hI => ownS_new hI hb), ⟨fun _ _ _ _ e => by (cases e), fun _ _ e => by (cases e), fun _ => rfl⟩⟩
theorem LM.updO (lm : LM W o base gp gc h n ws ks ss cbs sps) (hk : ks.length ≤ 4) (hu : Upd S W W') (hS : ∀ b, S b → b ≠ gp ∧ b ≠ gc ∧ b ≠ h ∧ (o b = 0 ∨ 10 ≤ o b)) {o' : Nat → Nat} (ho : ∀ b, b < W.heap.size → o' b = o b) (hf : ∀ b, o' b ≠ 0 → b < W'.heap.size ∧ b ≠ gp ∧ b ≠ gc ∧ b ≠ h ∧ base ≤ b) :
    LM W' o' base gp gc h n ws ks ss cbs sps := by
  have hsz := hu.size
  refine ⟨lm.pm.upd hu (fun e => (hS _ e).1 rfl) (fun e => (hS _ e).2.1 rfl) (fun e => (hS _ e).2.2.1 rfl), lm.inv, fun i k2 s2 cb2 sp2 f1 f2 f3 f4 => ?_, hf, by have := lm.lt; omega⟩
  obtain ⟨wm1, ok1⟩ := lm.wm i k2 s2 cb2 sp2 f1 f2 f3 f4
  have hi := (List.getElem?_eq_some_iff.1 f1).1
  refine ⟨(wm1.upd hu (fun b hb hSb => ?_)).monoLt (fun b _ hI => ?_), ok1⟩
  · have := hS b hSb; omega
  · rw [ho b (lm.far b (by omega)).1]; exact hI
theorem LM.upd (lm : LM W o base gp gc h n ws ks ss cbs sps) (hk : ks.length ≤ 4) (hu : Upd S W W') (hS : ∀ b, S b → b ≠ gp ∧ b ≠ gc ∧ b ≠ h ∧ (o b = 0 ∨ 10 ≤ o b)) : LM W' o base gp gc h n ws ks ss cbs sps :=
  lm.updO hk hu hS (fun _ _ => rfl) (fun b hb => by have := lm.far b hb; have := hu.size; omega)
theorem LM.bel (lm : LM W o base gp gc h n ws ks ss cbs sps) (hk : ks.length ≤ 4) (hb : Below W.heap.size W W') : LM W' o base gp gc h n ws ks ss cbs sps := lm.upd hk (Upd.of_below hb (fun _ => False)) (fun _ e => e.elim)
theorem LM.start (pm : PoM W gp gc h n ws) (hn : n ≤ 60) (hw : ws = iniW n) (hl : gp < W.heap.size ∧ gc < W.heap.size ∧ h < W.heap.size ∧ base ≤ W.heap.size) : LM W (fun _ => 0) base gp gc h n ws [] [] [] [] := by
  subst hw
  exact ⟨pm, pinv_new n 0 hn, fun i k s cb sp e => by simp at e, fun b hb => absurd rfl hb, hl⟩
/-- the rows of what each worker has made -/
structure MiM (W : World) (o : Nat → Nat) (base : Nat) (mvs : List Value) (mss : List (List Nat)) : Prop where
  own : ∀ (i : Nat) v ms, mvs[i]? = some v → mss[i]? = some ms → Own .i64 3 W base v (iN ms) ∧ ∀ g, v.ownBlock = some g → o g = 10 + i
variable {mvs : List Value} {mss : List (List Nat)} {o' : Nat → Nat}
theorem MiM.upd (hm : MiM W o base mvs mss) (hu : Upd S W W') (hS : ∀ b, S b → o b < 10) (ho : ∀ b, b < W.heap.size → o' b = o b) : MiM W' o' base mvs mss := ⟨fun i v ms h1 h2 => by
  obtain ⟨ow, hb⟩ := hm.own i v ms h1 h2
  refine ⟨ow.updS hu (fun g hg hSg => ?_), fun g hg => ?_⟩
  · have h3 := hS g hSg
    have h4 := hb g hg
    omega
  · rw [ho g (ow.lt g hg).2]; exact hb g hg⟩
theorem MiM.set (hm : MiM W o base mvs mss) {v : Value} {ms : List Nat} (hu : Upd S W W') (hS : ∀ b, S b → o b < 10 ∨ o b = 10 + w) (ho : ∀ b, b < W.heap.size → o' b = o b) (ow : Own .i64 3 W' base v (iN ms)) (hb : ∀ g, v.ownBlock = some g → o' g = 10 + w) : MiM W' o' base (mvs.set w v) (mss.set w ms) := ⟨fun i v2 ms2 h1 h2 => by
  by_cases hi : i = w
  · subst hi
    rw [List.getElem?_set_self (by have := (List.getElem?_eq_some_iff.1 h1).1; rw [List.length_set] at this; exact this)] at h1
    rw [List.getElem?_set_self (by have := (List.getElem?_eq_some_iff.1 h2).1; rw [List.length_set] at this; exact this)] at h2
    cases h1; cases h2
    exact ⟨ow, hb⟩
  · have hi' : w ≠ i := fun e => hi e.symm
    rw [List.getElem?_set_ne hi'] at h1 h2
    obtain ⟨ow2, hb2⟩ := hm.own i v2 ms2 h1 h2
    refine ⟨ow2.updS hu (fun g hg hSg => ?_), fun g hg => ?_⟩
    · have h3 := hb2 g hg
      rcases hS g hSg with h | h <;> omega
    · rw [ho g (ow2.lt g hg).2]; exact hb2 g hg⟩
end
end Go.Proofs.YtilhkhnjloplfaaGreatDoor
namespace Go.Proofs.YtilhkhnjloplfaaGreatDoor
set_option linter.unusedVariables false
set_option linter.unusedSimpArgs false
open Go.RowKit
/-- which blocks the fixed things are -/
def FxB (z gp gc h px pg ph gcs gst gmn base : Nat) : Prop := ∃ b1 b2, z ≤ gp ∧ z ≤ gc ∧ z ≤ h ∧ gp < b1 ∧ gc < b1 ∧ h < b1 ∧ b1 ≤ px ∧ b1 ≤ pg ∧ b1 ≤ ph ∧ px < b2 ∧ pg < b2 ∧ ph < b2 ∧ b2 ≤ gcs ∧ gcs < gst ∧ gst < gmn ∧ gmn < base
def ptrL (l : List Nat) : List Value := l.map fun cb => Value.pointer (some ⟨cb, 0, none⟩)
structure LW (w0 W : World) (o : Nat → Nat) (base gp gc h n nk : Nat) (ws : List Nat) (ks : List Wk) (ss : List St) (sps : List Value) (cbs : List Nat) (px pg ph gcs gst gmn : Nat) (L : List Int) (spm mvm mvs : List Value) (mss : List (List Nat)) : Prop where
  lm : LM W o base gp gc h n ws ks ss cbs sps
  l : ks.length = nk ∧ ss.length = nk ∧ cbs.length = nk ∧ sps.length = nk ∧ spm.length = nk ∧ mvm.length = nk ∧ mss.length = nk ∧ nk ≤ 4 ∧ mvs.length = nk
  pl : Pl W px pg ph n L
  bc : Blk W gcs 35 (ptrL cbs).toArray
  bs : Blk W gst 38 spm.toArray
  bm : Blk W gmn 23 mvm.toArray
  mi : MiM W o base mvs mss
  fx : FxB w0.heap.size gp gc h px pg ph gcs gst gmn base
  bel : Below w0.heap.size w0 W
section
variable {w0 W W' : World} {o : Nat → Nat} {base gp gc h n nk w px pg ph gcs gst gmn : Nat} {ws ws' : List Nat} {ks ks' : List Wk} {ss ss' : List St} {cbs : List Nat} {sps sps' spm mvm mvs : List Value} {mss : List (List Nat)} {L L' : List Int} {S : Nat → Prop} {v : Value} {ms : List Nat}
theorem LW.ob (lw : LW w0 W o base gp gc h n nk ws ks ss sps cbs px pg ph gcs gst gmn L spm mvm mvs mss) {b : Nat} (hb : o b ≠ 0) : base ≤ b := (lw.lm.far b hb).2.2.2.2
theorem LW.o0 (lw : LW w0 W o base gp gc h n nk ws ks ss sps cbs px pg ph gcs gst gmn L spm mvm mvs mss) {b : Nat} (hb : b < base) : o b = 0 := Decidable.byContradiction fun e => by have := lw.ob e; omega
theorem LW.belU (lw : LW w0 W o base gp gc h n nk ws ks ss sps cbs px pg ph gcs gst gmn L spm mvm mvs mss) (hu : Upd S W W') (hS : ∀ b, S b → o b ≠ 0 ∨ b = gp ∨ b = gc ∨ b = h ∨ b = px ∨ b = pg ∨ b = ph ∨ b = gcs ∨ b = gst ∨ b = gmn) : Below w0.heap.size w0 W' := by
  obtain ⟨b1, b2, f⟩ := lw.fx
  refine lw.bel.trans (hu.below lw.bel.size fun b hb hSb => ?_)
  rcases hS b hSb with e | e | e | e | e | e | e | e | e | e
  · have := lw.ob e; omega
  all_goals omega
theorem LW.bel_ (lw : LW w0 W o base gp gc h n nk ws ks ss sps cbs px pg ph gcs gst gmn L spm mvm mvs mss) (hb : Below W.heap.size W W') : LW w0 W' o base gp gc h n nk ws ks ss sps cbs px pg ph gcs gst gmn L spm mvm mvs mss :=
  ⟨lw.lm.bel (by have := lw.l; omega) hb, lw.l, lw.pl.bel hb, lw.bc.bel hb, lw.bs.bel hb, lw.bm.bel hb, lw.mi.upd (Upd.of_below hb (fun _ => False)) (fun _ e => e.elim) (fun _ _ => rfl), lw.fx, bel_after lw.bel hb⟩
theorem LW.place (lw : LW w0 W o base gp gc h n nk ws ks ss sps cbs px pg ph gcs gst gmn L spm mvm mvs mss) (hu : Upd (· = ph) W W') (hp : Pl W' px pg ph n L') : LW w0 W' o base gp gc h n nk ws ks ss sps cbs px pg ph gcs gst gmn L' spm mvm mvs mss := by
  obtain ⟨b1, b2, f⟩ := lw.fx
  have h0 := lw.o0 (b := ph) (by omega)
  exact ⟨lw.lm.upd (by have := lw.l; omega) hu (fun b e => by subst e; omega), lw.l, hp, lw.bc.upd hu (by omega), lw.bs.upd hu (by omega), lw.bm.upd hu (by omega), lw.mi.upd hu (fun b e => by subst e; omega) (fun _ _ => rfl), lw.fx, lw.belU hu (fun b e => by subst e; simp)⟩
theorem LW.step (lw : LW w0 W o base gp gc h n nk ws ks ss sps cbs px pg ph gcs gst gmn L spm mvm mvs mss) (v : Value) : LW w0 (W.setCell ⟨gst, w, none⟩ v) o base gp gc h n nk ws ks ss sps cbs px pg ph gcs gst gmn L (spm.set w v) mvm mvs mss := by
  obtain ⟨b1, b2, f⟩ := lw.fx
  have h0 := lw.o0 (b := gst) (by omega)
  have hu := Upd.one W gst w v
  refine ⟨lw.lm.upd (by have := lw.l; omega) hu (fun b e => by subst e; omega), by rw [List.length_set]; exact lw.l, lw.pl.upd hu (by omega) (by omega) (by omega), lw.bc.upd hu (by omega), ?_, lw.bm.upd hu (by omega), lw.mi.upd hu (fun b e => by subst e; omega) (fun _ _ => rfl), lw.fx, lw.belU hu (fun b e => by subst e; simp)⟩
  have := lw.bs.set_ w v
  rwa [List.setIfInBounds_toArray] at this
/-- the row of what worker w has made is another one -/
theorem LW.mine (lw : LW w0 W o base gp gc h n nk ws ks ss sps cbs px pg ph gcs gst gmn L spm mvm mvs mss) (hu : Upd S W W') (hS : ∀ b, S b → o b = 10 + w) (ow : Own .i64 3 W' base v (iN ms)) (hv : ∀ g, v.ownBlock = some g → o g = 10 + w ∨ W.heap.size ≤ g) :
    LW w0 (W'.setCell ⟨gmn, w, none⟩ v) (ownS o W W' (9 + w)) base gp gc h n nk ws ks ss sps cbs px pg ph gcs gst gmn L spm (mvm.set w v) (mvs.set w v) (mss.set w ms) := by
  obtain ⟨b1, b2, f⟩ := lw.fx
  have hsz := hu.size
  have h0 := lw.o0 (b := gmn) (by omega)
  have hl := lw.lm.lt
  have hbe : ∀ b, S b → base ≤ b := fun b hb => lw.ob (by have := hS b hb; omega)
  have hS' : ∀ b, b < base → ¬ S b := fun b h1 h2 => by have := hbe b h2; omega
  have lm1 : LM W' (ownS o W W' (9 + w)) base gp gc h n ws ks ss cbs sps := lw.lm.updO (by have := lw.l; omega) hu (fun b hb => by
    have h1 := hbe b hb
    have h2 := hS b hb
    omega) (fun b hb => ownS_lt hb) (lw.lm.farS hsz _)
  have hz : ∀ b, b < base → ownS o W W' (9 + w) b = 0 := fun b hb => by rw [ownS_lt (by omega)]; exact lw.o0 hb
  have hu1 := Upd.one W' gmn w v
  have h1 := hz gmn (by omega)
  have hlt : ∀ g, v.ownBlock = some g → base ≤ g ∧ g < W'.heap.size := fun g hg => ow.lt g hg
  refine ⟨lm1.upd (by have := lw.l; omega) hu1 (fun b e => by subst e; omega), by rw [List.length_set, List.length_set, List.length_set]; exact lw.l, (lw.pl.upd hu (hS' _ (by omega)) (hS' _ (by omega)) (hS' _ (by omega))).upd hu1 (by omega) (by omega) (by omega), (lw.bc.upd hu (hS' _ (by omega))).upd hu1 (by omega), (lw.bs.upd hu (hS' _ (by omega))).upd hu1 (by omega), ?_, ?_, lw.fx, ?_⟩
  · have := (lw.bm.upd hu (hS' _ (by omega))).set_ w v
    rwa [List.setIfInBounds_toArray] at this
  · refine (lw.mi.set (o' := ownS o W W' (9 + w)) hu (fun b hb => Or.inr (hS b hb)) (fun b hb => ownS_lt hb) ow (fun g hg => ?_)).upd hu1 (fun b e => by subst e; omega) (fun _ _ => rfl)
    by_cases hgl : g < W.heap.size
    · rw [ownS_lt hgl]
      rcases hv g hg with e | e <;> omega
    · rw [ownS_new (by omega) (hlt g hg).2]; omega
  · refine (lw.bel.trans (hu.below lw.bel.size fun b hb hSb => ?_)).trans (hu1.below (by have := lw.bel.size; omega) fun b hb hSb => ?_)
    · have := hbe b hSb; omega
    · omega
/-- a worker has done something -/
theorem LW.work (lw : LW w0 W o base gp gc h n nk ws ks ss sps cbs px pg ph gcs gst gmn L spm mvm mvs mss) (hw : w < nk) (lm : LM W' (ownS o W W' w) base gp gc h n ws' ks' ss' cbs sps') (hk : ks'.length = nk) (hs : ss'.length = nk) (hp : sps'.length = nk) (hu : Upd S W W') (hS : ∀ b, S b → b = h ∨ o b = w + 1) :
    LW w0 W' (ownS o W W' w) base gp gc h n nk ws' ks' ss' sps' cbs px pg ph gcs gst gmn L spm mvm mvs mss := by
  obtain ⟨b1, b2, f⟩ := lw.fx
  have hl := lw.l
  have hne : ∀ b, b ≠ h → b < base → ¬ S b := fun b h1 h2 h3 => by
    rcases hS b h3 with e | e
    · exact h1 e
    · have := lw.ob (b := b) (by omega); omega
  refine ⟨lm, by omega, lw.pl.upd hu (hne _ (by omega) (by omega)) (hne _ (by omega) (by omega)) (hne _ (by omega) (by omega)), lw.bc.upd hu (hne _ (by omega) (by omega)), lw.bs.upd hu (hne _ (by omega) (by omega)), lw.bm.upd hu (hne _ (by omega) (by omega)), lw.mi.upd hu (fun b hb => ?_) (fun b hb => ownS_lt hb), lw.fx, lw.belU hu (fun b hb => ?_)⟩
  · rcases hS b hb with e | e
    · subst e
      have := lw.o0 (b := b) (by omega); omega
    · omega
  · rcases hS b hb with e | e
    · subst e; simp
    · exact Or.inl (by omega)
/-- what stands in the row of rows is another one -/
theorem LW.mineM (lw : LW w0 W o base gp gc h n nk ws ks ss sps cbs px pg ph gcs gst gmn L spm mvm mvs mss) (v : Value) : LW w0 (W.setCell ⟨gmn, w, none⟩ v) o base gp gc h n nk ws ks ss sps cbs px pg ph gcs gst gmn L spm (mvm.set w v) mvs mss := by
  obtain ⟨b1, b2, f⟩ := lw.fx
  have h0 := lw.o0 (b := gmn) (by omega)
  have hu := Upd.one W gmn w v
  refine ⟨lw.lm.upd (by have := lw.l; omega) hu (fun b e => by subst e; omega), by rw [List.length_set]; exact lw.l, lw.pl.upd hu (by omega) (by omega) (by omega), lw.bc.upd hu (by omega), lw.bs.upd hu (by omega), ?_, lw.mi.upd hu (fun b e => by subst e; omega) (fun _ _ => rfl), lw.fx, lw.belU hu (fun b e => by subst e; simp)⟩
  have := lw.bm.set_ w v
  rwa [List.setIfInBounds_toArray] at this
/-- the cells of the rows -/
theorem LW.cc (lw : LW w0 W o base gp gc h n nk ws ks ss sps cbs px pg ph gcs gst gmn L spm mvm mvs mss) {cb : Nat} (hc : cbs[w]? = some cb) : W.cell? ⟨gcs, w, none⟩ = some (.pointer (some ⟨cb, 0, none⟩)) := by
  rw [lw.bc.cell w]; unfold ptrL; simp [hc]
theorem LW.cs (lw : LW w0 W o base gp gc h n nk ws ks ss sps cbs px pg ph gcs gst gmn L spm mvm mvs mss) {v : Value} (hc : spm[w]? = some v) : W.cell? ⟨gst, w, none⟩ = some v := by
  rw [lw.bs.cell w]; simpa using hc
theorem LW.cm (lw : LW w0 W o base gp gc h n nk ws ks ss sps cbs px pg ph gcs gst gmn L spm mvm mvs mss) {v : Value} (hc : mvm[w]? = some v) : W.cell? ⟨gmn, w, none⟩ = some v := by
  rw [lw.bm.cell w]; simpa using hc
end
end Go.Proofs.YtilhkhnjloplfaaGreatDoor
namespace Go.Proofs.YtilhkhnjloplfaaGreatDoor
set_option linter.unusedVariables false
set_option linter.unusedSimpArgs false
open Go.RowKit
/-- what stays -/
structure Cx where
  w0 : World
  base : Nat
  gp : Nat
  gc : Nat
  h : Nat
  n : Nat
  nk : Nat
  px : Nat
  pg : Nat
  ph : Nat
  gcs : Nat
  gst : Nat
  gmn : Nat
  cbs : List Nat
/-- what is only thought of -/
structure Gh where
  o : Nat → Nat
  ws : List Nat
  ks : List Wk
  ss : List St
  sps : List Value
  L : List Int
  spm : List Value
  mvm : List Value
  mvs : List Value
  mss : List (List Nat)
  made : Nat → Bool
def LWg (c : Cx) (W : World) (g : Gh) : Prop := LW c.w0 W g.o c.base c.gp c.gc c.h c.n c.nk g.ws g.ks g.ss g.sps c.cbs c.px c.pg c.ph c.gcs c.gst c.gmn g.L g.spm g.mvm g.mvs g.mss
/-- the places that are made are the workers', but for one -/
def MR (n : Nat) (made : Nat → Bool) (x : Option (Nat × Bool)) (ks : List Wk) : Prop := (∀ i, i < n → (∀ b, x ≠ some (i, b)) → (i ∈ ks.flatMap Wk.mine ↔ made i = true)) ∧ ∀ i b, x = some (i, b) → made i = b ∧ (i ∈ ks.flatMap Wk.mine ↔ b = false)
structure PG (c : Cx) (W : World) (g : Gh) (z w : Nat) (k : Wk) (s : St) (sp pv mvv mv : Value) (ms : List Nat) (x : Option (Nat × Bool)) : Prop where
  n1 : 1 ≤ c.n ∧ c.n ≤ 60
  tab : Tab c.w0 ∧ 0 < c.w0.heap.size
  wn : w < c.nk
  lw : LWg c W g
  pi : PlI c.n g.L g.made
  mr : MR c.n g.made x g.ks
  zs : ∀ i, i < z → i < c.nk → g.ks[i]? = some Wk.z
  rest : ∀ i, i ≠ w → z ≤ i → g.spm[i]? = g.sps[i]? ∧ g.mvm[i]? = g.mvs[i]? ∧ g.mss[i]? = (g.ks.map Wk.mine)[i]?
  at_ : g.ks[w]? = some k ∧ g.ss[w]? = some s ∧ g.sps[w]? = some sp ∧ g.spm[w]? = some pv ∧ g.mvm[w]? = some mvv ∧ g.mvs[w]? = some mv ∧ g.mss[w]? = some ms
def PF (c : Cx) (W : World) (z w : Nat) (k : Wk) (s : St) (sp pv mvv mv : Value) (ms : List Nat) (x : Option (Nat × Bool)) : Prop := ∃ g, PG c W g z w k s sp pv mvv mv ms x
def PFB (c : Cx) (W : World) (z w : Nat) (k : Wk) (s : St) (sp pv mvv mv : Value) (ms : List Nat) (x : Option (Nat × Bool)) (B : Nat) : Prop := ∃ g, PG c W g z w k s sp pv mvv mv ms x ∧ muS g.ws k s ≤ B
section
variable {n w id : Nat} {made : Nat → Bool} {x : Option (Nat × Bool)} {ws : List Nat} {ks : List Wk} {k k' : Wk} {r : List Nat}
theorem MR.same (h : MR n made x ks) (hk : ks[w]? = some k) (he : k'.mine = k.mine) : MR n made x (ks.set w k') := by
  obtain ⟨R, h1, h2⟩ := ptFlat_set Wk.mine k' hk
  have e : ∀ i, i ∈ (ks.set w k').flatMap Wk.mine ↔ i ∈ ks.flatMap Wk.mine := fun i => by rw [h2.mem_iff, h1.mem_iff, he]
  exact ⟨fun i hi hx => by rw [e]; exact h.1 i hi hx, fun i b hx => by rw [e]; exact h.2 i b hx⟩
theorem mine_nodup (h : PInv n ws ks) : (ks.flatMap Wk.mine).Nodup := by
  have h1 := h.nodup
  rw [List.nodup_append] at h1
  have h2 := (ptFlat_app (fun k : Wk => k.list ++ leaf k.parts) Wk.mine ks).nodup_iff.1 h1.2.1
  exact (List.nodup_append.1 h2).2.1
/-- a place leaves a worker's row -/
theorem MR.out (h : MR n made x ks) (inv : PInv n ws ks) (hk : ks[w]? = some k) (hm : k.mine = id :: r) (he : k'.mine = r) (hx : x = none ∨ x = some (id, false)) : MR n made (if x = none then some (id, true) else none) (ks.set w k') := by
  obtain ⟨R, h1, h2⟩ := ptFlat_set Wk.mine k' hk
  have hn := h1.nodup_iff.1 (mine_nodup inv)
  rw [hm, List.cons_append, List.nodup_cons] at hn
  have e1 : ∀ i, i ∈ (ks.set w k').flatMap Wk.mine ↔ i ∈ r ++ R := fun i => by rw [h2.mem_iff, he]
  have e2 : ∀ i, i ≠ id → (i ∈ ks.flatMap Wk.mine ↔ i ∈ r ++ R) := fun i hi => by
    rw [h1.mem_iff, hm, List.cons_append, List.mem_cons]; simp [hi]
  have e3 : id ∈ ks.flatMap Wk.mine := by rw [h1.mem_iff, hm]; simp
  have hid : id < n := inv.lt (List.mem_of_getElem? hk) (by unfold Wk.all; simp [hm])
  rcases hx with rfl | rfl
  · rw [if_pos rfl]
    refine ⟨fun i hi hx => ?_, fun i b hx => ?_⟩
    · have hne : i ≠ id := fun e => hx true (by rw [e])
      rw [e1, ← e2 i hne]
      exact h.1 i hi (fun b e => by cases e)
    · simp only [Option.some.injEq, Prod.mk.injEq] at hx
      obtain ⟨rfl, rfl⟩ := hx
      rw [e1]
      exact ⟨(h.1 id hid (fun b e => by cases e)).1 e3, by simp only [Bool.true_eq_false, iff_false]; exact hn.1⟩
  · rw [if_neg (by simp)]
    refine ⟨fun i hi _ => ?_, fun i b hx => by cases hx⟩
    rw [e1]
    by_cases hne : i = id
    · subst hne
      have := (h.2 i false rfl).1
      rw [this]
      simp only [Bool.false_eq_true, iff_false]; exact hn.1
    · rw [← e2 i hne]
      exact h.1 i hi (fun b e => hne (by cases e; rfl))
/-- .. comes into it -/
theorem MR.in_ (h : MR n made (some (id, true)) ks) (hk : ks[w]? = some k) (he : k'.mine = k.mine ++ [id]) : MR n made none (ks.set w k') := by
  obtain ⟨R, h1, h2⟩ := ptFlat_set Wk.mine k' hk
  refine ⟨fun i hi _ => ?_, fun i b hx => by cases hx⟩
  rw [h2.mem_iff, he]
  by_cases hne : i = id
  · subst hne
    rw [(h.2 i true rfl).1]
    simp
  · have e1 : i ∈ k.mine ++ [id] ++ R ↔ i ∈ ks.flatMap Wk.mine := by rw [h1.mem_iff]; simp [hne]
    rw [e1]
    exact h.1 i hi (fun b e => hne (by cases e; rfl))
/-- a place's state is another one -/
theorem MR.cas (h : MR n made x ks) (hid : id < n) {b : Bool} (hx : x = none ∨ x = some (id, !b)) (hb : made id = !b) : MR n (fun j => if j = id then b else made j) (if x = none then some (id, b) else none) ks := by
  rcases hx with rfl | rfl
  · rw [if_pos rfl]
    refine ⟨fun i hi hx => ?_, fun i b' hx => ?_⟩
    · have hne : i ≠ id := fun e => hx b (by rw [e])
      show i ∈ ks.flatMap Wk.mine ↔ (if i = id then b else made i) = true
      rw [if_neg hne]
      exact h.1 i hi (fun b e => by cases e)
    · simp only [Option.some.injEq, Prod.mk.injEq] at hx
      obtain ⟨rfl, rfl⟩ := hx
      have h1 := h.1 id hid (fun b e => by cases e)
      rw [hb] at h1
      rw [h1]
      cases b <;> simp
  · rw [if_neg (by simp)]
    refine ⟨fun i hi _ => ?_, fun i b hx => by cases hx⟩
    by_cases hne : i = id
    · subst hne
      have h1 := (h.2 i _ rfl).2
      rw [h1]
      cases b <;> simp
    · show i ∈ ks.flatMap Wk.mine ↔ (if i = id then b else made i) = true
      rw [if_neg hne]
      exact h.1 i hi (fun b e => hne (by cases e; rfl))
end
section
variable {c : Cx} {W W' : World} {g : Gh} {z w id : Nat} {k : Wk} {s : St} {sp pv mvv mv v : Value} {ms ms' r : List Nat} {x : Option (Nat × Bool)} {S : Nat → Prop} {cb B : Nat}
theorem PG.wm (p : PG c W g z w k s sp pv mvv mv ms x) (hc : c.cbs[w]? = some cb) : WM (fun b => g.o b = w + 1) W c.base c.gp g.ws.length k s cb sp ∧ StOk g.ws.length k s := p.lw.lm.wm w k s cb sp p.at_.1 p.at_.2.1 hc p.at_.2.2.1
theorem PG.hI (p : PG c W g z w k s sp pv mvv mv ms x) : ∀ b, g.o b = w + 1 → b ≠ c.gp ∧ b ≠ c.gc ∧ b ≠ c.h ∧ 0 < b := fun b hb => by
  have h1 := p.lw.lm.far b (by omega)
  obtain ⟨b1, b2, f⟩ := p.lw.fx
  have := p.tab.2
  omega
/-- a worker has done something: all else is as it was -/
theorem PG.work (p : PG c W g z w k s sp pv mvv mv ms x) {o' : Nat → Nat} {ws' : List Nat} {k' : Wk} {s' : St} {sp' : Value} {x' : Option (Nat × Bool)} (lw : LWg c W' { g with o := o', ws := ws', ks := g.ks.set w k', ss := g.ss.set w s', sps := g.sps.set w sp' }) (mr : MR c.n g.made x' (g.ks.set w k')) (hz : z ≤ w) :
    PG c W' { g with o := o', ws := ws', ks := g.ks.set w k', ss := g.ss.set w s', sps := g.sps.set w sp' } z w k' s' sp' pv mvv mv ms x' := by
  obtain ⟨h1, h2, h3, h4, h5, h6, h7⟩ := p.at_
  refine ⟨p.n1, p.tab, p.wn, lw, p.pi, mr, fun i hi hin => ?_, fun i hi hzi => ?_, ?_, ?_, ?_, h4, h5, h6, h7⟩
  · have := p.zs i hi hin
    show (g.ks.set w k')[i]? = _
    rw [List.getElem?_set_ne (by omega)]; exact this
  · obtain ⟨r1, r2, r3⟩ := p.rest i hi hzi
    have hne : w ≠ i := fun e => hi e.symm
    refine ⟨?_, r2, ?_⟩
    · show _ = (g.sps.set w sp')[i]?
      rw [List.getElem?_set_ne hne]; exact r1
    · show _ = ((g.ks.set w k').map Wk.mine)[i]?
      rw [List.map_set, List.getElem?_set_ne hne]; exact r3
  · show (g.ks.set w k')[w]? = _
    rw [List.getElem?_set_self (List.getElem?_eq_some_iff.1 h1).1]
  · show (g.ss.set w s')[w]? = _
    rw [List.getElem?_set_self (List.getElem?_eq_some_iff.1 h2).1]
  · show (g.sps.set w sp')[w]? = _
    rw [List.getElem?_set_self (List.getElem?_eq_some_iff.1 h3).1]
theorem muS_six {nw : Nat} (ho : StOk nw k s) (hp : PtOk nw k.parts) (hn : nw ≤ 2) {ws : List Nat} (hw : ws.length = nw) : muS ws k s ≤ 6 := by
  subst hw
  have := muS_le ho hp
  omega
theorem PG.nw (p : PG c W g z w k s sp pv mvv mv ms x) : g.ws.length ≤ 2 ∧ 1 ≤ g.ws.length := by
  have := p.lw.lm.inv.len
  have := p.n1
  omega
theorem PF.toB (p : PF c W z w k s sp pv mvv mv ms x) : PFB c W z w k s sp pv mvv mv ms x 6 := by
  obtain ⟨g, p⟩ := p
  have hc := p.lw.l
  obtain ⟨cb, hcb⟩ : ∃ cb, c.cbs[w]? = some cb := ⟨_, List.getElem?_eq_getElem (by have := p.wn; omega)⟩
  exact ⟨g, p, muS_six (p.wm hcb).2 (p.lw.lm.inv.pt k (List.mem_of_getElem? p.at_.1)) p.nw.1 rfl⟩
theorem PFB.toF (p : PFB c W z w k s sp pv mvv mv ms x B) : PF c W z w k s sp pv mvv mv ms x := by
  obtain ⟨g, p, _⟩ := p
  exact ⟨g, p⟩
theorem St.isN_iff {s : St} : s.isN = true ↔ s = .none := by cases s <;> simp [St.isN]
theorem doS_bk1 {ws : List Nat} (h : ∃ rd seen, s = .back rd seen) : (doS ws k s).2.1.list = k.list ∧ ((doS ws k s).2.2 ≠ .none → ∃ rd seen, (doS ws k s).2.2 = .back rd seen) := by
  obtain ⟨rd, seen, rfl⟩ := h
  cases hp : k.parts with
  | nil => unfold doS; rw [hp]; exact ⟨rfl, fun e => absurd rfl e⟩
  | cons a r =>
    obtain ⟨i, q⟩ := a
    unfold doS
    rw [hp]
    simp only
    by_cases h1 : rd = false
    · rw [if_pos h1]; exact ⟨rfl, fun _ => ⟨_, _, rfl⟩⟩
    · rw [if_neg h1]
      by_cases h2 : ws.getD i 0 = seen
      · rw [if_pos h2]
        by_cases h3 : r = []
        · rw [if_pos h3]; exact ⟨rfl, fun e => absurd rfl e⟩
        · rw [if_neg h3]; exact ⟨rfl, fun _ => ⟨_, _, rfl⟩⟩
      · rw [if_neg h2]; exact ⟨rfl, fun _ => ⟨_, _, rfl⟩⟩
/-- a Do -/
theorem PFB.do_ (p : PFB c W z w k s sp pv mvv mv ms x B) (hz : z ≤ w) (hc : c.cbs[w]? = some cb) (hs : s ≠ .none) :
    Calls Tryz.prog 7 #[.pointer (some ⟨cb, 0, none⟩), sp] W fun e W' => ∃ k' s', e = .returned (.bool s'.isN) ∧ PFB c W' z w k' s' (spOf s' sp) pv mvv mv ms x (B - 1) ∧ k'.mine = k.mine ∧ 1 ≤ B ∧ ((∃ rd seen, s = .back rd seen) → k'.list = k.list ∧ (s' ≠ .none → ∃ rd seen, s' = .back rd seen)) := by
  obtain ⟨g, p, hB⟩ := p
  obtain ⟨wm, ok⟩ := p.wm hc
  obtain ⟨h1, h2, h3, h4, h5, h6, h7⟩ := p.at_
  obtain ⟨b1, b2, f⟩ := p.lw.fx
  have ht := p.tab
  have hl := p.lw.l
  refine (cDo_any _ W c.base c.gp c.gc c.h c.n cb g.ws g.ks w k s sp p.lw.lm.pm wm p.hI p.lw.lm.inv h1 ok hs p.n1.2 (ht.1.bel ht.2 p.lw.bel) (by omega) p.lw.lm.lt.2.2.2).mono ?_
  rintro e W' R
  have hmu := muS_step ok hs (ws := g.ws)
  obtain ⟨i1, i2, i3, i4⟩ := p.lw.lm.inv.step h1 ok
  have q := p.work (o' := ownS g.o W W' w) (ws' := (doS g.ws k s).1) (k' := (doS g.ws k s).2.1) (s' := (doS g.ws k s).2.2) (sp' := spOf (doS g.ws k s).2.2 sp) (x' := x)
    (p.lw.work p.wn (p.lw.lm.doStep h1 h2 hc h3 R) (by rw [List.length_set]; omega) (by rw [List.length_set]; omega) (by rw [List.length_set]; omega) R.upd (fun b hb => hb.symm)) (p.mr.same h1 i4) hz
  exact ⟨_, _, R.ret, ⟨_, q, by show muS (doS g.ws k s).1 (doS g.ws k s).2.1 (doS g.ws k s).2.2 ≤ B - 1; omega⟩, i4, by omega, fun hbk => doS_bk1 hbk⟩
theorem PG.none_ (p : PG c W g z w k .none sp pv mvv mv ms x) (hc : c.cbs[w]? = some cb) : sp = .pointer none ∧ k.parts = [] ∧ ∃ ov, ov = .pointer none ∧ CaM (fun b => g.o b = w + 1) W c.base c.gp cb k.list ov := by
  obtain ⟨⟨ov, cm, h1, h2⟩, ok⟩ := p.wm hc
  exact ⟨h1, ok.out (fun _ _ e => by cases e), ov, h2, cm⟩
/-- a place that is free again: its port is put -/
theorem PF.put_ (p : PF c W z w k .none sp pv mvv mv ms x) (hz : z ≤ w) (hc : c.cbs[w]? = some cb) (hm : k.mine = id :: r) (hx : x = none ∨ x = some (id, false)) :
    Calls Tryz.prog 10 #[.pointer (some ⟨cb, 0, none⟩), .int .i64 (id : Int)] W fun e W' => ∃ sp' k' s', e = .returned sp' ∧ PF c W' z w k' s' sp' pv mvv mv ms (if x = none then some (id, true) else none) ∧ k'.mine = r ∧ s' ≠ .none := by
  obtain ⟨g, p⟩ := p
  obtain ⟨wm, ok⟩ := p.wm hc
  obtain ⟨e1, hp, ov, rfl, cm⟩ := p.none_ hc
  obtain ⟨h1, h2, h3, h4, h5, h6, h7⟩ := p.at_
  have hl := p.lw.l
  have inv := p.lw.lm.inv
  have hmem := List.mem_of_getElem? h1
  have n1 := p.n1
  have hll := inv.list_len hmem
  refine (cPut_any (fun b => g.o b = w + 1) W c.base c.gp c.gc c.h c.n g.ws.length cb g.ws { k with mine := r } id p.lw.lm.pm (by subst e1; exact ⟨_, cm, rfl, rfl⟩) (fun b hb => by have := p.hI b hb; omega) hp (fun y hy => ?_) (by omega) (by show k.list.length ≤ _; omega) p.lw.lm.lt.2.2.2).mono ?_
  · rcases List.mem_append.1 hy with hy | hy
    · exact inv.lt hmem (by unfold Wk.all; simp only [List.mem_append]; exact Or.inl (Or.inl hy))
    · rw [List.mem_singleton.1 hy]
      exact inv.lt hmem (by unfold Wk.all; simp [hm])
  · rintro e W' ⟨sp', rfl, hu, wm'⟩
    have hk' : (putS { k with mine := r } id).1.mine = r := by unfold putS; split <;> rfl
    have q := p.work (o' := ownS g.o W W' w) (ws' := g.ws) (k' := (putS { k with mine := r } id).1) (s' := (putS { k with mine := r } id).2) (sp' := sp') (x' := if x = none then some (id, true) else none)
      (p.lw.work p.wn (p.lw.lm.put h1 h2 hc h3 hm hu wm') (by rw [List.length_set]; omega) (by rw [List.length_set]; omega) (by rw [List.length_set]; omega) hu (fun b hb => Or.inr hb)) (p.mr.out inv h1 hm hk' hx) hz
    refine ⟨_, _, _, rfl, ⟨_, q⟩, hk', ?_⟩
    unfold putS
    split <;> simp
theorem PF.fill_ (p : PF c W z w k .none sp pv mvv mv ms x) (hz : z ≤ w) (hc : c.cbs[w]? = some cb) (hk : k.list = []) :
    Calls Tryz.prog 12 #[.pointer (some ⟨cb, 0, none⟩)] W fun e W' => ∃ sp' s', e = .returned sp' ∧ PF c W' z w k s' sp' pv mvv mv ms x ∧ s' ≠ .none := by
  obtain ⟨g, p⟩ := p
  obtain ⟨e1, hp, ov, rfl, cm⟩ := p.none_ hc
  obtain ⟨h1, h2, h3, h4, h5, h6, h7⟩ := p.at_
  have hl := p.lw.l
  refine (cFill_any (fun b => g.o b = w + 1) W c.base c.gp c.gc c.h c.n g.ws.length cb g.ws k p.lw.lm.pm (by subst e1; exact ⟨_, cm, rfl, rfl⟩) hk rfl p.nw.2 p.nw.1).mono ?_
  rintro e W' ⟨sp', word, rfl, hw, hb, wm'⟩
  have lm := p.lw.lm.fill h1 h2 hc h3 hw hb wm'
  rw [← ptSet_same h1] at lm
  have q := p.work (o' := ownS g.o W W' w) (ws' := g.ws) (k' := k) (s' := .fill word g.ws.length false 0) (sp' := sp') (x' := x)
    (p.lw.work (S := fun _ => False) p.wn lm (by rw [List.length_set]; omega) (by rw [List.length_set]; omega) (by rw [List.length_set]; omega) (Upd.of_below hb _) (fun b hb => hb.elim)) (p.mr.same h1 rfl) hz
  exact ⟨_, _, rfl, ⟨_, q⟩, by simp⟩
theorem PF.flush_ (p : PF c W z w k .none sp pv mvv mv ms x) (hz : z ≤ w) (hc : c.cbs[w]? = some cb) :
    Calls Tryz.prog 15 #[.pointer (some ⟨cb, 0, none⟩)] W fun e W' => ∃ sp' k', e = .returned sp' ∧ PF c W' z w k' (.back false 0) sp' pv mvv mv ms x ∧ k'.mine = k.mine ∧ k'.list = [] := by
  obtain ⟨g, p⟩ := p
  obtain ⟨e1, hp, ov, rfl, cm⟩ := p.none_ hc
  obtain ⟨h1, h2, h3, h4, h5, h6, h7⟩ := p.at_
  have hl := p.lw.l
  have inv := p.lw.lm.inv
  have hmem := List.mem_of_getElem? h1
  have hll := inv.list_len hmem
  have n1 := p.n1
  refine (cFlush_any (fun b => g.o b = w + 1) W c.base c.gp c.gc c.h c.n g.ws.length cb g.ws k p.lw.lm.pm (by subst e1; exact ⟨_, cm, rfl, rfl⟩) (fun y hy => inv.lt hmem (by unfold Wk.all; simp [hy])) (by omega) (by omega) p.lw.lm.lt.2.2.2).mono ?_
  rintro e W' ⟨sp', rfl, hu, wm'⟩
  have q := p.work (o' := ownS g.o W W' w) (ws' := g.ws) (k' := ⟨[], addL [] k.list, k.mine⟩) (s' := .back false 0) (sp' := sp') (x' := x)
    (p.lw.work p.wn (p.lw.lm.flush h1 h2 hc h3 hu wm') (by rw [List.length_set]; omega) (by rw [List.length_set]; omega) (by rw [List.length_set]; omega) hu (fun b hb => by subst hb; exact Or.inr cm.ic)) (p.mr.same h1 rfl) hz
  exact ⟨_, _, rfl, ⟨_, q⟩, rfl, rfl⟩
/-- the newest port comes out: it is a place's -/
theorem PF.pop_ (p : PF c W z w k .none sp pv mvv mv ms (some (id, true))) (hz : z ≤ w) (hc : c.cbs[w]? = some cb) (hk : k.list = r ++ [id]) :
    Calls Tryz.prog 13 #[.pointer (some ⟨cb, 0, none⟩)] W fun e W' => e = .returned (.tuple #[.int .i64 (id : Int), .bool true]) ∧ PF c W' z w { k with list := r, mine := k.mine ++ [id] } .none sp pv mvv mv ms none := by
  obtain ⟨g, p⟩ := p
  obtain ⟨e1, hp, ov, rfl, cm⟩ := p.none_ hc
  obtain ⟨h1, h2, h3, h4, h5, h6, h7⟩ := p.at_
  have hl := p.lw.l
  have hic := cm.ic
  rw [hk] at cm
  refine (cPop_some _ W c.base c.gp cb _ r id cm).mono ?_
  rintro e W' ⟨rfl, cm', hu⟩
  have lm := p.lw.lm.make h1 h2 hc h3 hk hu cm'
  rw [← ptSet_same h2, ← ptSet_same h3] at lm
  have q := p.work (o' := ownS g.o W W' w) (ws' := g.ws) (k' := { k with list := r, mine := k.mine ++ [id] }) (s' := .none) (sp' := sp) (x' := none)
    (p.lw.work p.wn lm (by rw [List.length_set]; omega) (by rw [List.length_set]; omega) (by rw [List.length_set]; omega) hu (fun b hb => by subst hb; exact Or.inr hic)) (p.mr.in_ h1 rfl) hz
  exact ⟨rfl, ⟨_, q⟩⟩
theorem PF.bel (p : PF c W z w k s sp pv mvv mv ms x) (hb : Below W.heap.size W W') : PF c W' z w k s sp pv mvv mv ms x := by
  obtain ⟨g, p⟩ := p
  exact ⟨g, p.n1, p.tab, p.wn, p.lw.bel_ hb, p.pi, p.mr, p.zs, p.rest, p.at_⟩
theorem PFB.bel (p : PFB c W z w k s sp pv mvv mv ms x B) (hb : Below W.heap.size W W') : PFB c W' z w k s sp pv mvv mv ms x B := by
  obtain ⟨g, p, hB⟩ := p
  exact ⟨g, ⟨p.n1, p.tab, p.wn, p.lw.bel_ hb, p.pi, p.mr, p.zs, p.rest, p.at_⟩, hB⟩
/-- the steps' row is stored into -/
theorem PF.step (p : PF c W z w k s sp pv mvv mv ms x) (v : Value) : PF c (W.setCell ⟨c.gst, w, none⟩ v) z w k s sp v mvv mv ms x := by
  obtain ⟨g, p⟩ := p
  obtain ⟨h1, h2, h3, h4, h5, h6, h7⟩ := p.at_
  refine ⟨{ g with spm := g.spm.set w v }, p.n1, p.tab, p.wn, p.lw.step v, p.pi, p.mr, p.zs, fun i hi hzi => ?_, h1, h2, h3, ?_, h5, h6, h7⟩
  · obtain ⟨r1, r2, r3⟩ := p.rest i hi hzi
    have hne : w ≠ i := fun e => hi e.symm
    refine ⟨?_, r2, r3⟩
    show (g.spm.set w v)[i]? = _
    rw [List.getElem?_set_ne hne]; exact r1
  · show (g.spm.set w v)[w]? = _
    rw [List.getElem?_set_self (List.getElem?_eq_some_iff.1 h4).1]
theorem PF.mineM (p : PF c W z w k s sp pv mvv mv ms x) (v : Value) : PF c (W.setCell ⟨c.gmn, w, none⟩ v) z w k s sp pv v mv ms x := by
  obtain ⟨g, p⟩ := p
  obtain ⟨h1, h2, h3, h4, h5, h6, h7⟩ := p.at_
  refine ⟨{ g with mvm := g.mvm.set w v }, p.n1, p.tab, p.wn, p.lw.mineM v, p.pi, p.mr, p.zs, fun i hi hzi => ?_, h1, h2, h3, h4, ?_, h6, h7⟩
  · obtain ⟨r1, r2, r3⟩ := p.rest i hi hzi
    have hne : w ≠ i := fun e => hi e.symm
    refine ⟨r1, ?_, r3⟩
    show (g.mvm.set w v)[i]? = _
    rw [List.getElem?_set_ne hne]; exact r2
  · show (g.mvm.set w v)[w]? = _
    rw [List.getElem?_set_self (List.getElem?_eq_some_iff.1 h5).1]
/-- a row of one's own -/
theorem PF.own (p : PF c W z w k s sp pv mvv mv ms x) : Own .i64 3 W c.base mv (iN ms) ∧ c.base ≤ W.heap.size := by
  obtain ⟨g, p⟩ := p
  obtain ⟨h1, h2, h3, h4, h5, h6, h7⟩ := p.at_
  exact ⟨(p.lw.mi.own w mv ms h6 h7).1, p.lw.lm.lt.2.2.2⟩
theorem PF.mine (p : PF c W z w k s sp pv mvv mv ms x) (hu : Upd S W W') (hS : ∀ b, S b → mv.ownBlock = some b) (ow : Own .i64 3 W' c.base v (iN ms')) (hv : ∀ b, v.ownBlock = some b → mv.ownBlock = some b ∨ W.heap.size ≤ b) :
    PF c (W'.setCell ⟨c.gmn, w, none⟩ v) z w k s sp pv v v ms' x := by
  obtain ⟨g, p⟩ := p
  obtain ⟨h1, h2, h3, h4, h5, h6, h7⟩ := p.at_
  have hb := (p.lw.mi.own w mv ms h6 h7).2
  refine ⟨{ g with o := ownS g.o W W' (9 + w), mvm := g.mvm.set w v, mvs := g.mvs.set w v, mss := g.mss.set w ms' }, p.n1, p.tab, p.wn, p.lw.mine hu (fun b hS' => hb b (hS b hS')) ow (fun b hbv => ?_), p.pi, p.mr, p.zs, fun i hi hzi => ?_, h1, h2, h3, h4, ?_, ?_, ?_⟩
  · rcases hv b hbv with e | e
    · exact Or.inl (hb b e)
    · exact Or.inr e
  · obtain ⟨r1, r2, r3⟩ := p.rest i hi hzi
    have hne : w ≠ i := fun e => hi e.symm
    refine ⟨r1, ?_, ?_⟩
    · show (g.mvm.set w v)[i]? = (g.mvs.set w v)[i]?
      rw [List.getElem?_set_ne hne, List.getElem?_set_ne hne]; exact r2
    · show (g.mss.set w ms')[i]? = _
      rw [List.getElem?_set_ne hne]; exact r3
  · show (g.mvm.set w v)[w]? = _
    rw [List.getElem?_set_self (List.getElem?_eq_some_iff.1 h5).1]
  · show (g.mvs.set w v)[w]? = _
    rw [List.getElem?_set_self (List.getElem?_eq_some_iff.1 h6).1]
  · show (g.mss.set w ms')[w]? = _
    rw [List.getElem?_set_self (List.getElem?_eq_some_iff.1 h7).1]
/-- the cells that a walk reads -/
theorem PF.cells (p : PF c W z w k s sp pv mvv mv ms x) : W.cell? ⟨c.gst, w, none⟩ = some pv ∧ W.cell? ⟨c.gmn, w, none⟩ = some mvv ∧ (∃ cb, c.cbs[w]? = some cb ∧ W.cell? ⟨c.gcs, w, none⟩ = some (.pointer (some ⟨cb, 0, none⟩))) ∧ c.gst < W.heap.size ∧ c.gmn < W.heap.size ∧ c.gcs < W.heap.size ∧ W.frozen? ⟨c.gst, w, none⟩ = false ∧ W.frozen? ⟨c.gmn, w, none⟩ = false := by
  obtain ⟨g, p⟩ := p
  obtain ⟨h1, h2, h3, h4, h5, h6, h7⟩ := p.at_
  have hl := p.lw.l
  have hw := p.wn
  obtain ⟨cb, hcb⟩ : ∃ cb, c.cbs[w]? = some cb := ⟨_, List.getElem?_eq_getElem (by omega)⟩
  exact ⟨p.lw.cs h4, p.lw.cm h5, ⟨cb, hcb, p.lw.cc hcb⟩, p.lw.bs.lt, p.lw.bm.lt, p.lw.bc.lt, p.lw.bs.frozen w, p.lw.bm.frozen w⟩
/-- a place is read, and changed -/
theorem PF.place (p : PF c W z w k s sp pv mvv mv ms x) (hi : id < c.n) {b : Bool} (hb : ∀ g, PG c W g z w k s sp pv mvv mv ms x → g.made id = b) (hx : x = none ∨ x = some (id, b)) : ∃ gen : Int, (0 ≤ gen ∧ gen ≤ 65535) ∧
    Calls Tryz.prog 8 #[.pointer (some ⟨c.px, 0, none⟩), .int .i64 (id : Int)] W (fun e W' => e = .returned (.agg #[.int .i64 (if b = true then 1 else 0), .int .i64 gen, .int .i64 0, .int .i64 0]) ∧ Below W.heap.size W W') ∧
    ∀ W1, Below W.heap.size W W1 → Calls Tryz.prog 9 #[.pointer (some ⟨c.px, 0, none⟩), .int .i64 (id : Int), .agg #[.int .i64 (if b = true then 1 else 0), .int .i64 gen, .int .i64 0, .int .i64 0], .agg #[.int .i64 (if b = true then 0 else 1), .int .i64 (if b = true then gen else (gen + 1) % 65536), .int .i64 0, .int .i64 0]] W1
      (fun e W' => e = .returned (.bool true) ∧ PF c W' z w k s sp pv mvv mv ms (if x = none then some (id, !b) else none) ∧ (∀ bb oo, W.heap.size ≤ bb → bb < W1.heap.size → W'.cell? ⟨bb, oo, none⟩ = W1.cell? ⟨bb, oo, none⟩)) := by
  obtain ⟨g, p⟩ := p
  have n1 := p.n1
  have hbg := hb g p
  obtain ⟨gen, hg, hw, kl⟩ := plLoad_any id c.px c.pg c.ph c.n g.L g.made W p.lw.pl (by omega) p.pi hi
  rw [hbg] at hw kl
  refine ⟨gen, hg, kl, fun W1 bel => ?_⟩
  have lw1 := p.lw.bel_ bel
  have hph : c.ph < W.heap.size := p.lw.pl.cel.row.lt
  have hcc : ∀ W', Upd (· = c.ph) W1 W' → ∀ bb oo, W.heap.size ≤ bb → bb < W1.heap.size → W'.cell? ⟨bb, oo, none⟩ = W1.cell? ⟨bb, oo, none⟩ := fun W' hu bb oo h1 h2 => by
    have hb := hu.block bb h2 (fun e => by subst e; omega)
    simp only [World.cell?, hb]
  cases b with
  | true =>
    rw [if_pos rfl] at hw
    refine (plFree_any id c.px c.pg c.ph c.n g.L g.made W1 gen lw1.pl (by omega) p.pi hi hbg hg hw).mono ?_
    rintro e W' ⟨rfl, L', pl, pi, hu⟩
    exact ⟨rfl, ⟨{ g with L := L', made := fun j => if j = id then false else g.made j }, n1, p.tab, p.wn, lw1.place hu pl, pi, p.mr.cas (b := false) hi hx hbg, p.zs, p.rest, p.at_⟩, hcc W' hu⟩
  | false =>
    rw [if_neg (by simp)] at hw
    refine (plMake_any id c.px c.pg c.ph c.n g.L g.made W1 gen lw1.pl (by omega) p.pi hi hbg hg hw).mono ?_
    rintro e W' ⟨rfl, L', pl, pi, hu⟩
    exact ⟨rfl, ⟨{ g with L := L', made := fun j => if j = id then true else g.made j }, n1, p.tab, p.wn, lw1.place hu pl, pi, p.mr.cas (b := true) hi hx hbg, p.zs, p.rest, p.at_⟩, hcc W' hu⟩
/-- which places are made -/
theorem PG.mine_made (p : PG c W g z w k s sp pv mvv mv ms none) (hm : id ∈ k.mine) : g.made id = true ∧ id < c.n := by
  have hk := List.mem_of_getElem? p.at_.1
  have hn := p.lw.lm.inv.lt hk (x := id) (by unfold Wk.all; simp [hm])
  exact ⟨(p.mr.1 id hn (fun b e => by cases e)).1 (List.mem_flatMap.2 ⟨k, hk, hm⟩), hn⟩
theorem PG.list_free (p : PG c W g z w k s sp pv mvv mv ms none) (hm : id ∈ k.list) : g.made id = false ∧ id < c.n := by
  have hk := List.mem_of_getElem? p.at_.1
  have inv := p.lw.lm.inv
  have hn := inv.lt hk (x := id) (by unfold Wk.all; simp [hm])
  refine ⟨?_, hn⟩
  have hno : id ∉ g.ks.flatMap Wk.mine := fun hin => by
    have hnd := (List.nodup_append.1 inv.nodup).2.1
    have h4 := (ptFlat_app (fun k : Wk => k.list ++ leaf k.parts) Wk.mine g.ks).nodup_iff.1 hnd
    have h5 : id ∈ g.ks.flatMap (fun k : Wk => k.list ++ leaf k.parts) := List.mem_flatMap.2 ⟨k, hk, by simp [hm]⟩
    exact (List.nodup_append.1 h4).2.2 id h5 id hin rfl
  rw [p.mr.1 id hn (fun b e => by cases e)] at hno
  simpa using hno
end
end Go.Proofs.YtilhkhnjloplfaaGreatDoor
namespace Go.Proofs.YtilhkhnjloplfaaGreatDoor
set_option linter.unusedVariables false
set_option linter.unusedSimpArgs false
open Go.RowKit
/-- the first z workers are done; of the others all stands as it is thought -/
structure PZ (c : Cx) (W : World) (g : Gh) (z : Nat) : Prop where
  n1 : 1 ≤ c.n ∧ c.n ≤ 60
  tab : Tab c.w0 ∧ 0 < c.w0.heap.size
  lw : LWg c W g
  pi : PlI c.n g.L g.made
  mr : MR c.n g.made none g.ks
  zs : ∀ i, i < z → i < c.nk → g.ks[i]? = some Wk.z
  rest : ∀ i, z ≤ i → g.spm[i]? = g.sps[i]? ∧ g.mvm[i]? = g.mvs[i]? ∧ g.mss[i]? = (g.ks.map Wk.mine)[i]?
def PRz (c : Cx) (W : World) (z : Nat) : Prop := ∃ g, PZ c W g z
section
variable {c : Cx} {W W' : World} {g : Gh} {z w id : Nat} {k : Wk} {s : St} {sp pv mvv mv v : Value} {ms ms' r : List Nat} {x : Option (Nat × Bool)}
theorem PRz.at_ (p : PRz c W z) (hz : z ≤ w) (hw : w < c.nk) : ∃ k s sp mv, PF c W z w k s sp sp mv mv k.mine none := by
  obtain ⟨g, p⟩ := p
  have hl := p.lw.l
  obtain ⟨k, h1⟩ : ∃ k, g.ks[w]? = some k := ⟨_, List.getElem?_eq_getElem (by omega)⟩
  obtain ⟨s, h2⟩ : ∃ k, g.ss[w]? = some k := ⟨_, List.getElem?_eq_getElem (by omega)⟩
  obtain ⟨sp, h3⟩ : ∃ k, g.sps[w]? = some k := ⟨_, List.getElem?_eq_getElem (by omega)⟩
  obtain ⟨mv, h4⟩ : ∃ k, g.mvs[w]? = some k := ⟨_, List.getElem?_eq_getElem (by omega)⟩
  obtain ⟨r1, r2, r3⟩ := p.rest w hz
  exact ⟨k, s, sp, mv, g, p.n1, p.tab, hw, p.lw, p.pi, p.mr, p.zs, fun i _ hi => p.rest i hi, h1, h2, h3, r1.trans h3, r2.trans h4, h4, by rw [r3, List.getElem?_map, h1]; rfl⟩
theorem PF.back (p : PF c W z w k s sp sp mv mv k.mine none) : PRz c W z := by
  obtain ⟨g, p⟩ := p
  obtain ⟨h1, h2, h3, h4, h5, h6, h7⟩ := p.at_
  refine ⟨g, p.n1, p.tab, p.lw, p.pi, p.mr, p.zs, fun i hi => ?_⟩
  by_cases hiw : i = w
  · subst hiw
    exact ⟨h4.trans h3.symm, h5.trans h6.symm, by rw [h7, List.getElem?_map, h1]; rfl⟩
  · exact p.rest i hiw hi
theorem PF.next (p : PF c W w w k s sp pv mvv mv ms none) (hk : k = Wk.z) : PRz c W (w + 1) := by
  obtain ⟨g, p⟩ := p
  obtain ⟨h1, h2, h3, h4, h5, h6, h7⟩ := p.at_
  subst hk
  refine ⟨g, p.n1, p.tab, p.lw, p.pi, p.mr, fun i hi hin => ?_, fun i hi => p.rest i (by omega) (by omega)⟩
  by_cases hiw : i = w
  · subst hiw; exact h1
  · exact p.zs i (by omega) hin
theorem PF.kz (p : PF c W z w k .none sp pv mvv mv ms x) (h1 : k.list = []) (h2 : k.mine = []) : k = Wk.z := by
  obtain ⟨g, p⟩ := p
  have hl := p.lw.l
  have hw := p.wn
  obtain ⟨cb, hcb⟩ : ∃ cb, c.cbs[w]? = some cb := ⟨_, List.getElem?_eq_getElem (by omega)⟩
  have h3 := (p.none_ hcb).2.1
  cases k
  simp only at h1 h2 h3
  subst h1; subst h2; subst h3; rfl
/-- whether a step goes on stands in its row -/
theorem PF.nil_iff (p : PF c W z w k s sp pv mvv mv ms x) : (s = .none → sp = .pointer none) ∧ (s ≠ .none → ∃ b, sp = .pointer (some ⟨b, 0, none⟩)) := by
  obtain ⟨g, p⟩ := p
  have hl := p.lw.l
  have hw := p.wn
  obtain ⟨cb, hcb⟩ : ∃ cb, c.cbs[w]? = some cb := ⟨_, List.getElem?_eq_getElem (by omega)⟩
  obtain ⟨⟨ov, cm, h⟩, ok⟩ := p.wm hcb
  refine ⟨fun e => by subst e; exact h.1, fun hs => ?_⟩
  cases s with
  | none => exact absurd rfl hs
  | still => exact ⟨_, h.2.choose_spec.1⟩
  | fill word left rd seen => obtain ⟨_, sb, pb, h1, _⟩ := h; exact ⟨_, h1⟩
  | back rd seen => obtain ⟨sb, pb, _, h1, _⟩ := h; exact ⟨_, h1⟩
theorem PF.mine_len (p : PF c W z w k s sp pv mvv mv ms x) : (iN k.mine).length ≤ 60 := by
  obtain ⟨g, p⟩ := p
  have h1 := p.lw.lm.inv.all_len (List.mem_of_getElem? p.at_.1)
  have n1 := p.n1
  unfold Wk.all at h1
  rw [List.length_append] at h1
  rw [iN_len]; omega
theorem PF.keepM (p : PF c W z w k s sp pv mvv mv ms x) {S : Nat → Prop} (hu : Upd S W W') (hS : ∀ b, S b → mv.ownBlock = some b) : W'.cell? ⟨c.gmn, w, none⟩ = some mvv ∧ W'.frozen? ⟨c.gmn, w, none⟩ = false := by
  obtain ⟨g, p⟩ := p
  obtain ⟨h1, h2, h3, h4, h5, h6, h7⟩ := p.at_
  obtain ⟨b1, b2, f⟩ := p.lw.fx
  have hb := p.lw.bm.upd hu (fun e => by
    have h8 := (p.lw.mi.own w mv ms h6 h7).2 _ (hS _ e)
    have := p.lw.ob (b := c.gmn) (by omega)
    omega)
  refine ⟨?_, hb.frozen w⟩
  rw [hb.cell w]; simpa using h5
/-- what a worker has made, as it stands in its row -/
def HdM (mv mvv : Value) (ms l : List Nat) (m : Nat) : Prop := ∃ (j : Nat) (A' : Option Addr) (c' : Nat), mvv = .slice A' m c' ∧ m ≤ c' ∧ c' ≤ maxLen ∧ l = ms.drop j ∧ l.length = m ∧ (0 < m → ∃ g cc, mv = .slice (some ⟨g, 0, none⟩) ms.length cc ∧ A' = some ⟨g, j, none⟩)
theorem PF.hdm0 (p : PF c W z w k s sp pv mv mv ms x) : HdM mv mv ms ms ms.length := by
  have own := p.own.1
  obtain ⟨A, cc, e, h1, h2, _⟩ := own.form (iN_len ms)
  refine ⟨0, A, cc, e, h1, h2, rfl, rfl, fun h0 => ?_⟩
  obtain ⟨g, c2, e2, _⟩ := own.formG (iN_len ms) h0
  refine ⟨g, c2, e2, ?_⟩
  rw [e] at e2
  simp only [Value.slice.injEq] at e2
  exact e2.1
theorem PF.hd (p : PF c W z w k s sp pv mvv mv ms x) {j gg cc : Nat} (h : ms.drop j = id :: r) (hmv : mv = .slice (some ⟨gg, 0, none⟩) ms.length cc) : W.cell? ⟨gg, j, none⟩ = some (.int .i64 (id : Int)) ∧ gg < W.heap.size := by
  have own := p.own.1
  rw [hmv] at own
  refine ⟨?_, (own.lt gg rfl).2⟩
  have hj : j < ms.length := by
    have := congrArg List.length h
    rw [List.length_drop, List.length_cons] at this
    omega
  have h1 := (own.at_ (iN_len ms) hj).1
  have h2 : ms[j]? = some id := by
    have := congrArg (fun l => l[0]?) h
    simpa using this
  rw [h1]
  unfold iN
  rw [List.getD_eq_getElem?_getD, List.getElem?_map, h2]; rfl
theorem PF.top0 (p : PF c W z w k .none sp pv mvv mv ms x) {cb : Nat} (hc : c.cbs[w]? = some cb) (hk : k.list = []) :
    Calls Tryz.prog 11 #[.pointer (some ⟨cb, 0, none⟩)] W fun e W' => e = .returned (.tuple #[.int .i64 0, .bool false]) ∧ Below W.heap.size W W' := by
  obtain ⟨g, p⟩ := p
  obtain ⟨_, _, ov, _, cm⟩ := p.none_ hc
  rw [hk] at cm
  exact cTop_none _ W c.base c.gp cb ov cm
theorem PF.top1 (p : PF c W z w k .none sp pv mvv mv ms x) {cb : Nat} (hc : c.cbs[w]? = some cb) (hk : k.list = r ++ [id]) :
    Calls Tryz.prog 11 #[.pointer (some ⟨cb, 0, none⟩)] W fun e W' => e = .returned (.tuple #[.int .i64 (id : Int), .bool true]) ∧ Below W.heap.size W W' := by
  obtain ⟨g, p⟩ := p
  obtain ⟨_, _, ov, _, cm⟩ := p.none_ hc
  rw [hk] at cm
  exact cTop_some _ W c.base c.gp cb ov r id cm
theorem PF.free_ (p : PF c W z w k .none sp pv mvv mv ms none) (hm : id ∈ k.mine) : ∃ gen : Int, (0 ≤ gen ∧ gen ≤ 65535) ∧
    Calls Tryz.prog 8 #[.pointer (some ⟨c.px, 0, none⟩), .int .i64 (id : Int)] W (fun e W' => e = .returned (.agg #[.int .i64 1, .int .i64 gen, .int .i64 0, .int .i64 0]) ∧ Below W.heap.size W W') ∧
    ∀ W1, Below W.heap.size W W1 → Calls Tryz.prog 9 #[.pointer (some ⟨c.px, 0, none⟩), .int .i64 (id : Int), .agg #[.int .i64 1, .int .i64 gen, .int .i64 0, .int .i64 0], .agg #[.int .i64 0, .int .i64 gen, .int .i64 0, .int .i64 0]] W1
      (fun e W' => e = .returned (.bool true) ∧ PF c W' z w k .none sp pv mvv mv ms (some (id, false)) ∧ (∀ bb oo, W.heap.size ≤ bb → bb < W1.heap.size → W'.cell? ⟨bb, oo, none⟩ = W1.cell? ⟨bb, oo, none⟩)) :=
  p.place (b := true) (by obtain ⟨g, p⟩ := p; exact (p.mine_made hm).2) (fun g p => (p.mine_made hm).1) (Or.inl rfl)
theorem PF.made_ (p : PF c W z w k s sp pv mvv mv ms none) (hm : id ∈ k.list) : ∃ gen : Int, (0 ≤ gen ∧ gen ≤ 65535) ∧
    Calls Tryz.prog 8 #[.pointer (some ⟨c.px, 0, none⟩), .int .i64 (id : Int)] W (fun e W' => e = .returned (.agg #[.int .i64 0, .int .i64 gen, .int .i64 0, .int .i64 0]) ∧ Below W.heap.size W W') ∧
    ∀ W1, Below W.heap.size W W1 → Calls Tryz.prog 9 #[.pointer (some ⟨c.px, 0, none⟩), .int .i64 (id : Int), .agg #[.int .i64 0, .int .i64 gen, .int .i64 0, .int .i64 0], .agg #[.int .i64 1, .int .i64 ((gen + 1) % 65536), .int .i64 0, .int .i64 0]] W1
      (fun e W' => e = .returned (.bool true) ∧ PF c W' z w k s sp pv mvv mv ms (some (id, true)) ∧ (∀ bb oo, W.heap.size ≤ bb → bb < W1.heap.size → W'.cell? ⟨bb, oo, none⟩ = W1.cell? ⟨bb, oo, none⟩)) :=
  p.place (b := false) (by obtain ⟨g, p⟩ := p; exact (p.list_free hm).2) (fun g p => (p.list_free hm).1) (Or.inl rfl)
theorem PF.undo_ (p : PF c W z w k s sp pv mvv mv ms (some (id, true))) (hi : id < c.n) : ∃ gen : Int, (0 ≤ gen ∧ gen ≤ 65535) ∧
    Calls Tryz.prog 8 #[.pointer (some ⟨c.px, 0, none⟩), .int .i64 (id : Int)] W (fun e W' => e = .returned (.agg #[.int .i64 1, .int .i64 gen, .int .i64 0, .int .i64 0]) ∧ Below W.heap.size W W') ∧
    ∀ W1, Below W.heap.size W W1 → Calls Tryz.prog 9 #[.pointer (some ⟨c.px, 0, none⟩), .int .i64 (id : Int), .agg #[.int .i64 1, .int .i64 gen, .int .i64 0, .int .i64 0], .agg #[.int .i64 0, .int .i64 gen, .int .i64 0, .int .i64 0]] W1
      (fun e W' => e = .returned (.bool true) ∧ PF c W' z w k s sp pv mvv mv ms none ∧ (∀ bb oo, W.heap.size ≤ bb → bb < W1.heap.size → W'.cell? ⟨bb, oo, none⟩ = W1.cell? ⟨bb, oo, none⟩)) :=
  p.place (b := true) hi (fun g p => (p.mr.2 id true rfl).1) (Or.inr rfl)
theorem PRz.bel (p : PRz c W z) (hb : Below W.heap.size W W') : PRz c W' z := by
  obtain ⟨g, p⟩ := p
  exact ⟨g, p.n1, p.tab, p.lw.bel_ hb, p.pi, p.mr, p.zs, p.rest⟩
theorem PRz.below (p : PRz c W z) : Below c.w0.heap.size c.w0 W := by
  obtain ⟨g, p⟩ := p
  exact p.lw.bel
/-- each port is at one place -/
theorem PRz.once (p : PRz c W z) : Calls Tryz.prog 14 #[.pointer (some ⟨c.gp, 0, none⟩), .slice (some ⟨c.gcs, 0, none⟩) c.nk c.nk, .pointer (some ⟨c.px, 0, none⟩)] W fun e W' => e = .returned (.bool true) ∧ PRz c W' z := by
  obtain ⟨g, p⟩ := p
  have hl := p.lw.l
  refine (once_any W c.base c.gp c.gc c.h c.n c.nk c.gcs c.px c.pg c.ph g.L g.ws g.ks c.cbs p.lw.lm.pm p.lw.lm.inv p.n1.2 ⟨fun i k cb e1 e2 => ?_⟩ (by omega) (by omega) (fun i cb e => p.lw.cc e) p.lw.bc.lt (by omega) p.lw.pl g.made p.pi (fun i hi => (p.mr.1 i hi (fun b e => by cases e)).symm)).mono ?_
  · have hi := (List.getElem?_eq_some_iff.1 e2).1
    obtain ⟨s, h2⟩ : ∃ k, g.ss[i]? = some k := ⟨_, List.getElem?_eq_getElem (by omega)⟩
    obtain ⟨sp, h3⟩ : ∃ k, g.sps[i]? = some k := ⟨_, List.getElem?_eq_getElem (by omega)⟩
    exact ⟨_, s, sp, p.lw.lm.wm i k s cb sp e1 h2 e2 h3⟩
  · rintro e W' ⟨rfl, hb⟩
    exact ⟨rfl, g, p.n1, p.tab, p.lw.bel_ hb, p.pi, p.mr, p.zs, p.rest⟩
theorem flat_z : ∀ {ks : List Wk}, (∀ (i : Nat) k, ks[i]? = some k → k = Wk.z) → ks.flatMap Wk.all = [] ∧ ks.flatMap Wk.mine = []
  | [], _ => ⟨rfl, rfl⟩
  | k :: ks, h => by
    have h0 := h 0 k rfl
    subst h0
    exact flat_z (ks := ks) (fun i k hk => h (i + 1) k (by simpa using hk))
/-- all is done: all are free -/
theorem PRz.free (p : PRz c W c.nk) : Calls Tryz.prog 17 #[.pointer (some ⟨c.gp, 0, none⟩)] W (fun e W' => ∃ A cp, e = .returned (.slice A c.n cp) ∧ Below W.heap.size W W') ∧
    ∀ W1, Below W.heap.size W W1 → Calls Tryz.prog 18 #[.pointer (some ⟨c.px, 0, none⟩), .int .i64 0] W1 fun e W' => e = .returned (.int .i64 (c.n : Int)) ∧ Below W1.heap.size W1 W' := by
  obtain ⟨g, p⟩ := p
  have hl := p.lw.l
  have n1 := p.n1
  obtain ⟨f1, f2⟩ := flat_z (ks := g.ks) (fun i k hk => by
    have hi := (List.getElem?_eq_some_iff.1 hk).1
    have := p.zs i (by omega) (by omega)
    rw [hk] at this
    exact Option.some.inj this)
  constructor
  · refine (pFree_any W c.gp c.gc c.h c.n g.ws p.lw.lm.pm (by have := p.lw.lm.inv.len; omega)).mono ?_
    rintro e W' ⟨v, rfl, own, hb⟩
    have h1 := p.lw.lm.inv.perm.length_eq
    rw [f1, List.append_nil, List.length_range] at h1
    obtain ⟨A, cp, rfl, _⟩ := own.form (n := c.n) (by rw [iN_len]; exact h1)
    exact ⟨A, cp, rfl, hb⟩
  · intro W1 bel
    refine (PlCount_any 0 c.px c.pg c.ph c.n g.L W1 (p.lw.pl.bel bel) (by omega)).mono ?_
    rintro e W' ⟨rfl, hb⟩
    rw [p.pi.count (fun i hi => ?_) c.n (Nat.le_refl _)]
    · exact ⟨rfl, hb⟩
    · have h1 := p.mr.1 i hi (fun b e => by cases e)
      rw [f2] at h1
      simpa using h1
end
/-- the caches are made, one by one -/
structure LS (w0 W : World) (o : Nat → Nat) (base gp gc h n nk px pg ph gcs gst gmn i : Nat) (cs : List Nat) : Prop where
  n1 : 1 ≤ n ∧ n ≤ 60
  tab : Tab w0 ∧ 0 < w0.heap.size
  k4 : nk ≤ 4
  il : cs.length = i ∧ i ≤ nk
  lm : LM W o base gp gc h n (iniW n) (List.replicate i Wk.z) (List.replicate i .none) cs (List.replicate i (.pointer none))
  pl : Pl W px pg ph n (List.replicate (2 * n) 0)
  bc : Blk W gcs 35 (ptrL cs ++ List.replicate (nk - i) (Value.pointer none)).toArray
  bs : Blk W gst 38 (List.replicate nk (.pointer none)).toArray
  bm : Blk W gmn 23 (List.replicate nk (.slice none 0 0)).toArray
  fx : FxB w0.heap.size gp gc h px pg ph gcs gst gmn base
  bel : Below w0.heap.size w0 W
section
variable {w0 W W' : World} {o : Nat → Nat} {base gp gc h n nk px pg ph gcs gst gmn i cb : Nat} {cs : List Nat}
theorem LS.more (ls : LS w0 W o base gp gc h n nk px pg ph gcs gst gmn i cs) (hi : i < nk) (hb : Below W.heap.size W W') (wm : WM (fun b => W.heap.size ≤ b) W' base gp (iniW n).length Wk.z .none cb (.pointer none)) :
    LS w0 (W'.setCell ⟨gcs, i, none⟩ (.pointer (some ⟨cb, 0, none⟩))) (ownS o W W' i) base gp gc h n nk px pg ph gcs gst gmn (i + 1) (cs ++ [cb]) := by
  obtain ⟨b1, b2, f⟩ := ls.fx
  have hu := Upd.one W' gcs i (.pointer (some ⟨cb, 0, none⟩))
  have lm := ls.lm.more (by simp) (by simp) ls.il.1 (by simp) hb wm
  rw [← List.replicate_succ', ← List.replicate_succ', ← List.replicate_succ'] at lm
  have h0 : ownS o W W' i gcs = 0 := Decidable.byContradiction fun e => by have := (lm.far gcs e).2.2.2.2; omega
  refine ⟨ls.n1, ls.tab, ls.k4, ⟨by rw [List.length_append, ls.il.1]; rfl, hi⟩, lm.upd (by simp; have := ls.k4; omega) hu (fun b e => by subst e; omega), (ls.pl.bel hb).upd hu (by omega) (by omega) (by omega), ?_, (ls.bs.bel hb).upd hu (by omega), (ls.bm.bel hb).upd hu (by omega), ls.fx, bel_after ls.bel hb |>.trans (hu.below (by have := bel_after ls.bel hb; exact this.size) fun b hb hSb => by omega)⟩
  have h1 := (ls.bc.bel hb).set_ i (.pointer (some ⟨cb, 0, none⟩))
  rw [List.setIfInBounds_toArray] at h1
  have hl : (ptrL cs).length = i := by unfold ptrL; rw [List.length_map]; exact ls.il.1
  have h2 : (ptrL cs ++ List.replicate (nk - i) (Value.pointer none)).set i (.pointer (some ⟨cb, 0, none⟩)) = ptrL (cs ++ [cb]) ++ List.replicate (nk - (i + 1)) (Value.pointer none) := by
    rw [List.set_append_right _ _ (by omega), hl, Nat.sub_self, show nk - i = nk - (i + 1) + 1 by omega, List.replicate_succ, List.set_cons_zero]
    unfold ptrL
    rw [List.map_append, List.append_assoc]; rfl
  rw [h2] at h1
  exact h1
theorem LS.done (ls : LS w0 W o base gp gc h n nk px pg ph gcs gst gmn nk cs) : PRz ⟨w0, base, gp, gc, h, n, nk, px, pg, ph, gcs, gst, gmn, cs⟩ W 0 := by
  refine ⟨⟨o, iniW n, List.replicate nk Wk.z, List.replicate nk .none, List.replicate nk (.pointer none), List.replicate (2 * n) 0, List.replicate nk (.pointer none), List.replicate nk (.slice none 0 0), List.replicate nk (.slice none 0 0), List.replicate nk [], fun _ => false⟩, ls.n1, ls.tab, ⟨ls.lm, ?_, ls.pl, ?_, ls.bs, ls.bm, ⟨fun i v ms h1 h2 => ?_⟩, ls.fx, ls.bel⟩, plI_new n, ⟨fun i hi _ => ?_, fun i b e => by cases e⟩, fun i hi => by omega, fun i _ => ⟨rfl, rfl, ?_⟩⟩
  · have := ls.k4; have := ls.il.1; simp; omega
  · have := ls.bc
    rwa [Nat.sub_self, List.replicate_zero, List.append_nil] at this
  · have h3 := List.mem_of_getElem? h1
    have h4 := List.mem_of_getElem? h2
    rw [List.mem_replicate] at h3 h4
    rw [h3.2, h4.2]
    exact ⟨Own.nil _ _ _ _, fun g e => by simp [Value.ownBlock] at e⟩
  · have : (List.replicate nk Wk.z).flatMap Wk.mine = [] := (flat_z (fun i k hk => (List.mem_replicate.1 (List.mem_of_getElem? hk)).2)).2
    show i ∈ (List.replicate nk Wk.z).flatMap Wk.mine ↔ false = true
    rw [this]; simp
  · show _ = ((List.replicate nk Wk.z).map Wk.mine)[i]?
    rw [List.map_replicate]; rfl
end
end Go.Proofs.YtilhkhnjloplfaaGreatDoor
namespace Go.Proofs.YtilhkhnjloplfaaGreatDoor
set_option linter.unusedVariables false
set_option linter.unusedSimpArgs false
open Go.RowKit
/-- a frame of so many slots, by a function -/
def frm (v : Nat → Value) : List Value := (List.range 341).map v
set_option maxRecDepth 100000 in
theorem frm_lit (v : Nat → Value) : frm v = v 0 :: v 1 :: v 2 :: v 3 :: v 4 :: v 5 :: v 6 :: v 7 :: v 8 :: v 9 :: v 10 :: v 11 :: v 12 :: v 13 :: v 14 :: v 15 :: v 16 :: v 17 :: v 18 :: v 19 :: v 20 :: v 21 :: v 22 :: v 23 :: v 24 :: v 25 :: v 26 :: v 27 :: v 28 :: v 29 :: v 30 :: v 31 :: v 32 :: v 33 :: v 34 :: v 35 :: v 36 :: v 37 :: v 38 :: v 39 :: v 40 :: v 41 :: v 42 :: v 43 :: v 44 :: v 45 :: v 46 :: v 47 :: v 48 :: v 49 :: v 50 :: v 51 :: v 52 :: v 53 :: v 54 :: v 55 :: v 56 :: v 57 :: v 58 :: v 59 :: v 60 :: v 61 :: v 62 :: v 63 :: v 64 :: v 65 :: v 66 :: v 67 :: v 68 :: v 69 :: v 70 :: v 71 :: v 72 :: v 73 :: v 74 :: v 75 :: v 76 :: v 77 :: v 78 :: v 79 :: v 80 :: v 81 :: v 82 :: v 83 :: v 84 :: v 85 :: v 86 :: v 87 :: v 88 :: v 89 :: v 90 :: v 91 :: v 92 :: v 93 :: v 94 :: v 95 :: v 96 :: v 97 :: v 98 :: v 99 :: v 100 :: v 101 :: v 102 :: v 103 :: v 104 :: v 105 :: v 106 :: v 107 :: v 108 :: v 109 :: v 110 :: v 111 :: v 112 :: v 113 :: v 114 :: v 115 :: v 116 :: v 117 :: v 118 :: v 119 :: v 120 :: v 121 :: v 122 :: v 123 :: v 124 :: v 125 :: v 126 :: v 127 :: v 128 :: v 129 :: v 130 :: v 131 :: v 132 :: v 133 :: v 134 :: v 135 :: v 136 :: v 137 :: v 138 :: v 139 :: v 140 :: v 141 :: v 142 :: v 143 :: v 144 :: v 145 :: v 146 :: v 147 :: v 148 :: v 149 :: v 150 :: v 151 :: v 152 :: v 153 :: v 154 :: v 155 :: v 156 :: v 157 :: v 158 :: v 159 :: v 160 :: v 161 :: v 162 :: v 163 :: v 164 :: v 165 :: v 166 :: v 167 :: v 168 :: v 169 :: v 170 :: v 171 :: v 172 :: v 173 :: v 174 :: v 175 :: v 176 :: v 177 :: v 178 :: v 179 :: v 180 :: v 181 :: v 182 :: v 183 :: v 184 :: v 185 :: v 186 :: v 187 :: v 188 :: v 189 :: v 190 :: v 191 :: v 192 :: v 193 :: v 194 :: v 195 :: v 196 :: v 197 :: v 198 :: v 199 :: v 200 :: v 201 :: v 202 :: v 203 :: v 204 :: v 205 :: v 206 :: v 207 :: v 208 :: v 209 :: v 210 :: v 211 :: v 212 :: v 213 :: v 214 :: v 215 :: v 216 :: v 217 :: v 218 :: v 219 :: v 220 :: v 221 :: v 222 :: v 223 :: v 224 :: v 225 :: v 226 :: v 227 :: v 228 :: v 229 :: v 230 :: v 231 :: v 232 :: v 233 :: v 234 :: v 235 :: v 236 :: v 237 :: v 238 :: v 239 :: v 240 :: v 241 :: v 242 :: v 243 :: v 244 :: v 245 :: v 246 :: v 247 :: v 248 :: v 249 :: v 250 :: v 251 :: v 252 :: v 253 :: v 254 :: v 255 :: v 256 :: v 257 :: v 258 :: v 259 :: v 260 :: v 261 :: v 262 :: v 263 :: v 264 :: v 265 :: v 266 :: v 267 :: v 268 :: v 269 :: v 270 :: v 271 :: v 272 :: v 273 :: v 274 :: v 275 :: v 276 :: v 277 :: v 278 :: v 279 :: v 280 :: v 281 :: v 282 :: v 283 :: v 284 :: v 285 :: v 286 :: v 287 :: v 288 :: v 289 :: v 290 :: v 291 :: v 292 :: v 293 :: v 294 :: v 295 :: v 296 :: v 297 :: v 298 :: v 299 :: v 300 :: v 301 :: v 302 :: v 303 :: v 304 :: v 305 :: v 306 :: v 307 :: v 308 :: v 309 :: v 310 :: v 311 :: v 312 :: v 313 :: v 314 :: v 315 :: v 316 :: v 317 :: v 318 :: v 319 :: v 320 :: v 321 :: v 322 :: v 323 :: v 324 :: v 325 :: v 326 :: v 327 :: v 328 :: v 329 :: v 330 :: v 331 :: v 332 :: v 333 :: v 334 :: v 335 :: v 336 :: v 337 :: v 338 :: v 339 :: v 340 :: [] := by kernel_rfl
theorem frm_self {l : List Value} (h : l.length = 341) : l = frm (fun i => l.getD i undef) := by
  apply List.ext_getElem
  · simp [frm, h]
  · intro i h1 h2
    simp [frm, List.getD_eq_getElem?_getD, List.getElem?_eq_getElem h1]
theorem frm_meet {l : List Value} {d : List Deferred} {R : (Nat → Value) → Prop} (h : l.length = 341) (hR : R (fun i => l.getD i undef)) : ∃ v, (⟨l.toArray, d⟩ : Act) = ⟨(frm v).toArray, d⟩ ∧ R v := ⟨_, by rw [← frm_self h], hR⟩
structure PCm (A : Option Addr) (m cap n nk gp px gcs gst gmn : Nat) (v : Nat → Value) : Prop where
  v1 : v 1 = .slice A m cap
  v5 : v 5 = .int .i64 n
  v6 : v 6 = .int .i64 nk
  v7 : v 7 = .pointer (some ⟨gp, 0, none⟩)
  v9 : v 9 = .pointer (some ⟨px, 0, none⟩)
  v11 : v 11 = .slice (some ⟨gcs, 0, none⟩) nk nk
  v12 : v 12 = .slice (some ⟨gst, 0, none⟩) nk nk
  v13 : v 13 = .slice (some ⟨gmn, 0, none⟩) nk nk
/-- what is read while the first place's port is put -/
structure ClP (c : Cx) (cb w g3 j m3 c3 id : Nat) (w' : World) : Prop where
  a : w'.cell? ⟨c.gcs, w, none⟩ = some (.pointer (some ⟨cb, 0, none⟩))
  b : w'.cell? ⟨c.gmn, w, none⟩ = some (.slice (some ⟨g3, j, none⟩) m3 c3)
  d : w'.cell? ⟨g3, j, none⟩ = some (.int .i64 (id : Int))
/-- .. and while its place is made free -/
structure ClQ (c : Cx) (w g3 j m3 c3 id b1 b2 : Nat) (gen : Int) (w' : World) : Prop where
  b : w'.cell? ⟨c.gmn, w, none⟩ = some (.slice (some ⟨g3, j, none⟩) m3 c3)
  d : w'.cell? ⟨g3, j, none⟩ = some (.int .i64 (id : Int))
  e0 : w'.cell? ⟨b1, 0, none⟩ = some (.int .i64 1)
  e1 : w'.cell? ⟨b1, 1, none⟩ = some (.int .i64 gen)
  e2 : w'.cell? ⟨b1, 2, none⟩ = some (.int .i64 0)
  e3 : w'.cell? ⟨b1, 3, none⟩ = some (.int .i64 0)
  f0 : w'.cell? ⟨b2, 0, none⟩ = some (.int .i64 0)
  f1 : w'.cell? ⟨b2, 1, none⟩ = some (.int .i64 gen)
  f2 : w'.cell? ⟨b2, 2, none⟩ = some (.int .i64 0)
  f3 : w'.cell? ⟨b2, 3, none⟩ = some (.int .i64 0)
theorem info_pcache : (Tryz.prog.info? 35).map (fun i => (i.zero, i.size, i.bytes)) = some (some (.pointer none), 1, 8) := by kernel_rfl
theorem info_pcstep : (Tryz.prog.info? 38).map (fun i => (i.zero, i.size, i.bytes)) = some (some (.pointer none), 1, 8) := by kernel_rfl
theorem info_ints : (Tryz.prog.info? 23).map (fun i => (i.zero, i.size, i.bytes)) = some (some (.slice none 0 0), 1, 24) := by kernel_rfl
theorem PlNew_lo (n : Nat) (w : World) (h1 : 1 ≤ n) (h2 : n ≤ 3072) :
    Calls Tryz.prog 5 #[.int .i64 n] w fun e w' => ∃ p g h, e = .returned (.tuple #[.pointer (some ⟨p, 0, none⟩), .int .i64 0]) ∧ Below w.heap.size w w' ∧ w.heap.size ≤ h ∧ w.heap.size ≤ g ∧ w.heap.size ≤ p ∧ Pl w' p g h n (List.replicate (2 * n) 0) := by
  have hd : decide ((n : Int) < 1) = false := by simp; omega
  have hd2 : decide (3072 < (n : Int)) = false := by simp; omega
  have hw : IntKind.i64.wrap (2 * (n : Int)) = ((2 * n : Nat) : Int) := by rw [IntKind.wrap_i64]; omega
  go_enter Tryz.func5, Tryz.ntmps5
  go_wp2_with fail
  refine (CellsNew_yes (2 * n) _ (by omega) (by omega)).mono ?_
  rintro e w1 ⟨g, h, rfl, bel, hg, hh, hc, _⟩
  go_wp2
  go_ret2
  exact ⟨w1.heap.size, g, h, rfl, bel_after bel (bel_alloc _ _), hh, hg, bel.size, ⟨Blk.new _ _ _, hc.alloc _, by simp⟩⟩
theorem LS.start {w0 W2 : World} {gp gc h n nk px pg ph s1 : Nat} (n1 : 1 ≤ n ∧ n ≤ 60) (tab : Tab w0 ∧ 0 < w0.heap.size) (k4 : nk ≤ 4) (pm : PoM W2 gp gc h n (iniW n)) (pl : Pl W2 px pg ph n (List.replicate (2 * n) 0)) (f1 : w0.heap.size ≤ gp ∧ w0.heap.size ≤ gc ∧ w0.heap.size ≤ h ∧ gp < s1 ∧ gc < s1 ∧ h < s1) (f2 : s1 ≤ px ∧ s1 ≤ pg ∧ s1 ≤ ph) (bel : Below w0.heap.size w0 W2) :
    LS w0 (((W2.alloc (.cells (Array.replicate nk (.pointer none)) 35)).alloc (.cells (Array.replicate nk (.pointer none)) 38)).alloc (.cells (Array.replicate nk (.slice none 0 0)) 23)) (fun _ => 0) (W2.heap.size + 1 + 1 + 1) gp gc h n nk px pg ph W2.heap.size (W2.heap.size + 1) (W2.heap.size + 1 + 1) 0 [] := by
  have b1 := pl.obj.lt
  obtain ⟨o1, o2, o3, hob⟩ := pl.cel.obj
  have b2 := hob.lt
  obtain ⟨o4, o5, o6, hob2⟩ := pm.cel.obj
  have b5 := hob2.lt
  have b6 : h < W2.heap.size := pm.cel.row.lt
  clear hob hob2
  have b3 : ph < W2.heap.size := pl.cel.row.lt
  have b4 := pm.obj.lt
  have hw2 := bel.size
  have e1 : (Array.replicate nk (Value.pointer none)) = (List.replicate nk (Value.pointer none)).toArray := by simp
  have e2 : (Array.replicate nk (Value.slice none 0 0)) = (List.replicate nk (Value.slice none 0 0)).toArray := by simp
  rw [e1, e2]
  have k1 := Blk.new W2 35 (List.replicate nk (Value.pointer none)).toArray
  have k2 := Blk.new (W2.alloc (.cells (List.replicate nk (Value.pointer none)).toArray 35)) 38 (List.replicate nk (Value.pointer none)).toArray
  have k3 := Blk.new ((W2.alloc (.cells (List.replicate nk (Value.pointer none)).toArray 35)).alloc (.cells (List.replicate nk (Value.pointer none)).toArray 38)) 23 (List.replicate nk (Value.slice none 0 0)).toArray
  have hb : Below W2.heap.size W2 (((W2.alloc (.cells (List.replicate nk (Value.pointer none)).toArray 35)).alloc (.cells (List.replicate nk (Value.pointer none)).toArray 38)).alloc (.cells (List.replicate nk (Value.slice none 0 0)).toArray 23)) := ((bel_alloc _ _).alloc (by simp) _).alloc (by simp; omega) _
  refine ⟨n1, tab, k4, ⟨rfl, Nat.zero_le _⟩, LM.start (pm.bel hb) n1.2 rfl (by simp; omega), pl.bel hb, ?_, ?_, ?_, ⟨s1, W2.heap.size, by omega⟩, bel_after bel hb⟩
  · simpa [ptrL] using (k1.alloc _).alloc _
  · simpa using k2.alloc _
  · simpa using k3
end Go.Proofs.YtilhkhnjloplfaaGreatDoor
