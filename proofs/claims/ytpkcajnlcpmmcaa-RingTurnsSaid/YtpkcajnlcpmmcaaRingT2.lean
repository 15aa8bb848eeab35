/- The walks of package ring where there is no ring, no step, where a step isn't done; of All and Copy. -/
import Derived.Test.YtpkcajnlcpmmcaaRingT1
import Derived.Test.YtpkcajnlcpmmcaaRing5
import Derived.Test.YtpkcajnlcpmmcaaCells2
namespace Go.Proofs.Ytpkcajnlcpmmcaa
set_option linter.unusedVariables false
set_option linter.unusedSimpArgs false
open Go.RowKit
section
variable {P : Program}
/-- an append, at the operation -/
theorem wp_appI {o : Oper} {a : Act} {Q : Exit → Act → World → Prop} {K : Act → World → Prop} (w : World) (s x : Operand) (t : TypeId)
    (ho : o.op = .call { callee := .builtin .append, args := #[s, x], argTypes := #[t, t] }) (k : IntKind)
    (base : Nat) (e : TypeId) (i : TypeInfo) (z : Value) (bytes : Nat) (ht : P.underlying t = some (.slice e)) (hi : P.info? e = some i) (hz : i.zero = some z)
    (hsize : i.size = 1) (hby : i.bytes = bytes) (hzs : z.cells.size = 1) (v : Value) (hs : a.eval s = v) (l : List Int) (hown : Own k e w base v l)
    (B : Nat) (A : Option Addr) (m c : Nat) (hx : a.eval x = .slice A m c) (l2 : List Int) (hr : Rd k w B A m l2) (hlen : (l.length + m) * bytes ≤ 140737488355328) (hbp : 0 < bytes) (hbase : base ≤ w.heap.size)
    (h : ∀ v' w', Own k e w' base v' (l ++ l2) → w.grownBy w' v.ownBlock → (v'.ownBlock = v.ownBlock ∨ v'.ownBlock = some w.heap.size) → K (a.put o.dst v') w') : o.wp P a w K Q := by
  obtain ⟨v', w', hrun, h2, h3, h4⟩ := run_app (P := P) w k base t o.type e i z bytes ht hi hz hsize hby hzs v l hown B A m c l2 hr hlen hbp hbase
  unfold Oper.wp execOp
  simp only [ho, resolve, invoke, builtin, Sem.run_bind, Sem.run_pure, Result.andThen_ok, List.map_toArray, List.map_cons, List.map_nil, hs, hx, hrun]
  exact h v' w' h2 h3 h4
end
theorem tnone_any (w : World) : Calls Try.prog 15 #[] w fun e w' => e = .returned (.tuple #[.pointer none, .pointer none]) ∧ w = w' := by
  go_enter Try.func15, Try.ntmps15
  go_wp2
  go_ret2
  exact ⟨rfl, rfl⟩
theorem Put_nil (v : Int) (w : World) : Calls Try.prog 8 #[.pointer none, .int .u64 v] w fun e w' => e = .returned (.pointer none) ∧ w = w' := by
  go_enter Try.func8, Try.ntmps8
  go_wp2
  go_ret
  exact ⟨rfl, rfl⟩
theorem Get_nil (w : World) : Calls Try.prog 11 #[.pointer none] w fun e w' => e = .returned (.pointer none) ∧ w = w' := by
  go_enter Try.func11, Try.ntmps11
  go_wp2
  go_ret
  exact ⟨rfl, rfl⟩
theorem Do_nil (w : World) : Calls Try.prog 9 #[.pointer none, .pointer none] w fun e w' => e = .returned (.bool true) ∧ w = w' := by
  go_enter Try.func9, Try.ntmps9
  go_wp2
  go_ret
  exact ⟨rfl, rfl⟩
theorem Do_nils (b : Nat) (w : World) : Calls Try.prog 9 #[.pointer (some ⟨b, 0, none⟩), .pointer none] w fun e w' => e = .returned (.bool true) ∧ w = w' := by
  go_enter Try.func9, Try.ntmps9
  go_wp2
  go_ret
  exact ⟨rfl, rfl⟩
theorem Len_nil (w : World) : Calls Try.prog 13 #[.pointer none] w fun e w' => e = .returned (.int .i64 0) ∧ w = w' := by
  go_enter Try.func13, Try.ntmps13
  go_wp2
  go_ret
  exact ⟨rfl, rfl⟩
theorem All_nil (w : World) : Calls Try.prog 16 #[.pointer none] w fun e w' => e = .returned (.slice none 0 0) ∧ w = w' := by
  go_enter Try.func16, Try.ntmps16
  go_wp2
  go_ret
  exact ⟨rfl, rfl⟩
theorem RCopy_nil (w : World) : Calls Try.prog 17 #[.pointer none] w fun e w' => e = .returned (.slice none 0 0) ∧ w = w' := by
  go_enter Try.func17, Try.ntmps17
  go_wp2
  go_ret
  exact ⟨rfl, rfl⟩
theorem End_nil (w : World) : Calls Try.prog 10 #[.pointer none] w fun e w' => e = .returned (.int .i64 11) ∧ w = w' := by
  go_enter Try.func10, Try.ntmps10
  go_wp2
  go_ret
  exact ⟨rfl, rfl⟩
theorem Value_nil (w : World) : Calls Try.prog 12 #[.pointer none] w fun e w' => e = .returned (.int .u64 0) ∧ w = w' := by
  go_enter Try.func12, Try.ntmps12
  go_wp2
  go_ret
  exact ⟨rfl, rfl⟩
theorem Put_no (v : Int) (b g h pb : Nat) (G : Option Addr) (r : Rg) (sp : Stp) (w : World) (rg : RgAt w b g h (some ⟨pb, 0, none⟩) G r) (st : StpAt w pb sp) (hd : sp.done = false) :
    Calls Try.prog 8 #[.pointer (some ⟨b, 0, none⟩), .int .u64 v] w fun e w' => e = .returned (.pointer none) ∧ w = w' := by
  have e2 := rg.obj.cell 2
  have e4 := Blk.cell st 4
  rw [hd] at e4
  clear hd st rg
  go_enter Try.func8, Try.ntmps8
  go_wp2_with fail
  go_ret
  exact ⟨rfl, rfl⟩
theorem Get_no (b g h pb : Nat) (P : Option Addr) (r : Rg) (sp : Stp) (w : World) (rg : RgAt w b g h P (some ⟨pb, 0, none⟩) r) (st : StpAt w pb sp) (hd : sp.done = false) :
    Calls Try.prog 11 #[.pointer (some ⟨b, 0, none⟩)] w fun e w' => e = .returned (.pointer none) ∧ w = w' := by
  have e2 := rg.obj.cell 3
  have e4 := Blk.cell st 4
  rw [hd] at e4
  clear hd st rg
  go_enter Try.func11, Try.ntmps11
  go_wp2_with fail
  go_ret
  exact ⟨rfl, rfl⟩
theorem RgNew_no (n : Int) (w : World) (h : n < 1 ∨ 256 < n) :
    Calls Try.prog 6 #[.int .i64 n] w fun e w' => e = .returned (.tuple #[.pointer none, .int .i64 1]) ∧ w = w' := by
  rcases h with h | h
  · have hd : decide (n < 1) = true := by simpa using h
    go_enter Try.func6, Try.ntmps6
    go_wp2
    go_ret2
    exact ⟨rfl, rfl⟩
  · have hd : decide (n < 1) = false := by simp; omega
    have hd2 : decide (256 < n) = true := by simpa using h
    go_enter Try.func6, Try.ntmps6
    go_wp2
    go_ret2
    exact ⟨rfl, rfl⟩
theorem RCopy_any (b g h : Nat) (P G : Option Addr) (r : Rg) (w : World) (rg : RgAt w b g h P G r) :
    Calls Try.prog 17 #[.pointer (some ⟨b, 0, none⟩)] w fun e w' => ∃ v, e = .returned v ∧ Own .u64 23 w' w.heap.size v r.L ∧ Below w.heap.size w w' := by
  have e0 := rg.obj.cell 0
  go_enter Try.func17, Try.ntmps17
  go_wp2_with fail
  refine (Copy_any _ _ _ _ rg.cel (by have := rg.len; have := rg.n2; omega)).mono ?_
  rintro e w1 ⟨v, rfl, own, bel⟩
  go_wp2
  go_ret
  exact ⟨v, rfl, own, bel⟩
theorem celAt_r {w : World} {g h : Nat} {l : List Int} (hc : Cel w g h l) (i : Int) : inr .u64 (celAt l i) := by
  refine u64_inr ?_
  unfold celAt
  split
  · rename_i hh; exact (hc.at_ (k := i.toNat) (by omega)).2.2
  · omega
theorem allAt_len (L : List Int) (n nx d : Nat) : (allAt L n nx d).length = d := by simp [allAt]
theorem info_u64r : (Try.prog.info? 23).map (fun i => (i.zero, i.size, i.bytes)) = some (some (.int .u64 0), 1, 8) := by kernel_rfl
set_option maxHeartbeats 1000000 in
theorem All_any (b g h : Nat) (P G : Option Addr) (r : Rg) (nx d e : Nat) (w : World) (rg : RgAt w b g h P G r) (c0 : celAt r.L 0 = (nx : Nat)) (c1 : celAt r.L 1 = (e : Nat)) (he : nx + d = e) (hb : e ≤ 1000) :
    Calls Try.prog 16 #[.pointer (some ⟨b, 0, none⟩)] w fun e w' => ∃ v, e = .returned v ∧ Own .u64 23 w' w.heap.size v (allAt r.L r.n nx d) ∧ Below w.heap.size w w' := by
  obtain ⟨i0, hi, hz0, hz1, hz2⟩ := info_parts info_u64r
  have n1 := rg.n1
  have n2 := rg.n2
  have hl : r.L.length ≤ 65536 := by rw [rg.len]; omega
  have e0 := rg.obj.cell 0
  have hL0 := fun W (hW : Below w.heap.size w W) => Load_any 0 g h r.L W (rg.bel hW).cel hl
  have hL1 := fun W (hW : Below w.heap.size w W) => Load_any 1 g h r.L W (rg.bel hW).cel hl
  rw [c0] at hL0
  rw [c1] at hL1
  replace hL0 := Lib.hid hL0
  replace hL1 := Lib.hid hL1
  clear c0 c1
  replace n1 := Lib.hid n1
  replace he := Lib.hid he
  replace n2 := Lib.hid n2
  replace hl := Lib.hid hl
  go_enter Try.func16, Try.ntmps16
  go_wp2_with fail
  refine (hL0.out _ (Below.refl _ _)).mono ?_
  rintro e w' ⟨rfl, rfl⟩
  go_wp2_with fail
  go_loopw [3, 4] (fun v ix wr => ∃ k c : Nat, k ≤ d ∧ nx + k = c ∧ ix = .int .u64 (c : Int) ∧ Own .u64 23 wr w.heap.size v (allAt r.L r.n nx k) ∧ Below w.heap.size w wr) (fun _ ix _ => e - (intOf ix).toNat)
  case atStart => exact ⟨0, nx, Nat.zero_le _, rfl, rfl, Own.nil _ _ _ _, Below.refl _ _⟩
  case round =>
    obtain ⟨k, c, hk, hc, rfl, own, bel⟩ := hrel
    have he2 := he.out
    have e0r : wr.cell? ⟨b, 0, none⟩ = some (.pointer (some ⟨g, 0, none⟩)) := (rg.bel bel).obj.cell 0
    by_cases hlt : k < d
    · have hdl : decide (c < e) = true := by simp; omega
      have hwk : IntKind.u64.wrap ((c : Int) + 1) = (c : Int) + 1 := by rw [IntKind.wrap_u64]; omega
      have hkd : k < d := hlt
      have hc5 : c < 2000 := by omega
      have hk5 : k < 2000 := by omega
      replace hc := Lib.hid hc
      clear he2
      go_wp2_with fail
      refine (hL1.out _ bel).mono ?_
      rintro e w' ⟨rfl, rfl⟩
      go_upto_region 7 with fail
      have z0 : ∀ t : Tw (fun W => Below w.heap.size w W), t.w.cell? ⟨b, 0, none⟩ = some (.pointer (some ⟨g, 0, none⟩)) := fun t => (rg.bel t.h).obj.cell 0
      have : Nonempty (Tw (fun W => Below w.heap.size w W)) := ⟨⟨w, Below.refl _ _⟩⟩
      refine wp_region_plan (fun W => Below w.heap.size w W) [(0, true), (1, true), (2, true), (3, true), (4, true), (5, true), (6, true), (7, false), (8, false), (9, false), (10, false), (11, true)] (by kernel_rfl) (by kernel_rfl) (by kernel_rfl) (by kernel_rfl) bel.drew ?_
      replace bel := bel.drew
      replace own := own.drew
      clear e0r
      generalize wr.drew = w2 at *
      refine wpPl_qs 7 _ _ _ (by kernel_rfl) (by kernel_rfl) (by simp) ?_
      unfold clsS
      simp only [List.take_succ_cons, List.take_zero, List.drop_succ_cons, List.drop_zero, List.filterMap_cons, List.filterMap_nil, List.getElem?_toArray, List.getElem?_cons_zero, List.getElem?_cons_succ]
      repeat (first
        | go_big_quiet_skip
        | (go_big_quiet_want; go_big_quiet_op; go_big_quiet_on)
        | (refine id (?_ : wpQuiet _ _ _ _ (_ :: _) _); first | go_big_quiet_skip | (go_big_quiet_want; go_big_quiet_op; go_big_quiet_on)))
      refine wpQuiet_nil ?_
      refine wpPl_e _ (by rfl) (by kernel_rfl) (fun K hK => ?_)
      go_simp
      refine (place_any _ b g h P G r _ (rg.bel bel) (by omega)).mono ?_
      rintro e w' ⟨rfl, rfl⟩
      refine hK _ _ bel ?_
      clear hK K
      obtain ⟨x, hx⟩ : ∃ x, x = celAt r.L (r.slot (c : Int)) := ⟨_, rfl⟩
      have hxr : inr .u64 x := hx ▸ celAt_r rg.cel _
      have hLx := Load_any (r.slot (c : Int)) g h r.L w2 (rg.bel bel).cel hl.out
      rw [← hx] at hLx
      replace hx := Lib.hid hx
      replace hLx := Lib.hid hLx
      generalize r.slot (c : Int) = sl at hLx ⊢
      refine wpPl_e _ (by rfl) (by kernel_rfl) (fun K hK => ?_)
      go_simp
      refine hLx.out.mono ?_
      rintro e w' ⟨rfl, rfl⟩
      refine hK _ _ bel ?_
      clear hK K hLx
      have hrd := Rd.new .u64 w2 23 [x] (by intro y hy; simp at hy; subst hy; exact hxr) #[.int .u64 x] rfl 1 rfl
      have bel2 := bel.alloc bel.size (.cells #[.int .u64 x] 23)
      have own2 := own.alloc (.cells #[.int .u64 x] 23)
      refine wpPl_e _ (by rfl) (by kernel_rfl) (fun K hK => ?_)
      go_simp
      refine hK _ _ bel2 ?_
      clear hK K
      refine wpPl_e _ (by rfl) (by kernel_rfl) (fun K hK => ?_)
      refine wp_appI _ (.tmp 21) (.tmp 30) 30 (by rfl) .u64 w.heap.size 23 i0 (.int .u64 0) 8 Try.underlying30 hi hz0 hz1 hz2 rfl _ (by rfl) (allAt r.L r.n nx k) own2 _ _ 1 1 (by rfl) [x] hrd (by rw [allAt_len]; omega) (by decide) bel2.size ?_
      intro v1 w3 own3 hg3 _
      have bel3 : Below w.heap.size w w3 := bel2.grown hg3 bel2.size (fun g h => (own2.lt g h).1)
      rw [hx.out, show r.slot (c : Int) = 2 + ((nx + k : Nat) : Int) % r.n by unfold Rg.slot; rw [hc.out], ← allAt_succ] at own3
      go_simp
      refine hK _ _ bel3 ?_
      clear hK K
      refine wpPl_qs 1 _ _ _ (by kernel_rfl) (by kernel_rfl) (by simp) ?_
      unfold clsS
      simp only [List.take_succ_cons, List.take_zero, List.drop_succ_cons, List.drop_zero, List.filterMap_cons, List.filterMap_nil, List.getElem?_toArray, List.getElem?_cons_zero, List.getElem?_cons_succ]
      repeat (first
        | go_big_quiet_skip
        | (go_big_quiet_want; go_big_quiet_op; go_big_quiet_on)
        | (refine id (?_ : wpQuiet _ _ _ _ (_ :: _) _); first | go_big_quiet_skip | (go_big_quiet_want; go_big_quiet_op; go_big_quiet_on)))
      refine wpQuiet_nil ?_
      unfold wpPl
      refine NoPanic.normal ?_
      clear z0 this hrd own2 bel2 hg3
      go_wp2_with fail
      go_roundw
      case rel => exact ⟨k + 1, c + 1, by omega, by have := hc.out; omega, by go_num, own3, bel3⟩
      case measure => have := hc.out; have := he.out; simp [intOf]; omega
    · obtain rfl : k = d := by omega
      obtain rfl : c = e := by omega
      have hdl : decide (c < c) = false := by simp
      replace hc := Lib.hid hc
      clear he2
      go_wp2_with fail
      refine (hL1.out _ bel).mono ?_
      rintro e w' ⟨rfl, rfl⟩
      go_wp2_with fail
      go_ret
      exact ⟨_, rfl, own, bel⟩
end Go.Proofs.Ytpkcajnlcpmmcaa
