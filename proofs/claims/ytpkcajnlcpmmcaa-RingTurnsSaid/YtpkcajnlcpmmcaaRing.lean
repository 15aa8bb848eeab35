/- The walks of package ring: the steps. -/
import Derived.Test.YtpkcajnlcpmmcaaRingPlain
import Derived.Test.YtpkcajnlcpmmcaaPlan
import Derived.Deep.DeepCutAuto
namespace Go.Proofs.Ytpkcajnlcpmmcaa
set_option linter.unusedVariables false
set_option linter.unusedSimpArgs false
open Go.RowKit
/-- a step in memory -/
def StpAt (w : World) (b : Nat) (s : Stp) : Prop := Blk w b 63 #[.bool s.get, .int .i64 s.pos, .int .u64 s.v, .int .i64 s.fin, .bool s.done]
/-- a ring in memory -/
structure RgAt (w : World) (b g h : Nat) (P G : Option Addr) (r : Rg) : Prop where
  obj : Blk w b 61 #[.pointer (some ⟨g, 0, none⟩), .int .u64 r.n, .pointer P, .pointer G, .int .u64 r.had, .int .u64 r.got]
  cel : Cel w g h r.L
  len : r.L.length = r.n + 2
  n1 : 1 ≤ r.n
  n2 : r.n ≤ 256
  hr : inr .u64 r.had
  gr : inr .u64 r.got
theorem RgAt.upd {S : Nat → Prop} {w w' : World} {b g h : Nat} {P G : Option Addr} {r : Rg} (k : RgAt w b g h P G r) (hu : Upd S w w') (h1 : ¬ S b) (h2 : ¬ S g) (h3 : ¬ S h) : RgAt w' b g h P G r :=
  ⟨k.obj.upd hu h1, k.cel.upd hu h2 h3, k.len, k.n1, k.n2, k.hr, k.gr⟩
theorem RgAt.bel {w w' : World} {b g h : Nat} {P G : Option Addr} {r : Rg} (k : RgAt w b g h P G r) (hb : Below w.heap.size w w') : RgAt w' b g h P G r :=
  ⟨k.obj.bel hb, k.cel.bel hb, k.len, k.n1, k.n2, k.hr, k.gr⟩
theorem RgAt.drew {w : World} {b g h : Nat} {P G : Option Addr} {r : Rg} (k : RgAt w b g h P G r) : RgAt w.drew b g h P G r := ⟨k.obj, k.cel.drew, k.len, k.n1, k.n2, k.hr, k.gr⟩
theorem RgAt.ne {w : World} {b g h : Nat} {P G : Option Addr} {r : Rg} (k : RgAt w b g h P G r) : g ≠ b ∧ h ≠ b ∧ g ≠ h := by
  obtain ⟨_, _, _, ho⟩ := k.cel.obj
  exact ⟨ho.ne_ k.obj (by decide), k.cel.row.ne_ k.obj (by decide), k.cel.ne⟩
theorem RgAt.nes {w : World} {b g h sb : Nat} {P G : Option Addr} {r : Rg} {s : Stp} (k : RgAt w b g h P G r) (ks : StpAt w sb s) : b ≠ sb ∧ g ≠ sb ∧ h ≠ sb := by
  obtain ⟨_, _, _, ho⟩ := k.cel.obj
  exact ⟨k.obj.ne_ ks (by decide), ho.ne_ ks (by decide), k.cel.row.ne_ ks (by decide)⟩
theorem place_any (k : Int) (b g h : Nat) (P G : Option Addr) (r : Rg) (w : World) (rg : RgAt w b g h P G r) (hk : 0 ≤ k) :
    Calls Try.prog 28 #[.pointer (some ⟨b, 0, none⟩), .int .u64 k] w fun e w' => e = .returned (.int .i64 (r.slot k)) ∧ w = w' := by
  have e1 := rg.obj.cell 1
  have n1 := rg.n1
  have n2 := rg.n2
  have h1 := Int.emod_nonneg k (show (r.n : Int) ≠ 0 by omega)
  have h2 := Int.emod_lt_of_pos k (show (0 : Int) < r.n by omega)
  have hq : k.tmod r.n = k % r.n := Int.tmod_eq_emod_of_nonneg hk
  have hz : ((r.n : Int) == 0) = false := by simp; omega
  have hnz : (r.n : Int) ≠ 0 := by omega
  unfold Rg.slot
  generalize r.n = n at *
  obtain ⟨q, hqe⟩ : ∃ q, q = k % (n : Int) := ⟨_, rfl⟩
  rw [← hqe] at h1 h2 hq
  rw [← hqe]
  have hqe2 := hqe.symm
  clear hqe
  have hq2 : wrap64 q = q := IntWalk.wrap64_in _ (by omega)
  have hq3 : wrap64 (2 + q) = 2 + q := IntWalk.wrap64_in _ (by omega)
  clear rg
  go_enter Try.func28, Try.ntmps28
  go_wp2_with fail
  go_ret
  exact ⟨rfl, rfl⟩
theorem finish_any (e0 : Int) (b : Nat) (s : Stp) (w : World) (hs : StpAt w b s) :
    Calls Try.prog 31 #[.pointer (some ⟨b, 0, none⟩), .int .i64 e0] w fun e w' => e = .returned (.tuple #[]) ∧ StpAt w' b ⟨s.get, s.pos, s.v, e0, true⟩ ∧ Upd (fun x => x = b) w w' := by
  have e3 := Blk.cell hs 3
  have e4 := Blk.cell hs 4
  have f3 := Blk.frozen hs 3
  have f4 := Blk.frozen hs 4
  have up : Upd (fun x => x = b) w ((w.setCell ⟨b, 3, none⟩ (.int .i64 e0)).setCell ⟨b, 4, none⟩ (.bool true)) := (Upd.one w b 3 (.int .i64 e0)).setCell (p := ⟨b, 4, none⟩) (fun _ => rfl) (.bool true)
  have k2 : StpAt ((w.setCell ⟨b, 3, none⟩ (.int .i64 e0)).setCell ⟨b, 4, none⟩ (.bool true)) b ⟨s.get, s.pos, s.v, e0, true⟩ := (Blk.set_ hs 3 (.int .i64 e0)).set_ 4 (.bool true)
  go_enter Try.func31, Try.ntmps31
  go_wp2_with fail
  go_end0
  exact ⟨rfl, k2, up⟩
/-- the worlds in which ring and step lie -/
structure RS (w0 : World) (b g h sb : Nat) (P G : Option Addr) (r : Rg) (s : Stp) (W : World) : Prop where
  rg : RgAt W b g h P G r
  st : StpAt W sb s
  upd : Upd (fun x => x = b ∨ x = h ∨ x = sb) w0 W
theorem RS.drew {w0 W : World} {b g h sb : Nat} {P G : Option Addr} {r : Rg} {s : Stp} (k : RS w0 b g h sb P G r s W) : RS w0 b g h sb P G r s W.drew := ⟨k.rg.drew, Blk.drew k.st, k.upd.drew⟩
theorem RS.fin {w0 W W' : World} {b g h sb : Nat} {P G : Option Addr} {r : Rg} {s s' : Stp} (k : RS w0 b g h sb P G r s W) (st : StpAt W' sb s') (up : Upd (fun x => x = sb) W W') : RS w0 b g h sb P G r s' W' := by
  obtain ⟨hbs, hgs, hhs⟩ := k.rg.nes k.st
  exact ⟨k.rg.upd up hbs hgs hhs, st, k.upd.trans (up.mono fun x _ e => .inr (.inr e))⟩
def RSx (w0 : World) (b g h sb : Nat) (P G : Option Addr) (r : Rg) (s : Stp) (W : World) : Prop := ∃ L, RS w0 b g h sb P G ⟨r.n, r.had, r.got, L⟩ s W
theorem RS.store {w0 W W' : World} {b g h sb : Nat} {P G : Option Addr} {r : Rg} {s : Stp} {L : List Int} (k : RS w0 b g h sb P G r s W) (hc : Cel W' g h L) (hL : L.length = r.L.length) (up : Upd (fun x => x = h) W W') : RS w0 b g h sb P G ⟨r.n, r.had, r.got, L⟩ s W' := by
  obtain ⟨hbs, hgs, hhs⟩ := k.rg.nes k.st
  obtain ⟨hgb, hhb, hgh⟩ := k.rg.ne
  exact ⟨⟨k.rg.obj.upd up (Ne.symm hhb), hc, by simp only; rw [hL]; exact k.rg.len, k.rg.n1, k.rg.n2, k.rg.hr, k.rg.gr⟩, Blk.upd (S := (· = h)) k.st up (Ne.symm hhs), k.upd.trans (up.mono fun x _ e => .inr (.inl e))⟩
theorem RS.had {w0 W : World} {b g h sb : Nat} {P G : Option Addr} {r : Rg} {s : Stp} {x : Int} (k : RS w0 b g h sb P G r s W) (hx : inr .u64 x) : RS w0 b g h sb P G ⟨r.n, x, r.got, r.L⟩ s (W.setCell ⟨b, 4, none⟩ (.int .u64 x)) := by
  obtain ⟨hbs, hgs, hhs⟩ := k.rg.nes k.st
  obtain ⟨hgb, hhb, hgh⟩ := k.rg.ne
  have up := Upd.one W b 4 (.int .u64 x)
  exact ⟨⟨k.rg.obj.set_ 4 _, Cel.upd (S := (· = b)) k.rg.cel up hgb hhb, k.rg.len, k.rg.n1, k.rg.n2, hx, k.rg.gr⟩, Blk.upd (S := (· = b)) k.st up (Ne.symm hbs), k.upd.trans (up.mono fun x _ e => .inl e)⟩
theorem RS.gotten {w0 W : World} {b g h sb : Nat} {P G : Option Addr} {r : Rg} {s : Stp} {x : Int} (k : RS w0 b g h sb P G r s W) (hx : inr .u64 x) : RS w0 b g h sb P G ⟨r.n, r.had, x, r.L⟩ s (W.setCell ⟨b, 5, none⟩ (.int .u64 x)) := by
  obtain ⟨hbs, hgs, hhs⟩ := k.rg.nes k.st
  obtain ⟨hgb, hhb, hgh⟩ := k.rg.ne
  have up := Upd.one W b 5 (.int .u64 x)
  exact ⟨⟨k.rg.obj.set_ 5 _, Cel.upd (S := (· = b)) k.rg.cel up hgb hhb, k.rg.len, k.rg.n1, k.rg.n2, k.rg.hr, hx⟩, Blk.upd (S := (· = b)) k.st up (Ne.symm hbs), k.upd.trans (up.mono fun x _ e => .inl e)⟩
theorem wrap_inr (x : Int) : inr .u64 (IntKind.u64.wrap x) := by rw [IntKind.wrap_u64]; exact u64_inr (by omega)
set_option maxHeartbeats 1000000 in
theorem puts_any (b g h sb : Nat) (P G : Option Addr) (r : Rg) (s : Stp) (w : World) (rg : RgAt w b g h P G r) (st : StpAt w sb s) (hp : s.pos ≤ 2) (hv : inr .u64 s.v) :
    Calls Try.prog 26 #[.pointer (some ⟨b, 0, none⟩), .pointer (some ⟨sb, 0, none⟩)] w fun e w' => e = .returned (.tuple #[]) ∧ RS w b g h sb P G (r.puts s).1 (r.puts s).2 w' := by
  obtain ⟨hgb, hhb, hgh⟩ := rg.ne
  obtain ⟨hbs, hgs, hhs⟩ := rg.nes st
  have k : RS w b g h sb P G r s w := ⟨rg, st, Upd.refl _ _⟩
  have n1 := rg.n1
  have n2 := rg.n2
  have hl : r.L.length ≤ 65536 := by rw [rg.len]; omega
  have hhad := inr_u64 rg.hr
  have hgot := inr_u64 rg.gr
  have p1 := Blk.cell st 1
  have h3 : s.pos = 0 ∨ s.pos = 1 ∨ s.pos = 2 := by omega
  rcases h3 with h0 | h0 | h0
  · by_cases hful : IntKind.u64.wrap (r.had - celAt r.L 0) = r.n
    · rw [show r.puts s = (r, ⟨s.get, s.pos, s.v, 9, true⟩) by unfold Rg.puts; rw [if_pos h0, if_pos hful]]
      have hb : (IntKind.u64.wrap (r.had - celAt r.L 0) == (r.n : Int)) = true := by simpa using hful
      clear hful
      rw [h0] at p1
      replace h0 := Lib.hid h0
      have z0 : ∀ t : Tw (RS w b g h sb P G r s), t.w.cell? ⟨b, 0, none⟩ = some (.pointer (some ⟨g, 0, none⟩)) := fun t => t.h.rg.obj.cell 0
      have z1 : ∀ t : Tw (RS w b g h sb P G r s), t.w.cell? ⟨b, 1, none⟩ = some (.int .u64 r.n) := fun t => t.h.rg.obj.cell 1
      have z4 : ∀ t : Tw (RS w b g h sb P G r s), t.w.cell? ⟨b, 4, none⟩ = some (.int .u64 (r).had) := fun t => t.h.rg.obj.cell 4
      have z5 : ∀ t : Tw (RS w b g h sb P G r s), t.w.cell? ⟨b, 5, none⟩ = some (.int .u64 (r).got) := fun t => t.h.rg.obj.cell 5
      have y2 : ∀ t : Tw (RS w b g h sb P G r s), t.w.cell? ⟨sb, 2, none⟩ = some (.int .u64 s.v) := fun t => Blk.cell t.h.st 2
      have : Nonempty (Tw (RS w b g h sb P G r s)) := ⟨⟨_, k⟩⟩
      go_enter Try.func26, Try.ntmps26
      go_wp2_with fail
      have hLd : ∀ (t : Tw (RS w b g h sb P G r s)) (i : Int), Calls Try.prog 27 #[.pointer (some ⟨g, 0, none⟩), .int .i64 i] t.w fun e w' => e = .returned (.int .u64 (celAt r.L i)) ∧ t.w = w' := fun t i => Load_any i g h r.L t.w t.h.rg.cel hl
      replace hLd := Lib.hid hLd
      refine region_tw (RS w b g h sb P G r s) (by kernel_rfl) (by kernel_rfl) k.drew ?_
      unfold clsS
      repeat (first
        | go_big_quiet_skip
        | (go_big_quiet_want; go_big_quiet_op; first | go_big_quiet_on | go_big_quiet_call (
          (go_at_call 27; exact q_tw_same (hLd.out _ _)))))
      refine wpQuiet_nil ?_
      intro tq
      have kt := tq.h
      generalize tq.w = w1 at *
      clear z0 z1 z4 z5 y2 this hLd tq
      go_wp2_with fail
      refine (finish_any 9 sb s w1 kt.st).mono ?_
      rintro e w2 ⟨rfl, st2, up2⟩
      go_wp2_with fail
      go_end0
      exact ⟨rfl, kt.fin st2 up2⟩
    · rw [show r.puts s = (r, s) by unfold Rg.puts; rw [if_pos h0, if_neg hful]]
      have hb : (IntKind.u64.wrap (r.had - celAt r.L 0) == (r.n : Int)) = false := by simpa using hful
      clear hful
      rw [h0] at p1
      replace h0 := Lib.hid h0
      have z0 : ∀ t : Tw (RS w b g h sb P G r s), t.w.cell? ⟨b, 0, none⟩ = some (.pointer (some ⟨g, 0, none⟩)) := fun t => t.h.rg.obj.cell 0
      have z1 : ∀ t : Tw (RS w b g h sb P G r s), t.w.cell? ⟨b, 1, none⟩ = some (.int .u64 r.n) := fun t => t.h.rg.obj.cell 1
      have z4 : ∀ t : Tw (RS w b g h sb P G r s), t.w.cell? ⟨b, 4, none⟩ = some (.int .u64 (r).had) := fun t => t.h.rg.obj.cell 4
      have z5 : ∀ t : Tw (RS w b g h sb P G r s), t.w.cell? ⟨b, 5, none⟩ = some (.int .u64 (r).got) := fun t => t.h.rg.obj.cell 5
      have y2 : ∀ t : Tw (RS w b g h sb P G r s), t.w.cell? ⟨sb, 2, none⟩ = some (.int .u64 s.v) := fun t => Blk.cell t.h.st 2
      have : Nonempty (Tw (RS w b g h sb P G r s)) := ⟨⟨_, k⟩⟩
      go_enter Try.func26, Try.ntmps26
      go_wp2_with fail
      have hLd : ∀ (t : Tw (RS w b g h sb P G r s)) (i : Int), Calls Try.prog 27 #[.pointer (some ⟨g, 0, none⟩), .int .i64 i] t.w fun e w' => e = .returned (.int .u64 (celAt r.L i)) ∧ t.w = w' := fun t i => Load_any i g h r.L t.w t.h.rg.cel hl
      replace hLd := Lib.hid hLd
      refine region_tw (RS w b g h sb P G r s) (by kernel_rfl) (by kernel_rfl) k.drew ?_
      unfold clsS
      repeat (first
        | go_big_quiet_skip
        | (go_big_quiet_want; go_big_quiet_op; first | go_big_quiet_on | go_big_quiet_call (
          (go_at_call 27; exact q_tw_same (hLd.out _ _)))))
      refine wpQuiet_nil ?_
      intro tq
      have kt := tq.h
      generalize tq.w = w1 at *
      clear z0 z1 z4 z5 y2 this hLd tq
      go_wp2_with fail
      go_end0
      exact ⟨rfl, kt⟩
  · rw [show r.puts s = (⟨r.n, r.had, r.got, celSet r.L (r.slot r.had) s.v⟩, s) by unfold Rg.puts; rw [if_neg (by omega), if_pos h0]]
    rw [h0] at p1
    replace h0 := Lib.hid h0
    have z0 : ∀ t : Tw (RSx w b g h sb P G r s), t.w.cell? ⟨b, 0, none⟩ = some (.pointer (some ⟨g, 0, none⟩)) := fun t => by obtain ⟨L, hL⟩ := t.h; exact hL.rg.obj.cell 0
    have z1 : ∀ t : Tw (RSx w b g h sb P G r s), t.w.cell? ⟨b, 1, none⟩ = some (.int .u64 r.n) := fun t => by obtain ⟨L, hL⟩ := t.h; exact hL.rg.obj.cell 1
    have z4 : ∀ t : Tw (RSx w b g h sb P G r s), t.w.cell? ⟨b, 4, none⟩ = some (.int .u64 (r).had) := fun t => by obtain ⟨L, hL⟩ := t.h; exact hL.rg.obj.cell 4
    have z5 : ∀ t : Tw (RSx w b g h sb P G r s), t.w.cell? ⟨b, 5, none⟩ = some (.int .u64 (r).got) := fun t => by obtain ⟨L, hL⟩ := t.h; exact hL.rg.obj.cell 5
    have y2 : ∀ t : Tw (RSx w b g h sb P G r s), t.w.cell? ⟨sb, 2, none⟩ = some (.int .u64 s.v) := fun t => by obtain ⟨L, hL⟩ := t.h; exact Blk.cell hL.st 2
    have : Nonempty (Tw (RSx w b g h sb P G r s)) := ⟨⟨_, _, k⟩⟩
    go_enter Try.func26, Try.ntmps26
    go_wp2_with fail
    refine wp_region_plan (RSx w b g h sb P G r s) [(0, true), (1, true), (2, true), (3, true), (4, true), (5, true), (6, true), (7, true), (8, true), (10, true), (11, true), (12, true), (13, true), (9, false), (14, false)] (by kernel_rfl) (by kernel_rfl) (by kernel_rfl) (by kernel_rfl) ⟨_, k.drew⟩ ?_
    refine wpPl_qs 13 _ _ _ (by kernel_rfl) (by kernel_rfl) (by simp) ?_
    unfold clsS
    simp only [List.take_succ_cons, List.take_zero, List.drop_succ_cons, List.drop_zero, List.filterMap_cons, List.filterMap_nil, List.getElem?_toArray, List.getElem?_cons_zero, List.getElem?_cons_succ]
    repeat (first
      | go_big_quiet_skip
      | (go_big_quiet_want; go_big_quiet_op; go_big_quiet_on)
      | (refine id (?_ : wpQuiet _ _ _ _ (_ :: _) _); first | go_big_quiet_skip | (go_big_quiet_want; go_big_quiet_op; go_big_quiet_on)))
    refine wpQuiet_nil ?_
    refine wpPl_e _ (by rfl) (by kernel_rfl) (fun K hK => ?_)
    go_simp
    refine (place_any r.had b g h P G r _ k.drew.rg hhad.1).mono ?_
    rintro e w1 ⟨rfl, rfl⟩
    refine hK _ _ ⟨_, k.drew⟩ ?_
    clear hK K
    refine wpPl_e _ (by rfl) (by kernel_rfl) (fun K hK => ?_)
    go_simp
    refine (Store_any (r.slot r.had) s.v g h r.L _ k.drew.rg.cel hl hv).mono ?_
    rintro e w1 ⟨rfl, hc1, up1⟩
    have k1 := k.drew.store hc1 (celSet_length _ _ _) up1
    refine hK _ _ ⟨_, k1⟩ ?_
    clear hK K
    unfold wpPl
    refine NoPanic.normal ?_
    clear z0 z1 z4 z5 y2 this
    go_wp2_with fail
    go_end0
    exact ⟨rfl, k1⟩
  · rw [show r.puts s = (⟨r.n, IntKind.u64.wrap (r.had + 1), r.got, celSet r.L 1 (IntKind.u64.wrap (r.had + 1))⟩, ⟨s.get, s.pos, s.v, 0, true⟩) by unfold Rg.puts; rw [if_neg (by omega), if_neg (by omega)]]
    rw [h0] at p1
    replace h0 := Lib.hid h0
    have e4 := rg.obj.cell 4
    have f4 := rg.obj.frozen 4
    have hwi := wrap_inr (r.had + 1)
    go_enter Try.func26, Try.ntmps26
    go_upto_region 2 with fail
    have k1 := k.had hwi
    clear e4 f4 p1
    generalize w.setCell ⟨b, 4, none⟩ (.int .u64 (IntKind.u64.wrap (r.had + 1))) = W1 at *
    have z0 : ∀ t : Tw (RSx w b g h sb P G (⟨r.n, IntKind.u64.wrap (r.had + 1), r.got, r.L⟩ : Rg) s), t.w.cell? ⟨b, 0, none⟩ = some (.pointer (some ⟨g, 0, none⟩)) := fun t => by obtain ⟨L, hL⟩ := t.h; exact hL.rg.obj.cell 0
    have z1 : ∀ t : Tw (RSx w b g h sb P G (⟨r.n, IntKind.u64.wrap (r.had + 1), r.got, r.L⟩ : Rg) s), t.w.cell? ⟨b, 1, none⟩ = some (.int .u64 r.n) := fun t => by obtain ⟨L, hL⟩ := t.h; exact hL.rg.obj.cell 1
    have z4 : ∀ t : Tw (RSx w b g h sb P G (⟨r.n, IntKind.u64.wrap (r.had + 1), r.got, r.L⟩ : Rg) s), t.w.cell? ⟨b, 4, none⟩ = some (.int .u64 ((⟨r.n, IntKind.u64.wrap (r.had + 1), r.got, r.L⟩ : Rg)).had) := fun t => by obtain ⟨L, hL⟩ := t.h; exact hL.rg.obj.cell 4
    have z5 : ∀ t : Tw (RSx w b g h sb P G (⟨r.n, IntKind.u64.wrap (r.had + 1), r.got, r.L⟩ : Rg) s), t.w.cell? ⟨b, 5, none⟩ = some (.int .u64 ((⟨r.n, IntKind.u64.wrap (r.had + 1), r.got, r.L⟩ : Rg)).got) := fun t => by obtain ⟨L, hL⟩ := t.h; exact hL.rg.obj.cell 5
    have y2 : ∀ t : Tw (RSx w b g h sb P G (⟨r.n, IntKind.u64.wrap (r.had + 1), r.got, r.L⟩ : Rg) s), t.w.cell? ⟨sb, 2, none⟩ = some (.int .u64 s.v) := fun t => by obtain ⟨L, hL⟩ := t.h; exact Blk.cell hL.st 2
    have : Nonempty (Tw (RSx w b g h sb P G (⟨r.n, IntKind.u64.wrap (r.had + 1), r.got, r.L⟩ : Rg) s)) := ⟨⟨_, _, k1⟩⟩
    refine wp_region_plan (RSx w b g h sb P G (⟨r.n, IntKind.u64.wrap (r.had + 1), r.got, r.L⟩ : Rg) s) [(0, true), (1, true), (2, true), (3, true), (4, true), (5, true), (6, true), (7, true), (8, false)] (by kernel_rfl) (by kernel_rfl) (by kernel_rfl) (by kernel_rfl) ⟨_, k1.drew⟩ ?_
    refine wpPl_qs 8 _ _ _ (by kernel_rfl) (by kernel_rfl) (by simp) ?_
    unfold clsS
    simp only [List.take_succ_cons, List.take_zero, List.drop_succ_cons, List.drop_zero, List.filterMap_cons, List.filterMap_nil, List.getElem?_toArray, List.getElem?_cons_zero, List.getElem?_cons_succ]
    repeat (first
      | go_big_quiet_skip
      | (go_big_quiet_want; go_big_quiet_op; go_big_quiet_on)
      | (refine id (?_ : wpQuiet _ _ _ _ (_ :: _) _); first | go_big_quiet_skip | (go_big_quiet_want; go_big_quiet_op; go_big_quiet_on)))
    refine wpQuiet_nil ?_
    refine wpPl_e _ (by rfl) (by kernel_rfl) (fun K hK => ?_)
    go_simp
    refine (Store_any 1 (IntKind.u64.wrap (r.had + 1)) g h r.L _ k1.drew.rg.cel hl hwi).mono ?_
    rintro e w2 ⟨rfl, hc2, up2⟩
    have k2 := k1.drew.store hc2 (celSet_length _ _ _) up2
    refine hK _ _ ⟨_, k2⟩ ?_
    clear hK K
    unfold wpPl
    refine NoPanic.normal ?_
    clear z0 z1 z4 z5 y2 this
    go_wp2_with fail
    refine (finish_any 0 sb s w2 k2.st).mono ?_
    rintro e w3 ⟨rfl, st3, up3⟩
    go_wp2_with fail
    go_end0
    exact ⟨rfl, k2.fin st3 up3⟩
end Go.Proofs.Ytpkcajnlcpmmcaa
