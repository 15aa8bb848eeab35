/- Contracts and plain facts. -/
import Derived.Test.YtbckoohljkmahaaGreatPk09
import Derived.Test.YtbckoohljkmahaaGreatPk10
namespace Go.Proofs.YtbckoohljkmahaaGreat
set_option linter.unusedVariables false
set_option linter.unusedSimpArgs false
set_option maxRecDepth 100000
set_option maxHeartbeats 16000000
open Go.RowKit
theorem rPorts_ok (c : Cf) (w : World) (h : c.ok) : Calls Tryz.prog 91 #[.agg (A8 c.wk c.ou c.lo c.hi c.bk c.rg)] w fun e w' => e = .returned (.int .i64 c.n) ∧ Below w.heap.size w w' := by
 have kw := fun W => rWrong_ok c W h
 obtain ⟨_, _, ⟨a5, a6⟩, ⟨a7, a8⟩, _, _, _⟩ := h
 obtain ⟨wk, ou, lo, hi, bk, rg⟩ := c
 simp only [Cf.n] at *
 replace kw := Lib.hid kw
 go_enter Tryz.func91, Tryz.ntmps91
 go_upto_region 1 with fail
 have bx := Blk.new w 27 (A8 wk ou lo hi bk rg)
 have bel := bel_alloc w (.cells (A8 wk ou lo hi bk rg) 27)
 generalize w.alloc (.cells (A8 wk ou lo hi bk rg) 27) = W at *
 go_wp2_with (refine wpList_ldRow rfl rfl rfl bx Tryz.underlying27 rcf_size ?_)
 refine (kw.out _).mono ?_
 rintro e w2 ⟨rfl, hb⟩
 replace bx := bx.bel hb
 replace bel := bel_after bel hb
 have q2 := bx.cell 2
 have q3 := bx.cell 3
 go_wp2_with fail
 go_ret
 exact ⟨rfl, bel⟩
theorem rPlace_ok (c : Cf) (p port : Int) (w : World) (h : c.ok) : Calls Tryz.prog 65 #[.agg (A8 c.wk c.ou c.lo c.hi c.bk c.rg), .int .i64 p, .int .i64 port] w fun e w' => e = .returned (.int .i64 (placeP c p port)) ∧ Below w.heap.size w w' := by
 have kw := fun W => rPorts_ok c W h
 have kk := fun W => rKind_any p W
 obtain ⟨_, _, ⟨a5, a6⟩, ⟨a7, a8⟩, _, _, _⟩ := h
 have hkb := kindP_bd p
 obtain ⟨V, hV⟩ : ∃ V, placeP c p port = V := ⟨_, rfl⟩
 rw [hV]
 unfold placeP at hV
 obtain ⟨wk, ou, lo, hi, bk, rg⟩ := c
 simp only [Cf.n] at *
 generalize kindP p = kp at *
 have hn : 1 ≤ hi - lo + 1 ∧ hi - lo + 1 ≤ 1024 := by omega
 obtain ⟨N, hN⟩ : ∃ N, hi - lo + 1 = N := ⟨_, rfl⟩
 rw [hN] at kw hV hn
 have n0 : (N == 0) = false := by simp; omega
 replace hN := Lib.hid hN
 replace hV := Lib.hid hV
 replace kw := Lib.hid kw
 replace kk := Lib.hid kk
 go_enter Tryz.func65, Tryz.ntmps65
 go_upto_region 1 with fail
 have bx := Blk.new w 27 (A8 wk ou lo hi bk rg)
 have bel := bel_alloc w (.cells (A8 wk ou lo hi bk rg) 27)
 generalize w.alloc (.cells (A8 wk ou lo hi bk rg) 27) = W at *
 go_wp2_with (refine wpList_ldRow rfl rfl rfl bx Tryz.underlying27 rcf_size ?_)
 refine (kw.out _).mono ?_
 rintro e w2 ⟨rfl, hb⟩
 replace bx := bx.bel hb
 replace bel := bel_after bel hb
 clear hb
 go_wp2_with fail
 refine (kk.out _).mono ?_
 rintro e w' ⟨rfl, rfl⟩
 have q2 := bx.cell 2
 have q3 := bx.cell 3
 by_cases hk : kp < 0
 ·have d1 : decide (kp < 0) = true := by simpa using hk
  have hVs := hV.out
  rw [if_pos (.inl hk)] at hVs
  subst hVs
  clear hV
  go_wp2_with fail
  go_ret
  exact ⟨rfl, bel⟩
 have d1 : decide (kp < 0) = false := by simpa using hk
 by_cases hp : port < lo
 ·have d2 : decide (port < lo) = true := by simpa using hp
  have hVs := hV.out
  rw [if_pos (.inr (.inl hp))] at hVs
  subst hVs
  clear hV
  go_wp2_with fail
  go_ret
  exact ⟨rfl, bel⟩
 have d2 : decide (port < lo) = false := by simpa using hp
 by_cases hp2 : hi < port
 ·have d3 : decide (hi < port) = true := by simpa using hp2
  have hVs := hV.out
  rw [if_pos (.inr (.inr hp2))] at hVs
  subst hVs
  clear hV
  go_wp2_with fail
  go_ret
  exact ⟨rfl, bel⟩
 have d3 : decide (hi < port) = false := by simpa using hp2
 have hVs := hV.out
 rw [if_neg (by omega)] at hVs
 obtain ⟨hm1, hm2⟩ : 0 ≤ kp * N ∧ kp * N ≤ 2048 := by
  have h3 : kp = 0 ∨ kp = 1 ∨ kp = 2 := by omega
  rcases h3 with rfl | rfl | rfl <;> omega
 have hN2 := hN.out
 have e1 : wrap64 (kp * N) = kp * N := IntWalk.wrap64_in _ ⟨by omega, by omega⟩
 have e2 : wrap64 (kp * N + port) = kp * N + port := IntWalk.wrap64_in _ ⟨by omega, by omega⟩
 have e3 : wrap64 (kp * N + port - lo) = kp * N + port - lo := IntWalk.wrap64_in _ ⟨by omega, by omega⟩
 clear hm1 hm2 hN2 hV
 replace hVs := Lib.hid hVs
 go_upto_region 3 with fail
 have zz := Up.one w2
 have zc : ∀ t : Tw (Up w2), t.w.cell? ⟨w.heap.size, 2, none⟩ = some (.int .i64 lo) := fun t => (bx.bel t.h).cell 2
 have zr : ∀ w', (∃ t : Tw (Up w2), w' = t.w) → Blk w' w.heap.size 27 (A8 wk ou lo hi bk rg) := fun w' ⟨t, ht⟩ => ht ▸ bx.bel t.h
 have zk : ∀ t : Tw (Up w2), Calls Tryz.prog 92 #[.int .i64 p] t.w fun e w' => e = .returned (.int .i64 kp) ∧ t.w = w' := fun t => kk.out t.w
 have zp : ∀ t : Tw (Up w2), Calls Tryz.prog 91 #[.agg (A8 wk ou lo hi bk rg)] t.w fun e w' => e = .returned (.int .i64 N) ∧ Below t.w.heap.size t.w w' := fun t => kw.out t.w
 replace zk := Lib.hid zk
 replace zp := Lib.hid zp
 clear kk kw q2 q3
 refine region_tw (Up w2) (by kernel_rfl) (by kernel_rfl) (Below.refl _ _).drew ?_
 unfold clsS
 repeat (first
  | go_big_quiet_skip
  | (go_big_quiet_want; go_big_quiet_op; first | go_big_quiet_on | go_big_quiet_call (first | exact q_tw_same (zk.out _) | exact q_tw (Nat.le_refl _) (zp.out _))))
 go_big_quiet_want
 refine quiet_ldRow rfl rfl zr Tryz.underlying27 rcf_size ?_
 go_simp
 go_big_quiet_on
 repeat (first
  | go_big_quiet_skip
  | (go_big_quiet_want; go_big_quiet_op; first | go_big_quiet_on | go_big_quiet_call (first | exact q_tw_same (zk.out _) | exact q_tw (Nat.le_refl _) (zp.out _))))
 refine wpQuiet_nil ?_
 intro tq
 have belq := bel_after bel tq.h
 clear zz zc zr zk zp
 go_wp2_with fail
 go_ret
 refine ⟨?_, belq⟩
 rw [← hVs.out]
 show Ending.returned (.int .i64 (wrap64 (kp * N + port - lo))) = _
 rw [e3]
end Go.Proofs.YtbckoohljkmahaaGreat
