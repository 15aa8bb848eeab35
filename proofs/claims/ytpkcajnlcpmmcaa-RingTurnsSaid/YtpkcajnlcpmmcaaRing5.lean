/- The walks of Len, and of the law's waits. -/
import Derived.Test.YtpkcajnlcpmmcaaRingM
namespace Go.Proofs.Ytpkcajnlcpmmcaa
set_option linter.unusedVariables false
set_option linter.unusedSimpArgs false
open Go.RowKit
set_option maxHeartbeats 1000000 in
theorem Len_any (b g h : Nat) (P G : Option Addr) (r : Rg) (w : World) (rg : RgAt w b g h P G r) (m : Nat) (hm : IntKind.u64.wrap (celAt r.L 1 - celAt r.L 0) = m) (hm2 : m ≤ 1000000) :
    Calls Try.prog 13 #[.pointer (some ⟨b, 0, none⟩)] w fun e w' => e = .returned (.int .i64 m) ∧ Below w.heap.size w w' := by
  have n2 := rg.n2
  have hl : r.L.length ≤ 65536 := by rw [rg.len]; omega
  have hw : wrap64 (m : Int) = m := IntWalk.wrap64_in _ (by omega)
  have hLd : ∀ (t : Tw (fun W => Below w.heap.size w W)) (i : Int), Calls Try.prog 27 #[.pointer (some ⟨g, 0, none⟩), .int .i64 i] t.w fun e w' => e = .returned (.int .u64 (celAt r.L i)) ∧ t.w = w' := fun t i => Load_any i g h r.L t.w (rg.bel t.h).cel hl
  have z0 : ∀ t : Tw (fun W => Below w.heap.size w W), t.w.cell? ⟨b, 0, none⟩ = some (.pointer (some ⟨g, 0, none⟩)) := fun t => (rg.bel t.h).obj.cell 0
  have : Nonempty (Tw (fun W => Below w.heap.size w W)) := ⟨⟨w, Below.refl _ _⟩⟩
  replace hLd := Lib.hid hLd
  clear n2 rg
  obtain ⟨c1, hc1⟩ : ∃ c1, c1 = celAt r.L 1 := ⟨_, rfl⟩
  obtain ⟨c0, hc0⟩ : ∃ c0, c0 = celAt r.L 0 := ⟨_, rfl⟩
  rw [← hc1, ← hc0] at hm
  go_enter Try.func13, Try.ntmps13
  go_wp2_with fail
  refine region_tw (fun W => Below w.heap.size w W) (by kernel_rfl) (by kernel_rfl) (Below.refl _ _).drew ?_
  unfold clsS
  repeat (first
    | go_big_quiet_skip
    | (go_big_quiet_want; go_big_quiet_op; first | go_big_quiet_on | go_big_quiet_call (
      (go_at_call 27; exact q_tw_same (hLd.out _ _)))))
  refine wpQuiet_nil ?_
  intro tq
  rw [← hc1, ← hc0, hm, hw]
  clear hc1 hc0
  go_wp2_with fail
  go_ret
  exact ⟨rfl, tq.h⟩
theorem QM.len {w W : World} {b g h k : Nat} {q : List Int} {got : Nat} {P G : Option Addr} {r : Rg} (m : QM w b g h k q got P G r W) :
    Calls Try.prog 13 #[.pointer (some ⟨b, 0, none⟩)] W fun e w' => e = .returned (.int .i64 q.length) ∧ Below W.heap.size W w' := by
  have hb := m.qi.big
  refine Len_any b g h P G r W m.rg q.length ?_ (by omega)
  rw [m.qi.c1, m.qi.c0, wrap_sub' _ _ (by omega) (by omega)]
  congr 1; omega
set_option maxHeartbeats 1000000 in
theorem waits_any (w : World) :
    Calls Try.prog 7 #[] w fun e w' => e = .returned (.bool true) ∧ Below w.heap.size w w' := by
  have hz0 : inr .u64 (0 : Int) := u64_inr (by omega)
  have hz5 : inr .u64 (5 : Int) := u64_inr (by omega)
  have hz6 : inr .u64 (6 : Int) := u64_inr (by omega)
  go_enter Try.func7, Try.ntmps7
  go_wp2_with fail
  refine (RgNew_yes 1 _ (by omega) (by omega)).mono ?_
  rintro e w1 ⟨b, g, h, rfl, bel, hb, hh, rg⟩
  have m1 : QM w b g h 1 [] 0 none none _ w1 := ⟨rg, .inl rfl, .inl rfl, q_new 1 (by omega), rfl, bel, hb, hh⟩
  clear rg bel
  go_wp2_with fail
  refine (Put_yes 5 b g h _ _ _ _ m1.rg m1.hp).mono ?_
  rintro e w2 ⟨nb, rfl, hnb, rg2, st2, up2⟩
  go_wp2_with fail
  refine (run_any b g h nb _ _ _ _ _ rg2 st2 rfl hz5 rfl).mono ?_
  rintro e w3 ⟨rfl, rs3, hd3⟩
  rcases m1.put hnb up2 rs3 hd3 (by decide) with ⟨hx, _⟩ | ⟨-, hfin, r3, m3⟩
  · simp at hx
  rw [hfin]
  clear hfin rs3 hd3 rg2 st2 up2 m1
  go_wp2_with fail
  refine (Put_yes 6 b g h _ _ _ _ m3.rg m3.hp).mono ?_
  rintro e w4 ⟨nb2, rfl, hnb2, rg4, st4, up4⟩
  go_wp2_with fail
  refine (run_any b g h nb2 _ _ _ _ _ rg4 st4 rfl hz6 rfl).mono ?_
  rintro e w5 ⟨rfl, rs5, hd5⟩
  rcases m3.put hnb2 up4 rs5 hd5 (by decide) with ⟨-, hfin, r5, m5⟩ | ⟨hx, _⟩
  rotate_left
  · simp at hx
  rw [hfin]
  clear hfin rs5 hd5 rg4 st4 up4 m3
  go_wp2_with fail
  refine (Get_yes b g h _ _ _ _ m5.rg m5.hg).mono ?_
  rintro e w6 ⟨nb3, rfl, hnb3, rg6, st6, up6⟩
  go_wp2_with fail
  refine (run_any b g h nb3 _ _ _ _ _ rg6 st6 rfl hz0 rfl).mono ?_
  rintro e w7 ⟨rfl, rs7, hd7⟩
  have st7 := rs7.st
  rcases m5.get hnb3 up6 rs7 hd7 with ⟨hx, _⟩ | ⟨x, t, hq, hfin, hval, r7, m7⟩
  · simp at hx
  simp at hq
  obtain ⟨rfl, rfl⟩ := hq
  rw [hfin]
  generalize (Rg.runF 3 r5 ⟨true, 0, 0, 11, false⟩).2 = s7 at *
  clear hfin rs7 hd7 rg6 st6 up6 m5
  replace hval := Lib.hid hval
  go_wp2_with fail
  refine (Get_yes b g h _ _ _ _ m7.rg m7.hg).mono ?_
  rintro e w8 ⟨nb4, rfl, hnb4, rg8, st8, up8⟩
  have st8' := Blk.upd st7 up8 (fun e => by subst e; exact (m7.rg.nes st7).1 rfl)
  go_wp2_with fail
  refine (run_any b g h nb4 _ _ _ _ _ rg8 st8 rfl hz0 rfl).mono ?_
  rintro e w9 ⟨rfl, rs9, hd9⟩
  have hne := rg8.nes (sb := nb3) (s := s7) st8'
  have hlt : nb3 < w7.heap.size := Blk.lt st7
  have st9 := Blk.upd st8' rs9.upd (by rintro (e | e | e) <;> omega)
  rcases m7.get hnb4 up8 rs9 hd9 with ⟨-, hfin, r9, m9⟩ | ⟨x, t, hq, _⟩
  rotate_left
  · simp at hq
  rw [hfin]
  clear hfin rs9 hd9 rg8 st8 up8 m7 st7 st8'
  go_wp2_with fail
  refine (Value_any nb3 s7 w9 st9).mono ?_
  rw [hval.out]
  rintro e w10 ⟨rfl, rfl⟩
  go_wp2_with fail
  go_ret
  exact ⟨rfl, m9.bel⟩
end Go.Proofs.Ytpkcajnlcpmmcaa
