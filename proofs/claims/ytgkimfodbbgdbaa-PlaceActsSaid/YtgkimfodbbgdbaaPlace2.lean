/- The walks of May, and of the reference's. -/
import Derived.Test.YtgkimfodbbgdbaaPlace
namespace Go.Proofs.Ytgkimfodbbgdbaa
set_option linter.unusedVariables false
set_option linter.unusedSimpArgs false
open Go.RowKit
theorem Blk.new1 (w : World) (o : Obj) (t : TypeId) (cs : Array Value) : Blk ((w.alloc o).alloc (.cells cs t)) (w.heap.size + 1) t cs := by
  have := Blk.new (w.alloc o) t cs
  rwa [World.size_alloc] at this
theorem May_no1 (a b c d e f g h : Int) (w : World) (h1 : decide (Wd.mk a b c d).ok = false) :
    Calls Try.prog 16 #[.agg #[.int .i64 a, .int .i64 b, .int .i64 c, .int .i64 d], .agg #[.int .i64 e, .int .i64 f, .int .i64 g, .int .i64 h]] w fun r w' => r = .returned (.bool false) ∧ Below w.heap.size w w' := by
  go_enter Try.func16, Try.ntmps16
  go_wp2_with fail
  refine (right_any _ _ _ _ _).mono ?_
  rw [h1]
  rintro r w1 ⟨rfl, b1⟩
  go_wp2_with fail
  go_ret
  exact ⟨rfl, bel_after ((bel_alloc _ _).alloc (by simp) _) b1⟩
theorem May_no2 (a b c d e f g h : Int) (w : World) (h1 : decide (Wd.mk a b c d).ok = true) (h2 : decide (Wd.mk e f g h).ok = false) :
    Calls Try.prog 16 #[.agg #[.int .i64 a, .int .i64 b, .int .i64 c, .int .i64 d], .agg #[.int .i64 e, .int .i64 f, .int .i64 g, .int .i64 h]] w fun r w' => r = .returned (.bool false) ∧ Below w.heap.size w w' := by
  go_enter Try.func16, Try.ntmps16
  go_wp2_with fail
  refine (right_any _ _ _ _ _).mono ?_
  rw [h1]
  rintro r w1 ⟨rfl, b1⟩
  have bw := bel_after ((bel_alloc w (.cells #[.int .i64 a, .int .i64 b, .int .i64 c, .int .i64 d] 28)).alloc (by simp) _) b1
  have k2 := (Blk.new1 w (.cells #[.int .i64 a, .int .i64 b, .int .i64 c, .int .i64 d] 28) 28 #[.int .i64 e, .int .i64 f, .int .i64 g, .int .i64 h]).bel b1
  have e0 := k2.cell 0
  have e1 := k2.cell 1
  have e2 := k2.cell 2
  have e3 := k2.cell 3
  go_wp2_with fail
  refine (right_any _ _ _ _ _).mono ?_
  rw [h2]
  rintro r w2 ⟨rfl, b2⟩
  go_wp2_with fail
  go_ret
  exact ⟨rfl, bel_after bw b2⟩
set_option maxHeartbeats 400000 in
theorem May_22 (b c d f g h : Int) (w : World) (h1 : decide (Wd.mk 2 b c d).ok = true) (h2 : decide (Wd.mk 2 f g h).ok = true) :
    Calls Try.prog 16 #[.agg #[.int .i64 2, .int .i64 b, .int .i64 c, .int .i64 d], .agg #[.int .i64 2, .int .i64 f, .int .i64 g, .int .i64 h]] w fun r w' => r = .returned (.bool (decide ((Wd.mk 2 b c d).may (Wd.mk 2 f g h)))) ∧ Below w.heap.size w w' := by
  have o1 := of_decide_eq_true h1
  have o2 := of_decide_eq_true h2
  rcases Bool.eq_false_or_eq_true (f == b) with hfb | hfb
  · have hd : decide ((Wd.mk 2 b c d).may (Wd.mk 2 f g h)) = decide (d ≤ h) := by
      rw [beq_iff_eq] at hfb
      by_cases hh : d ≤ h
      · rw [decide_eq_true hh]; exact decide_eq_true ⟨o1, o2, by (first | (simp [Wd.same]; done) | (simp [Wd.same]; omega))⟩
      · rw [decide_eq_false hh]; refine decide_eq_false ?_; rintro ⟨_, _, hm⟩; (first | (simp [Wd.same] at hm; done) | (simp [Wd.same] at hm; omega))
    rw [hd]
    clear hd o1 o2
    go_enter Try.func16, Try.ntmps16
    go_wp2_with fail
    refine (right_any _ _ _ _ _).mono ?_
    rw [h1]
    rintro r w1 ⟨rfl, b1⟩
    have bw := bel_after ((bel_alloc w (.cells #[.int .i64 2, .int .i64 b, .int .i64 c, .int .i64 d] 28)).alloc (by simp) _) b1
    have k1 := ((Blk.new w 28 #[.int .i64 2, .int .i64 b, .int .i64 c, .int .i64 d]).alloc (.cells #[.int .i64 2, .int .i64 f, .int .i64 g, .int .i64 h] 28)).bel b1
    have k2 := (Blk.new1 w (.cells #[.int .i64 2, .int .i64 b, .int .i64 c, .int .i64 d] 28) 28 #[.int .i64 2, .int .i64 f, .int .i64 g, .int .i64 h]).bel b1
    have e0 := k2.cell 0
    have e1 := k2.cell 1
    have e2 := k2.cell 2
    have e3 := k2.cell 3
    clear b1
    go_wp2_with fail
    refine (right_any _ _ _ _ _).mono ?_
    rw [h2]
    rintro r w2 ⟨rfl, b2⟩
    replace k1 := k1.bel b2
    replace k2 := k2.bel b2
    replace bw := bel_after bw b2
    clear e0 e1 e2 e3 b2
    have e0 := k2.cell 0
    have e1 := k2.cell 1
    have e2 := k2.cell 2
    have e3 := k2.cell 3
    have k0' := k1.cell 0
    have k1' := k1.cell 1
    have k2' := k1.cell 2
    have k3' := k1.cell 3
    have z1 := k1.lt
    have z2 := k2.lt
    go_wp2_with fail
    all_goals
      go_ret
      refine ⟨ret_bool ?_, bw.alloc bw.size _⟩
    rfl
  · have hd : decide ((Wd.mk 2 b c d).may (Wd.mk 2 f g h)) = false := by
      have : ¬ f = b := by simpa using hfb
      refine decide_eq_false ?_; rintro ⟨_, _, hm⟩; (first | (simp [Wd.same] at hm; done) | (simp [Wd.same] at hm; omega))
    rw [hd]
    clear hd o1 o2
    go_enter Try.func16, Try.ntmps16
    go_wp2_with fail
    refine (right_any _ _ _ _ _).mono ?_
    rw [h1]
    rintro r w1 ⟨rfl, b1⟩
    have bw := bel_after ((bel_alloc w (.cells #[.int .i64 2, .int .i64 b, .int .i64 c, .int .i64 d] 28)).alloc (by simp) _) b1
    have k1 := ((Blk.new w 28 #[.int .i64 2, .int .i64 b, .int .i64 c, .int .i64 d]).alloc (.cells #[.int .i64 2, .int .i64 f, .int .i64 g, .int .i64 h] 28)).bel b1
    have k2 := (Blk.new1 w (.cells #[.int .i64 2, .int .i64 b, .int .i64 c, .int .i64 d] 28) 28 #[.int .i64 2, .int .i64 f, .int .i64 g, .int .i64 h]).bel b1
    have e0 := k2.cell 0
    have e1 := k2.cell 1
    have e2 := k2.cell 2
    have e3 := k2.cell 3
    clear b1
    go_wp2_with fail
    refine (right_any _ _ _ _ _).mono ?_
    rw [h2]
    rintro r w2 ⟨rfl, b2⟩
    replace k1 := k1.bel b2
    replace k2 := k2.bel b2
    replace bw := bel_after bw b2
    clear e0 e1 e2 e3 b2
    have e0 := k2.cell 0
    have e1 := k2.cell 1
    have e2 := k2.cell 2
    have e3 := k2.cell 3
    have k0' := k1.cell 0
    have k1' := k1.cell 1
    have k2' := k1.cell 2
    have k3' := k1.cell 3
    have z1 := k1.lt
    have z2 := k2.lt
    go_wp2_with fail
    all_goals
      go_ret
      refine ⟨ret_bool ?_, bw.alloc bw.size _⟩
    rfl
set_option maxHeartbeats 400000 in
theorem May_01 (b c d f g h : Int) (w : World) (h1 : decide (Wd.mk 0 b c d).ok = true) (h2 : decide (Wd.mk 1 f g h).ok = true) :
    Calls Try.prog 16 #[.agg #[.int .i64 0, .int .i64 b, .int .i64 c, .int .i64 d], .agg #[.int .i64 1, .int .i64 f, .int .i64 g, .int .i64 h]] w fun r w' => r = .returned (.bool (decide ((Wd.mk 0 b c d).may (Wd.mk 1 f g h)))) ∧ Below w.heap.size w w' := by
  have o1 := of_decide_eq_true h1
  have o2 := of_decide_eq_true h2
  have o1' := o1
  unfold Wd.ok at o1'
  simp only at o1'
  have hm := i64_and65535 (b + 1) (by omega) (by omega)
  have hw : IntKind.i64.wrap (b + 1) = b + 1 := by rw [IntKind.wrap_i64]; omega
  have hd : decide ((Wd.mk 0 b c d).may (Wd.mk 1 f g h)) = (f == (b + 1) % 65536) := by
    by_cases hh : f = (b + 1) % 65536
    · rw [beq_iff_eq.2 hh]; exact decide_eq_true ⟨o1, o2, by (first | (simp [Wd.same]; done) | (simp [Wd.same]; omega))⟩
    · rw [beq_eq_false_iff_ne.2 hh]; refine decide_eq_false ?_; rintro ⟨_, _, hm⟩; (first | (simp [Wd.same] at hm; done) | (simp [Wd.same] at hm; omega))
  rw [hd]
  clear hd o1 o2
  have o3 := o1'.2.1.1
  have o4 := o1'.2.1.2
  clear o1'
  generalize (b + 1) % 65536 = x at *
  go_enter Try.func16, Try.ntmps16
  go_wp2_with fail
  refine (right_any _ _ _ _ _).mono ?_
  rw [h1]
  rintro r w1 ⟨rfl, b1⟩
  have bw := bel_after ((bel_alloc w (.cells #[.int .i64 0, .int .i64 b, .int .i64 c, .int .i64 d] 28)).alloc (by simp) _) b1
  have k1 := ((Blk.new w 28 #[.int .i64 0, .int .i64 b, .int .i64 c, .int .i64 d]).alloc (.cells #[.int .i64 1, .int .i64 f, .int .i64 g, .int .i64 h] 28)).bel b1
  have k2 := (Blk.new1 w (.cells #[.int .i64 0, .int .i64 b, .int .i64 c, .int .i64 d] 28) 28 #[.int .i64 1, .int .i64 f, .int .i64 g, .int .i64 h]).bel b1
  have e0 := k2.cell 0
  have e1 := k2.cell 1
  have e2 := k2.cell 2
  have e3 := k2.cell 3
  clear b1
  go_wp2_with fail
  refine (right_any _ _ _ _ _).mono ?_
  rw [h2]
  rintro r w2 ⟨rfl, b2⟩
  replace k1 := k1.bel b2
  replace k2 := k2.bel b2
  replace bw := bel_after bw b2
  clear e0 e1 e2 e3 b2
  have e0 := k2.cell 0
  have e1 := k2.cell 1
  have e2 := k2.cell 2
  have e3 := k2.cell 3
  have k0' := k1.cell 0
  have k1' := k1.cell 1
  have k2' := k1.cell 2
  have k3' := k1.cell 3
  have z1 := k1.lt
  have z2 := k2.lt
  go_wp2_with fail
  all_goals
    go_ret
    refine ⟨ret_bool ?_, bw.alloc bw.size _⟩
  rfl
set_option maxHeartbeats 4000000 in
theorem May_rest (a b c d e f g h : Int) (w : World) (h1 : decide (Wd.mk a b c d).ok = true) (h2 : decide (Wd.mk e f g h).ok = true) (n1 : ¬ (a = 2 ∧ e = 2)) (n2 : ¬ (a = 0 ∧ e = 1)) :
    Calls Try.prog 16 #[.agg #[.int .i64 a, .int .i64 b, .int .i64 c, .int .i64 d], .agg #[.int .i64 e, .int .i64 f, .int .i64 g, .int .i64 h]] w fun r w' => r = .returned (.bool (decide ((Wd.mk a b c d).may (Wd.mk e f g h)))) ∧ Below w.heap.size w w' := by
  have o1 := of_decide_eq_true h1
  have o2 := of_decide_eq_true h2
  have ha : a = 0 ∨ a = 1 ∨ a = 2 ∨ a = 3 := by have := o1.1; simp only at this; omega
  have he : e = 0 ∨ e = 1 ∨ e = 2 ∨ e = 3 := by have := o2.1; simp only at this; omega
  rcases ha with rfl | rfl | rfl | rfl <;> rcases he with rfl | rfl | rfl | rfl <;> (try omega)
  all_goals
    clear n1 n2
    go_enter Try.func16, Try.ntmps16
    go_wp2_with fail
    refine (right_any _ _ _ _ _).mono ?_
    rw [h1]
    rintro r w1 ⟨rfl, b1⟩
    have bw := bel_after ((bel_alloc w (.cells #[.int .i64 _, .int .i64 b, .int .i64 c, .int .i64 d] 28)).alloc (by simp) _) b1
    have k1 := ((Blk.new w 28 #[.int .i64 _, .int .i64 b, .int .i64 c, .int .i64 d]).alloc (.cells #[.int .i64 _, .int .i64 f, .int .i64 g, .int .i64 h] 28)).bel b1
    have k2 := (Blk.new1 w (.cells #[.int .i64 _, .int .i64 b, .int .i64 c, .int .i64 d] 28) 28 #[.int .i64 _, .int .i64 f, .int .i64 g, .int .i64 h]).bel b1
    have e0 := k2.cell 0
    have e1 := k2.cell 1
    have e2 := k2.cell 2
    have e3 := k2.cell 3
    clear b1
    go_wp2_with fail
    refine (right_any _ _ _ _ _).mono ?_
    rw [h2]
    rintro r w2 ⟨rfl, b2⟩
    replace k1 := k1.bel b2
    replace k2 := k2.bel b2
    replace bw := bel_after bw b2
    clear e0 e1 e2 e3 b2
    have e0 := k2.cell 0
    have e1 := k2.cell 1
    have e2 := k2.cell 2
    have e3 := k2.cell 3
    have k0' := k1.cell 0
    have k1' := k1.cell 1
    have k2' := k1.cell 2
    have k3' := k1.cell 3
    have z1 := k1.lt
    have z2 := k2.lt
    go_wp2_with fail
    all_goals
      go_ret
      refine ⟨ret_bool ?_, bw.alloc bw.size _⟩
    all_goals (first | (apply Eq.symm; refine decide_eq_true ?_; exact ⟨o1, o2, by (first | (simp [Wd.same]; done) | (simp [Wd.same]; omega))⟩) | (apply Eq.symm; refine decide_eq_false ?_; rintro ⟨_, _, hm⟩; (first | (simp [Wd.same] at hm; done) | (simp [Wd.same] at hm; omega))))
theorem May_any (a b c d e f g h : Int) (w : World) :
    Calls Try.prog 16 #[.agg #[.int .i64 a, .int .i64 b, .int .i64 c, .int .i64 d], .agg #[.int .i64 e, .int .i64 f, .int .i64 g, .int .i64 h]] w fun r w' => r = .returned (.bool (decide ((Wd.mk a b c d).may (Wd.mk e f g h)))) ∧ Below w.heap.size w w' := by
  rcases Bool.eq_false_or_eq_true (decide (Wd.mk a b c d).ok) with h1 | h1
  rotate_left
  · rw [show decide ((Wd.mk a b c d).may (Wd.mk e f g h)) = false from decide_eq_false fun hm => of_decide_eq_false h1 hm.1]
    exact May_no1 a b c d e f g h w h1
  rcases Bool.eq_false_or_eq_true (decide (Wd.mk e f g h).ok) with h2 | h2
  rotate_left
  · rw [show decide ((Wd.mk a b c d).may (Wd.mk e f g h)) = false from decide_eq_false fun hm => of_decide_eq_false h2 hm.2.1]
    exact May_no2 a b c d e f g h w h1 h2
  by_cases n1 : a = 2 ∧ e = 2
  · obtain ⟨rfl, rfl⟩ := n1
    exact May_22 b c d f g h w h1 h2
  by_cases n2 : a = 0 ∧ e = 1
  · obtain ⟨rfl, rfl⟩ := n2
    exact May_01 b c d f g h w h1 h2
  exact May_rest a b c d e f g h w h1 h2 n1 n2
end Go.Proofs.Ytgkimfodbbgdbaa
