/- What the laws' proofs lean on: plain facts and contracts of the program's functions, laid together (4). -/
import Derived.Test.YtilhkhnjloplfaaGreatDoorPp03
import Derived.Test.YtilhkhnjloplfaaGreatDoorPp01
namespace Go.Proofs.YtilhkhnjloplfaaGreatDoor
set_option linter.unusedVariables false
set_option linter.unusedSimpArgs false
open Go.RowKit
/-- the object at block p, its Cells at block g, their row at block h: n places, whose cells are the list l -/
structure Pl (w : World) (p g h : Nat) (n : Nat) (l : List Int) : Prop where
  obj : Blk w p 61 #[.pointer (some ⟨g, 0, none⟩)]
  cel : Cel w g h l
  len : l.length = 2 * n
section
variable {w w' : World} {p g h n : Nat} {l : List Int}
theorem Pl.upd {S : Nat → Prop} (hp : Pl w p g h n l) (hu : Upd S w w') (h0 : ¬ S p) (h1 : ¬ S g) (h2 : ¬ S h) : Pl w' p g h n l := ⟨hp.obj.upd hu h0, hp.cel.upd hu h1 h2, hp.len⟩
theorem Pl.bel (hp : Pl w p g h n l) (hb : Below w.heap.size w w') : Pl w' p g h n l := ⟨hp.obj.bel hb, hp.cel.bel hb, hp.len⟩
theorem Pl.drewN (hp : Pl w p g h n l) (m : Nat) : Pl (w.drewN m) p g h n l := ⟨hp.obj, hp.cel.drewN m, hp.len⟩
theorem Pl.alloc (hp : Pl w p g h n l) (o : Obj) : Pl (w.alloc o) p g h n l := ⟨hp.obj.alloc o, hp.cel.alloc o, hp.len⟩
theorem Pl.ph (hp : Pl w p g h n l) : p ≠ h := hp.obj.ne_ hp.cel.row (by decide)
end
theorem PlSize_any (p g h n : Nat) (l : List Int) (w : World) (hp : Pl w p g h n l) (hn : n ≤ 3072) :
    Calls Tryz.prog 32 #[.pointer (some ⟨p, 0, none⟩)] w fun e w' => e = .returned (.int .i64 n) ∧ w = w' := by
  have hS := Size_any g h l w hp.cel
  rw [hp.len] at hS
  have e0 := hp.obj.cell 0
  have ht : ((2 * n : Nat) : Int).tdiv 2 = (n : Int) := by rw [Int.tdiv_eq_ediv_of_nonneg (by omega)]; omega
  replace hS := Lib.hid hS
  go_enter Tryz.func32, Tryz.ntmps32
  go_wp2_with fail
  refine hS.out.mono ?_
  rintro e w' ⟨rfl, rfl⟩
  go_wp2
  go_ret
  exact ⟨rfl, rfl⟩
theorem there_any (i : Int) (p g h n : Nat) (l : List Int) (w : World) (hp : Pl w p g h n l) (hn : n ≤ 3072) :
    Calls Tryz.prog 24 #[.pointer (some ⟨p, 0, none⟩), .int .i64 i] w fun e w' => e = .returned (.bool (decide (0 ≤ i ∧ i < n))) ∧ w = w' := by
  by_cases h0 : 0 ≤ i
  · have hd : decide (0 ≤ i) = true := by simpa using h0
    have hr : decide (0 ≤ i ∧ i < n) = decide (i < n) := by simp [h0]
    rw [hr]
    go_enter Tryz.func24, Tryz.ntmps24
    go_wp2_with fail
    refine (PlSize_any _ _ _ _ _ _ hp hn).mono ?_
    rintro e w' ⟨rfl, rfl⟩
    go_wp2
    go_ret
    exact ⟨rfl, rfl⟩
  · have hd : decide (0 ≤ i) = false := by simpa using h0
    have hr : decide (0 ≤ i ∧ i < n) = false := by simp [h0]
    rw [hr]
    go_enter Tryz.func24, Tryz.ntmps24
    go_wp2
    go_ret
    exact ⟨rfl, rfl⟩
theorem wd_out {l : List Int} {n : Nat} {i : Int} (hl : l.length = 2 * n) (h : ¬ (0 ≤ i ∧ i < n)) : celAt l (2 * i) = 0 := by
  unfold celAt; rw [if_neg (by omega)]
theorem celAt_rng {w : World} {g h : Nat} {l : List Int} (hc : Cel w g h l) (i : Int) : 0 ≤ celAt l i ∧ celAt l i ≤ 18446744073709551615 := by
  unfold celAt
  split
  · rename_i h; exact (hc.at_ (k := i.toNat) (by omega)).2.2
  · omega
theorem PlLoad_any (i : Int) (p g h n : Nat) (l : List Int) (w : World) (hp : Pl w p g h n l) (hn : n ≤ 3072) :
    Calls Tryz.prog 8 #[.pointer (some ⟨p, 0, none⟩), .int .i64 i] w fun e w' => e = .returned (unW (celAt l (2 * i))).val ∧ Below w.heap.size w w' := by
  have hb := celAt_rng hp.cel (2 * i)
  by_cases hi : 0 ≤ i ∧ i < n
  · have hd : decide (0 ≤ i ∧ i < n) = true := by simpa using hi
    have hw : IntKind.i64.wrap (2 * i) = 2 * i := by rw [IntKind.wrap_i64]; omega
    have hT := fun W (hW : Pl W p g h n l) => there_any i p g h n l W hW hn
    rw [hd] at hT
    have hL := fun W (hW : Pl W p g h n l) => Load_any (2 * i) g h l W hW.cel (by rw [hW.len]; omega)
    obtain ⟨c, hc⟩ : ∃ c, c = celAt l (2 * i) := ⟨_, rfl⟩
    rw [← hc] at hb hL ⊢
    have hU := fun W => Unpack_any c W hb
    have hv : (unW c).val = .agg #[.int .i64 (c % 4), .int .i64 (c / 65536 % 65536), .int .i64 (c / 256 % 8), .int .i64 (c / 4294967296)] := rfl
    rw [hv] at hU ⊢
    replace hT := Lib.hid hT
    replace hL := Lib.hid hL
    replace hU := Lib.hid hU
    clear hd hv hc
    have hp1 := hp.alloc (.cells #[.int .i64 0, .int .i64 0, .int .i64 0, .int .i64 0] 41)
    go_enter Tryz.func8, Tryz.ntmps8
    go_wp2_with fail
    refine (hT.out _ hp1).mono ?_
    rintro e w' ⟨rfl, rfl⟩
    have e0 := hp1.obj.cell 0
    go_wp2_with fail
    refine (hL.out _ hp1).mono ?_
    rintro e w' ⟨rfl, rfl⟩
    go_wp2_with fail
    refine (hU.out _).mono ?_
    rintro e w2 ⟨rfl, b2⟩
    have k2 := (Blk.new w 41 #[.int .i64 0, .int .i64 0, .int .i64 0, .int .i64 0]).bel b2
    have c0 := k2.cell 0
    have c1 := k2.cell 1
    have c2 := k2.cell 2
    have c3 := k2.cell 3
    have f0 := k2.frozen 0
    have f1 := k2.frozen 1
    have f2 := k2.frozen 2
    have f3 := k2.frozen 3
    go_wp2_with fail
    exact bodyPost_ret (v := .agg #[.int .i64 (c % 4), .int .i64 (c / 65536 % 65536), .int .i64 (c / 256 % 8), .int .i64 (c / 4294967296)]) (by simp [results, Tryz.results8, go_sem, c0, c1, c2, c3, f0, f1, f2, f3]) rfl ⟨rfl, by have := bel_after (bel_alloc _ _) b2; (repeat (first | (with_reducible exact this) | (with_reducible refine Below.setCell ?_ ?_ _; rotate_left; · (first | omega | (simp; done) | (simp; omega) | (have hsz := Below.size this; omega) | (have hsz := Below.size this; simp; omega))) | (with_reducible refine Below.alloc ?_ ?_ _; rotate_left; · (first | omega | (simp; done) | (simp; omega) | (have hsz := Below.size this; omega) | (have hsz := Below.size this; simp; omega))) | (with_reducible refine below_drewN ?_ _) | (with_reducible refine Below.drew ?_)))⟩
  · have hd : decide (0 ≤ i ∧ i < n) = false := by simpa using hi
    have hT := fun W (hW : Pl W p g h n l) => there_any i p g h n l W hW hn
    rw [hd] at hT
    rw [wd_out hp.len hi]
    have hv : (unW 0).val = .agg #[.int .i64 0, .int .i64 0, .int .i64 0, .int .i64 0] := rfl
    rw [hv]
    replace hT := Lib.hid hT
    have hp1 := hp.alloc (.cells #[.int .i64 0, .int .i64 0, .int .i64 0, .int .i64 0] 41)
    go_enter Tryz.func8, Tryz.ntmps8
    go_wp2_with fail
    refine (hT.out _ hp1).mono ?_
    rintro e w' ⟨rfl, rfl⟩
    go_wp2
    exact bodyPost_ret (v := .agg #[.int .i64 0, .int .i64 0, .int .i64 0, .int .i64 0]) (by simp [results, Tryz.results8, go_sem]) rfl ⟨rfl, by have := bel_alloc w (.cells #[.int .i64 0, .int .i64 0, .int .i64 0, .int .i64 0] 41); (repeat (first | (with_reducible exact this) | (with_reducible refine Below.setCell ?_ ?_ _; rotate_left; · (first | omega | (simp; done) | (simp; omega) | (have hsz := Below.size this; omega) | (have hsz := Below.size this; simp; omega))) | (with_reducible refine Below.alloc ?_ ?_ _; rotate_left; · (first | omega | (simp; done) | (simp; omega) | (have hsz := Below.size this; omega) | (have hsz := Below.size this; simp; omega))) | (with_reducible refine below_drewN ?_ _) | (with_reducible refine Below.drew ?_)))⟩
/-- the list behind a Cas -/
def casL (l : List Int) (i : Int) (v : Int) (b : Bool) : List Int := if b then celSet l (2 * i) v else l
theorem casL_len (l : List Int) (i v : Int) (b : Bool) : (casL l i v b).length = l.length := by unfold casL; split <;> simp [celSet_length]
set_option maxHeartbeats 400000 in
theorem PlCas_no1 (i : Int) (a b c d e f g' h' : Int) (p g h n : Nat) (l : List Int) (w : World) (hp : Pl w p g h n l) (hn : n ≤ 3072) (hi : ¬ (0 ≤ i ∧ i < n)) :
    Calls Tryz.prog 9 #[.pointer (some ⟨p, 0, none⟩), .int .i64 i, .agg #[.int .i64 a, .int .i64 b, .int .i64 c, .int .i64 d], .agg #[.int .i64 e, .int .i64 f, .int .i64 g', .int .i64 h']] w fun r w' => r = .returned (.bool false) ∧ Below w.heap.size w w' := by
  have hd : decide (0 ≤ i ∧ i < n) = false := by simpa using hi
  have hT := fun W (hW : Pl W p g h n l) => there_any i p g h n l W hW hn
  rw [hd] at hT
  replace hT := Lib.hid hT
  clear hd
  have hp1 := (hp.alloc (.cells #[.int .i64 a, .int .i64 b, .int .i64 c, .int .i64 d] 41)).alloc (.cells #[.int .i64 e, .int .i64 f, .int .i64 g', .int .i64 h'] 41)
  have bw := (bel_alloc w (.cells #[.int .i64 a, .int .i64 b, .int .i64 c, .int .i64 d] 41)).alloc (by simp) (.cells #[.int .i64 e, .int .i64 f, .int .i64 g', .int .i64 h'] 41)
  go_enter Tryz.func9, Tryz.ntmps9
  go_wp2_with fail
  generalize (w.alloc (.cells #[.int .i64 a, .int .i64 b, .int .i64 c, .int .i64 d] 41)).alloc (.cells #[.int .i64 e, .int .i64 f, .int .i64 g', .int .i64 h'] 41) = W at *
  have hS : ∀ t : Tw (fun w' => ∃ m, w' = W.drewN m), Pl t.w p g h n l := fun t => by obtain ⟨w', m, rfl⟩ := t; exact hp1.drewN m
  have : Nonempty (Tw (fun w' => ∃ m, w' = W.drewN m)) := ⟨⟨W, 0, rfl⟩⟩
  refine region_tw (fun w' => ∃ m, w' = W.drewN m) (by kernel_rfl) (by kernel_rfl) ⟨1, rfl⟩ ?_
  unfold clsS
  repeat (first
    | go_big_quiet_skip
    | (go_big_quiet_want; go_big_quiet_op; first | go_big_quiet_on | go_big_quiet_call (
      (go_at_call 24; exact q_tw_same (hT.out _ (hS _))))))
  refine wpQuiet_nil ?_
  intro tq
  go_wp2
  go_ret
  obtain ⟨w', m, rfl⟩ := tq
  exact ⟨rfl, below_drewN bw m⟩
set_option maxHeartbeats 400000 in
theorem PlCas_no2 (i : Int) (a b c d e f g' h' : Int) (p g h n : Nat) (l : List Int) (w : World) (hp : Pl w p g h n l) (hn : n ≤ 3072) (hi : 0 ≤ i ∧ i < n) (hm : ¬ (Wd.mk a b c d).may (Wd.mk e f g' h')) :
    Calls Tryz.prog 9 #[.pointer (some ⟨p, 0, none⟩), .int .i64 i, .agg #[.int .i64 a, .int .i64 b, .int .i64 c, .int .i64 d], .agg #[.int .i64 e, .int .i64 f, .int .i64 g', .int .i64 h']] w fun r w' => r = .returned (.bool false) ∧ Below w.heap.size w w' := by
  have hT := fun W (hW : Pl W p g h n l) => there_any i p g h n l W hW hn
  rw [show decide (0 ≤ i ∧ i < n) = true by simpa using hi] at hT
  replace hT := Lib.hid hT
  have hM := fun W => May_any a b c d e f g' h' W
  rw [show decide ((Wd.mk a b c d).may (Wd.mk e f g' h')) = false by simpa using hm] at hM
  replace hM := Lib.hid hM
  have hp1 := (hp.alloc (.cells #[.int .i64 a, .int .i64 b, .int .i64 c, .int .i64 d] 41)).alloc (.cells #[.int .i64 e, .int .i64 f, .int .i64 g', .int .i64 h'] 41)
  have bw := (bel_alloc w (.cells #[.int .i64 a, .int .i64 b, .int .i64 c, .int .i64 d] 41)).alloc (by simp) (.cells #[.int .i64 e, .int .i64 f, .int .i64 g', .int .i64 h'] 41)
  have k1 := (Blk.new w 41 #[.int .i64 a, .int .i64 b, .int .i64 c, .int .i64 d]).alloc (.cells #[.int .i64 e, .int .i64 f, .int .i64 g', .int .i64 h'] 41)
  have k2 := Blk.new1 w (.cells #[.int .i64 a, .int .i64 b, .int .i64 c, .int .i64 d] 41) 41 #[.int .i64 e, .int .i64 f, .int .i64 g', .int .i64 h']
  go_enter Tryz.func9, Tryz.ntmps9
  go_wp2_with fail
  generalize (w.alloc (.cells #[.int .i64 a, .int .i64 b, .int .i64 c, .int .i64 d] 41)).alloc (.cells #[.int .i64 e, .int .i64 f, .int .i64 g', .int .i64 h'] 41) = W at *
  have hph := hp1.obj.lt
  have hS : ∀ t : Tw (fun w' => Below W.heap.size W w'), Pl t.w p g h n l := fun t => hp1.bel t.h
  have e0 : ∀ t : Tw (fun w' => Below W.heap.size W w'), t.w.cell? ⟨p, 0, none⟩ = some (.pointer (some ⟨g, 0, none⟩)) := fun t => hp1.obj.tw hph t 0
  have x0 : ∀ t : Tw (fun w' => Below W.heap.size W w'), t.w.cell? ⟨w.heap.size, 0, none⟩ = some (.int .i64 a) := fun t => k1.tw k1.lt t 0
  have x1 : ∀ t : Tw (fun w' => Below W.heap.size W w'), t.w.cell? ⟨w.heap.size, 1, none⟩ = some (.int .i64 b) := fun t => k1.tw k1.lt t 1
  have x2 : ∀ t : Tw (fun w' => Below W.heap.size W w'), t.w.cell? ⟨w.heap.size, 2, none⟩ = some (.int .i64 c) := fun t => k1.tw k1.lt t 2
  have x3 : ∀ t : Tw (fun w' => Below W.heap.size W w'), t.w.cell? ⟨w.heap.size, 3, none⟩ = some (.int .i64 d) := fun t => k1.tw k1.lt t 3
  have y0 : ∀ t : Tw (fun w' => Below W.heap.size W w'), t.w.cell? ⟨w.heap.size + 1, 0, none⟩ = some (.int .i64 e) := fun t => k2.tw k2.lt t 0
  have y1 : ∀ t : Tw (fun w' => Below W.heap.size W w'), t.w.cell? ⟨w.heap.size + 1, 1, none⟩ = some (.int .i64 f) := fun t => k2.tw k2.lt t 1
  have y2 : ∀ t : Tw (fun w' => Below W.heap.size W w'), t.w.cell? ⟨w.heap.size + 1, 2, none⟩ = some (.int .i64 g') := fun t => k2.tw k2.lt t 2
  have y3 : ∀ t : Tw (fun w' => Below W.heap.size W w'), t.w.cell? ⟨w.heap.size + 1, 3, none⟩ = some (.int .i64 h') := fun t => k2.tw k2.lt t 3
  have : Nonempty (Tw (fun w' => Below W.heap.size W w')) := ⟨⟨W, Below.refl _ _⟩⟩
  refine region_tw (fun w' => Below (W).heap.size (W) w') (by kernel_rfl) (by kernel_rfl) (Below.refl _ _).drew ?_
  unfold clsS
  repeat (first
    | go_big_quiet_skip
    | (go_big_quiet_want; go_big_quiet_op; first | go_big_quiet_on | go_big_quiet_call (
      (first 
      | (go_at_call 24; exact q_tw_same (hT.out _ (hS _)))
      | (go_at_call 27; exact q_tw (Nat.le_refl _) (hM.out _))))))
  refine wpQuiet_nil ?_
  intro tq
  go_wp2
  go_ret
  exact ⟨rfl, bel_after bw tq.h⟩
set_option maxHeartbeats 400000 in
theorem PlCas_yes (i : Int) (a b c d e f g' h' : Int) (p g h n : Nat) (l : List Int) (w : World) (hp : Pl w p g h n l) (hn : n ≤ 3072) (hi : 0 ≤ i ∧ i < n) (hm : (Wd.mk a b c d).may (Wd.mk e f g' h')) (B : Bool) (hB : decide (celAt l (2 * i) = (Wd.mk a b c d).num) = B) :
    Calls Tryz.prog 9 #[.pointer (some ⟨p, 0, none⟩), .int .i64 i, .agg #[.int .i64 a, .int .i64 b, .int .i64 c, .int .i64 d], .agg #[.int .i64 e, .int .i64 f, .int .i64 g', .int .i64 h']] w fun r w' => r = .returned (.bool B) ∧ Pl w' p g h n (casL l i (Wd.mk e f g' h').num B) ∧ Upd (· = h) w w' := by
  have hT := fun W (hW : Pl W p g h n l) => there_any i p g h n l W hW hn
  rw [show decide (0 ≤ i ∧ i < n) = true by simpa using hi] at hT
  replace hT := Lib.hid hT
  have hM := fun W => May_any a b c d e f g' h' W
  rw [show decide ((Wd.mk a b c d).may (Wd.mk e f g' h')) = true by simpa using hm] at hM
  replace hM := Lib.hid hM
  have hN1 := Lib.hid hm.1
  have hN2 := Lib.hid hm.2.1
  have hb2 := num_bd hm.2.1
  have hw : IntKind.i64.wrap (2 * i) = 2 * i := by rw [IntKind.wrap_i64]; omega
  have hC : ∀ W W' : World, Pl W p g h n l → Below W.heap.size W W' → Calls Tryz.prog 28 #[.pointer (some ⟨g, 0, none⟩), .int .i64 (2 * i), .int .u64 (Wd.mk a b c d).num, .int .u64 (Wd.mk e f g' h').num] W' fun r w' => r = .returned (.bool B) ∧ (Pl w' p g h n (casL l i (Wd.mk e f g' h').num B) ∧ Upd (· = h) W w') := fun W W' hW hb => by
    have hW' := hW.bel hb
    refine (Cas_any (2 * i) (Wd.mk a b c d).num (Wd.mk e f g' h').num g h l W' hW'.cel (by rw [hW.len]; omega) (u64_inr hb2)).mono fun r w' ⟨h1, h2, h3⟩ => ?_
    have hx : decide (0 ≤ 2 * i ∧ 2 * i < l.length ∧ celAt l (2 * i) = (Wd.mk a b c d).num) = B := by rw [← hB]; simp only [hW.len]; congr 1; apply propext; constructor; exact fun h => h.2.2; exact fun h => ⟨by omega, by omega, h⟩
    refine ⟨by rw [h1, hx], ⟨hW'.obj.upd h3 (hW'.ph), ?_, by rw [casL_len]; exact hW.len⟩, ⟨h3.os.trans hb.os, h3.tape.trans hb.tape, h3.output.trans hb.output, Nat.le_trans hb.size h3.size, fun k hk hne => (h3.block k (Nat.lt_of_lt_of_le hk hb.size) hne).trans (hb.block k hk)⟩⟩
    unfold casL
    rw [← hx]
    by_cases hq : 0 ≤ 2 * i ∧ 2 * i < l.length ∧ celAt l (2 * i) = (Wd.mk a b c d).num
    · rw [if_pos hq] at h2; rw [decide_eq_true hq, if_pos rfl]; exact h2
    · rw [if_neg hq] at h2; rw [decide_eq_false hq, if_neg (by simp)]; exact h2
  replace hC := Lib.hid hC
  clear hb2 hB hm
  have hp1 := (hp.alloc (.cells #[.int .i64 a, .int .i64 b, .int .i64 c, .int .i64 d] 41)).alloc (.cells #[.int .i64 e, .int .i64 f, .int .i64 g', .int .i64 h'] 41)
  have bw := (bel_alloc w (.cells #[.int .i64 a, .int .i64 b, .int .i64 c, .int .i64 d] 41)).alloc (by simp) (.cells #[.int .i64 e, .int .i64 f, .int .i64 g', .int .i64 h'] 41)
  have k1 := (Blk.new w 41 #[.int .i64 a, .int .i64 b, .int .i64 c, .int .i64 d]).alloc (.cells #[.int .i64 e, .int .i64 f, .int .i64 g', .int .i64 h'] 41)
  have k2 := Blk.new1 w (.cells #[.int .i64 a, .int .i64 b, .int .i64 c, .int .i64 d] 41) 41 #[.int .i64 e, .int .i64 f, .int .i64 g', .int .i64 h']
  go_enter Tryz.func9, Tryz.ntmps9
  go_wp2_with fail
  generalize (w.alloc (.cells #[.int .i64 a, .int .i64 b, .int .i64 c, .int .i64 d] 41)).alloc (.cells #[.int .i64 e, .int .i64 f, .int .i64 g', .int .i64 h'] 41) = W at *
  have hph := hp1.obj.lt
  have hS : ∀ t : Tw (fun w' => Below W.heap.size W w'), Pl t.w p g h n l := fun t => hp1.bel t.h
  have e0 : ∀ t : Tw (fun w' => Below W.heap.size W w'), t.w.cell? ⟨p, 0, none⟩ = some (.pointer (some ⟨g, 0, none⟩)) := fun t => hp1.obj.tw hph t 0
  have x0 : ∀ t : Tw (fun w' => Below W.heap.size W w'), t.w.cell? ⟨w.heap.size, 0, none⟩ = some (.int .i64 a) := fun t => k1.tw k1.lt t 0
  have x1 : ∀ t : Tw (fun w' => Below W.heap.size W w'), t.w.cell? ⟨w.heap.size, 1, none⟩ = some (.int .i64 b) := fun t => k1.tw k1.lt t 1
  have x2 : ∀ t : Tw (fun w' => Below W.heap.size W w'), t.w.cell? ⟨w.heap.size, 2, none⟩ = some (.int .i64 c) := fun t => k1.tw k1.lt t 2
  have x3 : ∀ t : Tw (fun w' => Below W.heap.size W w'), t.w.cell? ⟨w.heap.size, 3, none⟩ = some (.int .i64 d) := fun t => k1.tw k1.lt t 3
  have y0 : ∀ t : Tw (fun w' => Below W.heap.size W w'), t.w.cell? ⟨w.heap.size + 1, 0, none⟩ = some (.int .i64 e) := fun t => k2.tw k2.lt t 0
  have y1 : ∀ t : Tw (fun w' => Below W.heap.size W w'), t.w.cell? ⟨w.heap.size + 1, 1, none⟩ = some (.int .i64 f) := fun t => k2.tw k2.lt t 1
  have y2 : ∀ t : Tw (fun w' => Below W.heap.size W w'), t.w.cell? ⟨w.heap.size + 1, 2, none⟩ = some (.int .i64 g') := fun t => k2.tw k2.lt t 2
  have y3 : ∀ t : Tw (fun w' => Below W.heap.size W w'), t.w.cell? ⟨w.heap.size + 1, 3, none⟩ = some (.int .i64 h') := fun t => k2.tw k2.lt t 3
  have : Nonempty (Tw (fun w' => Below W.heap.size W w')) := ⟨⟨W, Below.refl _ _⟩⟩
  refine wp_region_mid 19 _ (fun w' => Below W.heap.size W w') (fun w' => Pl w' p g h n (casL l i (Wd.mk e f g' h').num B) ∧ Upd (· = h) W w') (by rfl) (by kernel_rfl) (by kernel_rfl) (by kernel_rfl) (by kernel_rfl) (Below.refl _ _).drew ?_
  unfold clsS
  simp only [List.take_succ_cons, List.take_zero, List.drop_succ_cons, List.drop_zero]
  repeat (first
    | go_big_quiet_skip
    | (go_big_quiet_want; go_big_quiet_op; first | go_big_quiet_on | go_big_quiet_call (
      (first
      | (go_at_call 24; exact q_tw_same (hT.out _ (hS _)))
      | (go_at_call 27; exact q_tw (Nat.le_refl _) (hM.out _))
      | (go_at_call 29; exact q_tw (Nat.le_refl _) (number_any _ _ _ _ _ hN1.out))
      | (go_at_call 29; exact q_tw (Nat.le_refl _) (number_any _ _ _ _ _ hN2.out))))))
  refine wpQuiet_nil ?_
  refine ⟨by kernel_rfl, _, fun t => ⟨_, _, by go_simp, hC.out W _ hp1 t.h⟩, fun hne => ?_⟩
  simp only [List.getElem_toArray, List.getElem_cons_zero, List.getElem_cons_succ, Act.put, List.setIfInBounds_toArray, List.set_cons_zero, List.set_cons_succ]
  repeat (first
    | go_big_quiet_skip
    | (go_big_quiet_want; go_big_quiet_op; go_big_quiet_on))
  refine wpQuiet_nil ?_
  intro tq
  go_wp2
  go_ret
  have := tq.h.2
  exact ⟨rfl, tq.h.1, this.os.trans bw.os, this.tape.trans bw.tape, this.output.trans bw.output, Nat.le_trans bw.size this.size, fun k hk hne => (this.block k (Nat.lt_of_lt_of_le hk bw.size) hne).trans (bw.block k hk)⟩
theorem PlCas_any (i : Int) (a b c d e f g' h' : Int) (p g h n : Nat) (l : List Int) (w : World) (hp : Pl w p g h n l) (hn : n ≤ 3072) (B : Bool) (hB : decide ((0 ≤ i ∧ i < n) ∧ (Wd.mk a b c d).may (Wd.mk e f g' h') ∧ celAt l (2 * i) = (Wd.mk a b c d).num) = B) :
    Calls Tryz.prog 9 #[.pointer (some ⟨p, 0, none⟩), .int .i64 i, .agg #[.int .i64 a, .int .i64 b, .int .i64 c, .int .i64 d], .agg #[.int .i64 e, .int .i64 f, .int .i64 g', .int .i64 h']] w fun r w' => r = .returned (.bool B) ∧ Pl w' p g h n (casL l i (Wd.mk e f g' h').num B) ∧ Upd (· = h) w w' := by
  by_cases hi : 0 ≤ i ∧ i < n
  · by_cases hm : (Wd.mk a b c d).may (Wd.mk e f g' h')
    · exact PlCas_yes i a b c d e f g' h' p g h n l w hp hn hi hm B (by rw [← hB]; congr 1; simp [hi, hm])
    · obtain rfl : B = false := by rw [← hB]; exact decide_eq_false fun h => hm h.2.1
      exact (PlCas_no2 i a b c d e f g' h' p g h n l w hp hn hi hm).mono fun r w' ⟨h1, h2⟩ => ⟨h1, hp.bel h2, Upd.of_below h2 _⟩
  · obtain rfl : B = false := by rw [← hB]; exact decide_eq_false fun h => hi h.1
    exact (PlCas_no1 i a b c d e f g' h' p g h n l w hp hn hi).mono fun r w' ⟨h1, h2⟩ => ⟨h1, hp.bel h2, Upd.of_below h2 _⟩
end Go.Proofs.YtilhkhnjloplfaaGreatDoor
namespace Go.Proofs.YtilhkhnjloplfaaGreatDoor
set_option linter.unusedVariables false
set_option linter.unusedSimpArgs false
open Go.RowKit
/-- a step that goes on -/
inductive St where
  | none
  | still
  | fill (word left : Nat) (rd : Bool) (seen : Nat)
  | back (rd : Bool) (seen : Nat)
structure StOk (nw : Nat) (k : Wk) (s : St) : Prop where
  fill : ∀ word left rd seen, s = .fill word left rd seen → word < nw ∧ 1 ≤ left ∧ left ≤ nw ∧ seen < 18446744073709551616
  back : ∀ rd seen, s = .back rd seen → seen < 18446744073709551616
  out : (∀ rd seen, s ≠ .back rd seen) → k.parts = []
/-- what a Do does -/
def doS (ws : List Nat) (k : Wk) : St → List Nat × Wk × St
  | .none => (ws, k, .none)
  | .still => (ws, k, .none)
  | .fill word left rd seen =>
    if rd = true then
      (if ws.getD word 0 = seen then (ws.set word (tkn seen 8), { k with list := k.list ++ (((frB seen).take 8).map (32 * word + ·)).reverse }, .none) else (ws, k, .fill word left false seen))
    else if frB (ws.getD word 0) ≠ [] then (ws, k, .fill word left true (ws.getD word 0))
    else if left = 1 then (ws, k, .none) else (ws, k, .fill ((word + 1) % ws.length) (left - 1) false (ws.getD word 0))
  | .back rd seen =>
    match k.parts with
    | [] => (ws, k, .none)
    | (i, q) :: r =>
      if rd = false then (ws, k, .back true (ws.getD i 0))
      else if ws.getD i 0 = seen then (ws.set i (bkn seen q), { k with parts := r }, if r = [] then .none else .back false seen)
      else (ws, k, .back false seen)
theorem getD_some {l : List Nat} {i : Nat} (h : i < l.length) : l[i]? = some (l.getD i 0) := by rw [List.getD_eq_getElem?_getD, List.getElem?_eq_getElem h]; rfl
section
variable {n : Nat} {ws : List Nat} {ks : List Wk} {w : Nat} {k : Wk} {s : St}
theorem ptSet_same {α : Type} : ∀ {l : List α} {i : Nat} {x : α}, l[i]? = some x → l.set i x = l
  | [], i, x, h => by simp at h
  | y :: l, 0, x, h => by
    simp only [List.getElem?_cons_zero, Option.some.injEq] at h
    subst h; rfl
  | y :: l, i + 1, x, h => by
    rw [List.set_cons_succ, ptSet_same (by simpa using h)]
theorem PInv.step (h : PInv n ws ks) (hk : ks[w]? = some k) (ho : StOk ws.length k s) : PInv n (doS ws k s).1 (ks.set w (doS ws k s).2.1) ∧ StOk ws.length (doS ws k s).2.1 (doS ws k s).2.2 ∧ (doS ws k s).1.length = ws.length ∧ (doS ws k s).2.1.mine = k.mine := by
  have hsame : PInv n ws (ks.set w k) := by rw [ptSet_same hk]; exact h
  have hrng : ∀ i, ws.getD i 0 < 18446744073709551616 := fun i => by
    rw [List.getD_eq_getElem?_getD]
    cases hi : ws[i]? with
    | none => show 0 < 18446744073709551616; omega
    | some m => exact h.rng m (List.mem_of_getElem? hi)
  cases s with
  | none => exact ⟨hsame, ho, rfl, rfl⟩
  | still => exact ⟨hsame, ⟨(fun _ _ _ _ e => by cases e), (fun _ _ e => by cases e), (fun _ => ho.out (fun _ _ e => by cases e))⟩, rfl, rfl⟩
  | fill word left rd seen =>
    obtain ⟨h1, h2, h3, h4⟩ := ho.fill word left rd seen rfl
    have hp := ho.out (fun _ _ e => by cases e)
    unfold doS
    simp only
    split
    · split
      · rename_i hs
        have hm := getD_some h1
        rw [hs] at hm
        exact ⟨h.take hk hm 8, ⟨(fun _ _ _ _ e => by cases e), (fun _ _ e => by cases e), (fun _ => hp)⟩, List.length_set .., rfl⟩
      · exact ⟨hsame, ⟨(fun _ _ _ _ e => by cases e; exact ⟨h1, h2, h3, h4⟩), (fun _ _ e => by cases e), (fun _ => hp)⟩, rfl, rfl⟩
    · split
      · exact ⟨hsame, ⟨(fun _ _ _ _ e => by cases e; exact ⟨h1, h2, h3, hrng _⟩), (fun _ _ e => by cases e), (fun _ => hp)⟩, rfl, rfl⟩
      · split
        · exact ⟨hsame, ⟨(fun _ _ _ _ e => by cases e), (fun _ _ e => by cases e), (fun _ => hp)⟩, rfl, rfl⟩
        · exact ⟨hsame, ⟨(fun _ _ _ _ e => by cases e; exact ⟨Nat.mod_lt _ (by omega), by omega, by omega, hrng _⟩), (fun _ _ e => by cases e), (fun _ => hp)⟩, rfl, rfl⟩
  | back rd seen =>
    have h4 := ho.back rd seen rfl
    unfold doS
    simp only
    split
    · rename_i hp
      exact ⟨hsame, ⟨(fun _ _ _ _ e => by cases e), (fun _ _ e => by cases e), (fun _ => hp)⟩, rfl, rfl⟩
    · rename_i i q r hp
      have hi : i < ws.length := by
        have := (h.pt k (List.mem_of_getElem? hk)).w (i, q) (by rw [hp]; simp)
        exact this
      split
      · exact ⟨hsame, ⟨(fun _ _ _ _ e => by cases e), (fun _ _ e => by cases e; exact hrng _), (fun e => absurd rfl (e _ _))⟩, rfl, rfl⟩
      · split
        · rename_i hs
          have hm := getD_some hi
          rw [hs] at hm
          refine ⟨h.back hk hp hm, ⟨(fun _ _ _ _ e => by split at e <;> cases e), (fun _ _ e => by split at e <;> cases e; exact h4), (fun e => ?_)⟩, List.length_set .., rfl⟩
          simp only
          by_cases hr : r = []
          · exact hr
          · rw [if_neg hr] at e
            exact absurd rfl (e _ _)
        · exact ⟨hsame, ⟨(fun _ _ _ _ e => by cases e), (fun _ _ e => by cases e; exact h4), (fun e => absurd rfl (e _ _))⟩, rfl, rfl⟩
end
/-- how many steps are to be done yet, if nobody else does any -/
def muS (ws : List Nat) (k : Wk) : St → Nat
  | .none => 0
  | .still => 1
  | .fill word left rd seen => if rd = true then (if ws.getD word 0 = seen then 1 else 2 * left + 2) else 2 * left + 1
  | .back rd seen => match k.parts with
    | [] => 1
    | (i, _) :: r => if rd = true then (if ws.getD i 0 = seen then 2 * r.length + 1 else 2 * r.length + 3) else 2 * r.length + 2
theorem muS_step {ws : List Nat} {k : Wk} {s : St} (ho : StOk ws.length k s) (hs : s ≠ .none) : muS (doS ws k s).1 (doS ws k s).2.1 (doS ws k s).2.2 < muS ws k s := by
  cases s with
  | none => exact absurd rfl hs
  | still => exact Nat.zero_lt_one
  | fill word left rd seen =>
    obtain ⟨h1, h2, h3, h4⟩ := ho.fill word left rd seen rfl
    unfold doS
    simp only
    split
    · rename_i hr
      subst hr
      split
      · rename_i he
        show 0 < muS ws k (.fill word left true seen)
        show 0 < (if true = true then (if ws.getD word 0 = seen then 1 else 2 * left + 2) else 2 * left + 1)
        rw [if_pos rfl, if_pos he]; omega
      · rename_i he
        have e1 : muS ws k (.fill word left true seen) = 2 * left + 2 := by
          show (if true = true then (if ws.getD word 0 = seen then 1 else 2 * left + 2) else 2 * left + 1) = _
          rw [if_pos rfl, if_neg he]
        have e2 : muS ws k (.fill word left false seen) = 2 * left + 1 := rfl
        show muS ws k (.fill word left false seen) < _
        rw [e1, e2]; omega
    · rename_i hr
      have hr' : rd = false := by simpa using hr
      subst hr'
      split
      · have e1 : muS ws k (.fill word left true (ws.getD word 0)) = 1 := by
          show (if true = true then (if ws.getD word 0 = ws.getD word 0 then 1 else 2 * left + 2) else 2 * left + 1) = _
          rw [if_pos rfl, if_pos rfl]
        show muS ws k (.fill word left true _) < 2 * left + 1
        rw [e1]; omega
      · split
        · show 0 < 2 * left + 1
          omega
        · show 2 * (left - 1) + 1 < 2 * left + 1
          omega
  | back rd seen =>
    unfold doS
    simp only
    split
    · rename_i hp
      show 0 < muS ws k (.back rd seen)
      unfold muS; rw [hp]; exact Nat.zero_lt_one
    · rename_i i q r hp
      split
      · rename_i hr
        subst hr
        have e1 : muS ws k (.back true (ws.getD i 0)) = 2 * r.length + 1 := by
          unfold muS; rw [hp]
          show (if true = true then (if ws.getD i 0 = ws.getD i 0 then 2 * r.length + 1 else 2 * r.length + 3) else 2 * r.length + 2) = _
          rw [if_pos rfl, if_pos rfl]
        have e2 : muS ws k (.back false seen) = 2 * r.length + 2 := by
          unfold muS; rw [hp]; rfl
        show muS ws k (.back true _) < _
        rw [e1, e2]; omega
      · rename_i hr
        have hr' : rd = true := by simpa using hr
        subst hr'
        split
        · rename_i he
          by_cases hr0 : r = []
          · subst hr0
            rw [if_pos rfl]
            show 0 < muS ws k (.back true seen)
            unfold muS; rw [hp]
            show 0 < (if true = true then (if ws.getD i 0 = seen then 2 * 0 + 1 else 2 * 0 + 3) else 2 * 0 + 2)
            rw [if_pos rfl, if_pos he]; omega
          · rw [if_neg hr0]
            have e1 : muS ws k (.back true seen) = 2 * r.length + 1 := by
              unfold muS; rw [hp]
              show (if true = true then (if ws.getD i 0 = seen then 2 * r.length + 1 else 2 * r.length + 3) else 2 * r.length + 2) = _
              rw [if_pos rfl, if_pos he]
            rw [e1]
            cases r with
            | nil => exact absurd rfl hr0
            | cons x r =>
              obtain ⟨x1, x2⟩ := x
              show 2 * r.length + 2 < _
              rw [List.length_cons]; omega
        · rename_i he
          have e1 : muS ws k (.back true seen) = 2 * r.length + 3 := by
            unfold muS; rw [hp]
            show (if true = true then (if ws.getD i 0 = seen then 2 * r.length + 1 else 2 * r.length + 3) else 2 * r.length + 2) = _
            rw [if_pos rfl, if_neg he]
          have e2 : muS ws k (.back false seen) = 2 * r.length + 2 := by
            unfold muS; rw [hp]; rfl
          show muS ws k (.back false seen) < _
          rw [e1, e2]; omega
/-- at most so many -/
theorem muS_le {ws : List Nat} {k : Wk} {s : St} (ho : StOk ws.length k s) (hp : PtOk ws.length k.parts) : muS ws k s ≤ 2 * ws.length + 2 := by
  cases s with
  | none => exact Nat.zero_le _
  | still => show 1 ≤ _; omega
  | fill word left rd seen =>
    obtain ⟨h1, h2, h3, h4⟩ := ho.fill word left rd seen rfl
    show (if rd = true then (if ws.getD word 0 = seen then 1 else 2 * left + 2) else 2 * left + 1) ≤ _
    split
    · split <;> omega
    · omega
  | back rd seen =>
    have hl := hp.len
    show (match k.parts with
      | [] => 1
      | (i, _) :: r => if rd = true then (if ws.getD i 0 = seen then 2 * r.length + 1 else 2 * r.length + 3) else 2 * r.length + 2) ≤ _
    split
    · omega
    · rename_i i q r he
      rw [he, List.length_cons] at hl
      split
      · split <;> omega
      · omega
end Go.Proofs.YtilhkhnjloplfaaGreatDoor
namespace Go.Proofs.YtilhkhnjloplfaaGreatDoor
set_option linter.unusedVariables false
set_option linter.unusedSimpArgs false
open Go.RowKit
theorem Own.updS {k : IntKind} {e : TypeId} {w w' : World} {base : Nat} {v : Value} {l : List Int} {S : Nat → Prop} (h : Own k e w base v l) (hu : Upd S w w') (hS : ∀ g, v.ownBlock = some g → ¬ S g) : Own k e w' base v l := by
  refine ⟨⟨h.row.1, ?_⟩, h.rng⟩
  rcases h.row.2 with h1 | ⟨g, cap, cur, h1, h2, h3, h4⟩
  · exact .inl h1
  · exact .inr ⟨g, cap, cur, h1, h2, (hu.block g (Array.getElem?_eq_some_iff.1 h3).1 (hS g (by rw [h1]; rfl))).trans h3, h4⟩
def iN (l : List Nat) : List Int := l.map fun (x : Nat) => (x : Int)
theorem iN_len (l : List Nat) : (iN l).length = l.length := by unfold iN; rw [List.length_map]
theorem iN_app (l m : List Nat) : iN (l ++ m) = iN l ++ iN m := by unfold iN; rw [List.map_append]
theorem iN_take (l : List Nat) (k : Nat) : iN (l.take k) = (iN l).take k := by unfold iN; rw [List.map_take]
theorem iN_drop (l : List Nat) (k : Nat) : iN (l.drop k) = (iN l).drop k := by unfold iN; rw [List.map_drop]
theorem celAt_iN (l : List Nat) (i : Nat) : celAt (iN l) (i : Int) = ((l.getD i 0 : Nat) : Int) := by
  unfold celAt
  rw [iN_len]
  by_cases h : i < l.length
  · rw [if_pos ⟨by omega, by omega⟩]
    unfold iN
    simp [List.getD_eq_getElem?_getD, List.getElem?_eq_getElem h]
  · rw [if_neg (by omega), List.getD_eq_getElem?_getD, List.getElem?_eq_none (by omega)]; rfl
theorem celSet_iN (l : List Nat) {i : Nat} (h : i < l.length) (v : Nat) : celSet (iN l) (i : Int) (v : Int) = iN (l.set i v) := by
  unfold celSet
  rw [iN_len, if_pos ⟨by omega, by omega⟩]
  unfold iN
  rw [List.map_set]; rfl
/-- the pool of n numbers -/
structure PoM (W : World) (gp gc h n : Nat) (ws : List Nat) : Prop where
  obj : Blk W gp 59 #[.pointer (some ⟨gc, 0, none⟩), .int .i64 (n : Int)]
  cel : Cel W gc h (iN ws)
section
variable {I I' S : Nat → Prop} {W W' : World} {gp gc h n : Nat} {ws : List Nat}
theorem PoM.upd (hp : PoM W gp gc h n ws) (hu : Upd S W W') (h1 : ¬ S gp) (h2 : ¬ S gc) (h3 : ¬ S h) : PoM W' gp gc h n ws := ⟨hp.obj.upd hu h1, hp.cel.upd hu h2 h3⟩
theorem PoM.bel (hp : PoM W gp gc h n ws) (hb : Below W.heap.size W W') : PoM W' gp gc h n ws := ⟨hp.obj.bel hb, hp.cel.bel hb⟩
end
/-- the cells of a part -/
def PtC (x : Nat × Nat) : List Value := [.int .i64 (x.1 : Int), .int .u64 (x.2 : Int)]
theorem PtC_len (x : Nat × Nat) : (PtC x).length = 2 := rfl
theorem PtC_one (x : Nat × Nat) : ∀ u ∈ PtC x, u.oneCell' = true := fun u hu => by
  simp only [PtC, List.mem_cons, List.not_mem_nil, or_false] at hu
  rcases hu with rfl | rfl <;> rfl
/-- a cache, all whose blocks are of I -/
structure CaM (I : Nat → Prop) (W : World) (base gp cb : Nat) (l : List Nat) (ov : Value) : Prop where
  ic : I cb
  ex : ∃ (home : Int) (lv : Value), Blk W cb 64 #[.pointer (some ⟨gp, 0, none⟩), .int .i64 home, lv, ov] ∧ Own .i64 3 W base lv (iN l) ∧ ∀ g, lv.ownBlock = some g → I g
/-- a Take that goes on -/
structure TkM (I : Nat → Prop) (W : World) (pb nw word left : Nat) (rd : Bool) (seen : Nat) : Prop where
  ip : I pb
  ex : ∃ (wb : Nat) (cs : Array Value), I wb ∧ Blk W wb 24 cs ∧ cs.size = nw ∧ Blk W pb 111 #[.int .i64 0, .int .i64 (word : Int), .int .i64 (left : Int), .int .i64 8, .bool rd, .int .u64 (seen : Int), .slice (some ⟨wb, 0, none⟩) nw nw, .slice none 0 0, .slice none 0 0, .bool false, .bool false]
/-- a Back that goes on -/
structure BkM (I : Nat → Prop) (W : World) (pb : Nat) (parts : List (Nat × Nat)) (rd : Bool) (seen : Nat) : Prop where
  ip : I pb
  ex : ∃ (A : Option Addr) (m c : Nat), Blk W pb 111 #[.int .i64 2, .int .i64 0, .int .i64 0, .int .i64 0, .bool rd, .int .u64 (seen : Int), .slice none 0 0, .slice A m c, .slice none 0 0, .bool false, .bool false] ∧ RdT PtC 2 W W.heap.size A m parts ∧ m ≤ c ∧ c ≤ 9223372036854775807 ∧ (∀ b i, A = some ⟨b, i, none⟩ → I b) ∧ ∀ b i, A = some ⟨b, i, none⟩ → ∃ cs, Blk W b 130 cs
/-- a cache's step: kind, what the pool does -/
def SeM (W : World) (sb : Nat) (kind : Int) (pv : Value) : Prop := Blk W sb 66 #[.int .i64 kind, pv, .bool false]
/-- .. that goes on -/
def StM (I : Nat → Prop) (W : World) (nw : Nat) (parts : List (Nat × Nat)) : St → Value → Value → Prop
  | .none, sp, ov => sp = .pointer none ∧ ov = .pointer none
  | .still, sp, ov => ov = .pointer none ∧ ∃ sb, sp = .pointer (some ⟨sb, 0, none⟩) ∧ I sb ∧ SeM W sb 3 (.pointer none)
  | .fill word left rd seen, sp, ov => ov = .pointer none ∧ ∃ sb pb, sp = .pointer (some ⟨sb, 0, none⟩) ∧ I sb ∧ SeM W sb 0 (.pointer (some ⟨pb, 0, none⟩)) ∧ TkM I W pb nw word left rd seen
  | .back rd seen, sp, ov => ∃ sb pb, ov = .pointer (some ⟨pb, 0, none⟩) ∧ sp = .pointer (some ⟨sb, 0, none⟩) ∧ I sb ∧ SeM W sb 2 (.pointer (some ⟨pb, 0, none⟩)) ∧ BkM I W pb parts rd seen
/-- a worker's -/
structure WM (I : Nat → Prop) (W : World) (base gp nw : Nat) (k : Wk) (s : St) (cb : Nat) (sp : Value) : Prop where
  ex : ∃ ov, CaM I W base gp cb k.list ov ∧ StM I W nw k.parts s sp ov
section
variable {I I' S : Nat → Prop} {W W' : World} {base gp cb pb nw word left seen : Nat} {rd : Bool} {l : List Nat} {ov sp : Value} {parts : List (Nat × Nat)} {k : Wk} {s : St}
theorem CaM.upd (hc : CaM I W base gp cb l ov) (hu : Upd S W W') (hS : ∀ b, I b → ¬ S b) : CaM I W' base gp cb l ov := by
  obtain ⟨hi, home, lv, h1, h2, h3⟩ := hc
  exact ⟨hi, home, lv, h1.upd hu (hS _ hi), h2.updS hu (fun g hg => hS g (h3 g hg)), h3⟩
theorem CaM.mono (hc : CaM I W base gp cb l ov) (hI : ∀ b, b < W.heap.size → I b → I' b) : CaM I' W base gp cb l ov := by
  obtain ⟨hi, home, lv, h1, h2, h3⟩ := hc
  exact ⟨hI _ h1.lt hi, home, lv, h1, h2, fun g hg => hI g (h2.lt g hg).2 (h3 g hg)⟩
theorem TkM.upd (ht : TkM I W pb nw word left rd seen) (hu : Upd S W W') (hS : ∀ b, I b → ¬ S b) : TkM I W' pb nw word left rd seen := by
  obtain ⟨hi, wb, cs, h1, h2, h3, h4⟩ := ht
  exact ⟨hi, wb, cs, h1, h2.upd hu (hS _ h1), h3, h4.upd hu (hS _ hi)⟩
theorem TkM.mono (ht : TkM I W pb nw word left rd seen) (hI : ∀ b, b < W.heap.size → I b → I' b) : TkM I' W pb nw word left rd seen := by
  obtain ⟨hi, wb, cs, h1, h2, h3, h4⟩ := ht
  exact ⟨hI _ h4.lt hi, wb, cs, hI _ h2.lt h1, h2, h3, h4⟩
theorem RdT.updI {α : Type} {cs : α → List Value} {sz m : Nat} {A : Option Addr} {l : List α} (hr : RdT cs sz W W.heap.size A m l) (hA : ∀ b i, A = some ⟨b, i, none⟩ → I b) (hu : Upd S W W') (hS : ∀ b, I b → ¬ S b) : RdT cs sz W' W'.heap.size A m l :=
  ⟨hr.len, fun h0 => by
    obtain ⟨b, o, e, hb, hc⟩ := hr.cel h0
    have hblk := hu.block b hb (hS b (hA b o e))
    refine ⟨b, o, e, Nat.lt_of_lt_of_le hb hu.size, fun j x hj f u hf => ?_⟩
    rw [← hc j x hj f u hf]
    simp only [World.cell?, hblk]⟩
theorem BkM.upd (ht : BkM I W pb parts rd seen) (hu : Upd S W W') (hS : ∀ b, I b → ¬ S b) : BkM I W' pb parts rd seen := by
  obtain ⟨hi, A, m, c, h1, h2, h3, h4, h5, h6⟩ := ht
  exact ⟨hi, A, m, c, h1.upd hu (hS _ hi), h2.updI h5 hu hS, h3, h4, h5, fun b i e => by
    obtain ⟨cs, hb⟩ := h6 b i e
    exact ⟨cs, hb.upd hu (hS _ (h5 b i e))⟩⟩
theorem StM.upd (ht : StM I W nw parts s sp ov) (hu : Upd S W W') (hS : ∀ b, I b → ¬ S b) : StM I W' nw parts s sp ov := by
  cases s with
  | none => exact ht
  | still =>
    obtain ⟨h1, sb, h2, h3, h4⟩ := ht
    exact ⟨h1, sb, h2, h3, Blk.upd h4 hu (hS _ h3)⟩
  | fill word left rd seen =>
    obtain ⟨h1, sb, pb, h2, h3, h4, h5⟩ := ht
    exact ⟨h1, sb, pb, h2, h3, Blk.upd h4 hu (hS _ h3), h5.upd hu hS⟩
  | back rd seen =>
    obtain ⟨sb, pb, h1, h2, h3, h4, h5⟩ := ht
    exact ⟨sb, pb, h1, h2, h3, Blk.upd h4 hu (hS _ h3), h5.upd hu hS⟩
theorem WM.upd (ht : WM I W base gp nw k s cb sp) (hu : Upd S W W') (hS : ∀ b, I b → ¬ S b) : WM I W' base gp nw k s cb sp := by
  obtain ⟨ov, h1, h2⟩ := ht
  exact ⟨ov, h1.upd hu hS, h2.upd hu hS⟩
end
end Go.Proofs.YtilhkhnjloplfaaGreatDoor
namespace Go.Proofs.YtilhkhnjloplfaaGreatDoor
set_option linter.unusedVariables false
set_option linter.unusedSimpArgs false
open Go.RowKit
section
variable {P : Program} {ops : Array Oper} {Q : Exit → Act → World → Prop}
end
/-- the worlds above w -/
def Up (w w' : World) : Prop := Below w.heap.size w w'
theorem Up.rfl_ (w : World) : Up w w := Below.refl _ _
theorem Up.one (w : World) : Nonempty (Tw (Up w)) := ⟨⟨w, Up.rfl_ w⟩⟩
end Go.Proofs.YtilhkhnjloplfaaGreatDoor
namespace Go.Proofs.YtilhkhnjloplfaaGreatDoor
set_option linter.unusedVariables false
set_option linter.unusedSimpArgs false
open Go.RowKit
theorem info_u64 : (Tryz.prog.info? 24).map (fun i => (i.zero, i.size, i.bytes)) = some (some (.int .u64 0), 1, 8) := by kernel_rfl
set_option maxHeartbeats 400000 in
theorem Copy_any (g h : Nat) (l : List Int) (w : World) (hc : Cel w g h l) (hm : l.length ≤ 65536) :
    Calls Tryz.prog 39 #[.pointer (some ⟨g, 0, none⟩)] w fun e w' => ∃ v, e = .returned v ∧ Own .u64 24 w' w.heap.size v l ∧ Below w.heap.size w w' := by
  obtain ⟨i0, hi, hz0, hz1, hz2⟩ := info_parts info_u64
  obtain ⟨n, hn⟩ : ∃ n, n = l.length := ⟨_, rfl⟩
  have hn2 : n ≤ 65536 := by omega
  replace hn := Lib.hid hn
  go_enter Tryz.func39, Tryz.ntmps39
  go_wp2_with (go_at_call 21; refine (Size_any _ _ _ _ hc).mono ?_; rw [← hn.out]; rintro e w' ⟨rfl, rfl⟩)
  go_loopw [3, 7] (fun v ix wr => ∃ k : Nat, k ≤ n ∧ ix = .int .i64 k ∧ Own .u64 24 wr w.heap.size v (l.take k) ∧ Below w.heap.size w wr) (fun _ ix _ => n - (intOf ix).toNat)
  case atStart => exact ⟨0, Nat.zero_le _, rfl, Own.nil _ _ _ _, Below.refl _ _⟩
  case round =>
    obtain ⟨k, hk, rfl, own, bel⟩ := hrel
    by_cases hlt : k < n
    · have hl : (l.take k).length = k := by rw [List.length_take]; have := hn.out; omega
      have ht : l.take (k + 1) = l.take k ++ [l.getD k 0] := by
        rw [List.take_succ_eq_append_getElem (by have := hn.out; omega), List.getD_eq_getElem?_getD, List.getElem?_eq_getElem (by have := hn.out; omega)]; rfl
      have hv : celAt l k = l.getD k 0 := by unfold celAt; rw [if_pos (by have := hn.out; omega)]; rfl
      have hr := (hc.at_ (k := k) (by have := hn.out; omega)).2.2
      obtain ⟨x, hx⟩ : ∃ x, x = l.getD k 0 := ⟨_, rfl⟩
      rw [← hx] at ht hv hr
      replace ht := Lib.hid ht
      replace hl := Lib.hid hl
      replace hv := Lib.hid hv
      clear hx
      have hc2 := hc.bel bel
      have hrd := Rd.new .u64 wr 24 [x] (by intro y hy; simp at hy; subst hy; exact u64_inr hr) #[.int .u64 x] rfl 1 rfl
      go_wp2_with (first
        | (go_at_call 26; refine (Load_any _ _ _ _ _ hc2 hm).mono ?_; rw [hv.out]; rintro e w' ⟨rfl, rfl⟩)
        | (at_builtin; refine wpList_app _ rfl (.tmp 10) (.tmp 14) 90 rfl .u64 w.heap.size 24 i0 (.int .u64 0) 8 Tryz.underlying90 hi hz0 hz1 hz2 rfl u3 rfl (l.take k) (own.alloc _) (wr.heap.size + 1) _ 1 1 rfl [x] hrd (by rw [hl.out]; have := hn.out; omega) (by decide) (by have := bel.size; simp; omega) ?_; intro v1 w1 own1 hg1 _; have bel1 : Below w.heap.size w w1 := (bel.alloc bel.size _).grown hg1 (by have := bel.size; simp; omega) (fun g h => (own.lt g h).1); clear hg1))
      go_roundw
      case rel => exact ⟨k + 1, by omega, by go_num, by rw [ht.out]; exact own1, bel1⟩
      case measure => simp [intOf]; omega
    · have ht : l.take k = l := List.take_of_length_le (by have := hn.out; omega)
      rw [ht] at own
      go_wp2
      go_ret
      exact ⟨_, rfl, own, bel⟩
end Go.Proofs.YtilhkhnjloplfaaGreatDoor
namespace Go.Proofs.YtilhkhnjloplfaaGreatDoor
set_option linter.unusedVariables false
set_option linter.unusedSimpArgs false
open Go.RowKit
section
variable {P : Program} {ops : Array Oper} {Q : Exit → Act → World → Prop} {S : World → Prop}
/-- number j waits for number i, at once or by others -/
def waitsT (ops : Array Oper) : Nat → Nat → Nat → Bool
  | 0, _, _ => false
  | f + 1, j, i => match ops[j]? with | some o => o.after.any fun e => Region.binds .any e && (e.on == i || waitsT ops f e.on i) | none => false
/-- what is listed has all it waits for listed -/
def DC (ops : Array Oper) (L : Array Bool) : Prop := ∀ j o, ops[j]? = some o → L.getD j false = true → ∀ e ∈ o.after, Region.binds .any e = true → L.getD e.on false = true
theorem DC.start (n : Nat) : DC ops (Array.replicate n false) := fun j o _ h => by
  rw [getD_replicate_false] at h; cases h
theorem DC.set {L : Array Bool} (h : DC ops L) {i : Nat} (hi : i ∈ Region.ready .any ops L) : DC ops (L.setIfInBounds i true) := by
  obtain ⟨_, o, ho, hall⟩ := mem_ready.1 hi
  have keep : ∀ k, L.getD k false = true → (L.setIfInBounds i true).getD k false = true := fun k hk => by
    by_cases hik : i = k
    · subst hik
      rw [Array.getD_eq_getD_getElem?] at hk ⊢
      rw [Array.getElem?_setIfInBounds_self]
      split
      · rfl
      · rename_i hlt
        rw [Array.getElem?_eq_none (by omega)] at hk; simp at hk
    · rw [getD_set_ne false hik]; exact hk
  intro j oj hoj hj e he hb
  by_cases hij : i = j
  · subst hij
    rw [ho] at hoj
    injection hoj with hoj
    subst hoj
    exact keep _ (hall e he hb)
  · rw [getD_set_ne false hij] at hj
    exact keep _ (h j oj hoj hj e he hb)
theorem waits_listed {L : Array Bool} (h : DC ops L) {i : Nat} : ∀ (f j : Nat), waitsT ops f j i = true → (∃ o, ops[j]? = some o ∧ ∀ e ∈ o.after, Region.binds .any e = true → L.getD e.on false = true) → L.getD i false = true
  | 0, _, hw, _ => by simp [waitsT] at hw
  | f + 1, j, hw, ⟨o, ho, hall⟩ => by
    simp only [waitsT, ho, Array.any_eq_true, Bool.and_eq_true, Bool.or_eq_true] at hw
    obtain ⟨k, hk, hb, hw⟩ := hw
    have hl := hall _ (Array.getElem_mem hk) hb
    rcases hw with hw | hw
    · rw [beq_iff_eq] at hw; rw [← hw]; exact hl
    · cases ho2 : ops[o.after[k].on]? with
      | none =>
        cases f with
        | zero => simp [waitsT] at hw
        | succ f => simp [waitsT, ho2] at hw
      | some o2 => exact waits_listed h f _ hw ⟨o2, ho2, fun e he hb2 => h _ o2 ho2 hl e he hb2⟩
def wpAnyG (P : Program) (ops : Array Oper) (Q : Exit → Act → World → Prop) (S : World → Prop) (late : List Nat) : Nat → Array Bool → Act → World → Prop
  | 0, listed, a, w => Region.ready .any ops listed = [] ∧ Q .normal a w
  | fuel + 1, listed, a, w =>
    (Region.ready .any ops listed = [] → Q .normal a w) ∧
    ∀ i ∈ Region.ready .any ops listed, wpOp P ops Q i (fun a' w' => (late.contains i = false → S w') ∧ wpAnyG P ops Q S late fuel (listed.setIfInBounds i true) a' w') a w
variable {late : List Nat}
theorem wpAny_of_G : ∀ (fuel : Nat) (listed : Array Bool) (a : Act) (w : World), wpAnyG P ops Q S late fuel listed a w → wpAny P .any ops Q fuel listed a w
  | 0, _, _, _, h => h
  | fuel + 1, _, _, _, h => ⟨h.1, fun i hi => wpOp_mono (fun a' w' h' => wpAny_of_G fuel _ a' w' h'.2) (h.2 i hi)⟩
theorem wpAnyG_first {i : Nat} {oi : Oper} {v : Value} (hi : ops[i]? = some oi) (hsel : ∀ (j : Nat) (o : Oper) cs b, ops[j]? = some o → o.op ≠ .select cs b)
    (hQ : ∀ c a w, Q (.panic c) (a.put oi.dst v) w → Q (.panic c) a w) (hlate : ∀ j, late.contains j = true → ∃ f, waitsT ops f j i = true) :
    ∀ (fuel : Nat) (listed : Array Bool) (a : Act) (w : World), DC ops listed →
      (∀ j oj, ops[j]? = some oj → j ≠ i → listed.getD j true = false → (∀ e ∈ oj.after, Region.binds .any e = true → e.on ≠ i) → oi.apart ops oj = true) →
      i ∈ Region.ready .any ops listed → YieldsIf P ops S oi v a → S w →
      wpAnyG P ops Q S late fuel (listed.setIfInBounds i true) (a.put oi.dst v) w → wpAnyG P ops Q S late (fuel + 1) listed a w := by
  intro fuel
  induction fuel with
  | zero =>
    intro listed a w hdc hfree hr hy hS H
    refine ⟨fun h => (by rw [h] at hr; cases hr), fun j hj => ?_⟩
    by_cases hji : j = i
    · subst hji; exact hy.wpOp hi hS ⟨fun _ => hS, H⟩
    · have := ready_mono hj hji
      rw [H.1] at this
      cases this
  | succ fuel ih =>
    intro listed a w hdc hfree hr hy hS H
    refine ⟨fun h => (by rw [h] at hr; cases hr), fun j hj => ?_⟩
    by_cases hji : j = i
    · subst hji; exact hy.wpOp hi hS ⟨fun _ => hS, H⟩
    · have h1 := H.2 j (ready_mono hj hji)
      obtain ⟨hjun, oj, hoj, hall⟩ := mem_ready.1 hj
      have hiun := (mem_ready.1 hr).1
      have hif : listed.getD i false = false := getD_both hiun
      have hnl : late.contains j = false := by
        cases hc : late.contains j with
        | false => rfl
        | true =>
          obtain ⟨f, hw⟩ := hlate j hc
          have := waits_listed hdc f j hw ⟨oj, hoj, hall⟩
          rw [hif] at this; cases this
      have hnot : ∀ e ∈ oj.after, Region.binds .any e = true → e.on ≠ i := fun e he hb heq => by
        have h1 := hall e he hb
        rw [heq, hif] at h1; cases h1
      have h2 := wpOp_putIf hoj (hfree j oj hoj hji hjun hnot) (fun cs b => hsel i oi cs b hi) (fun cs b => hsel j oj cs b hoj) hQ hy h1
      have hfree' : ∀ k ok, ops[k]? = some ok → k ≠ i → (listed.setIfInBounds j true).getD k true = false →
          (∀ e ∈ ok.after, Region.binds .any e = true → e.on ≠ i) → oi.apart ops ok = true := fun k ok hk hki hun hno => by
        refine hfree k ok hk hki ?_ hno
        by_cases hjk : j = k
        · subst hjk; exact hjun
        · rw [getD_set_ne true hjk] at hun; exact hun
      refine wpOp_mono (fun a' w' h3 => ⟨h3.2.1, ih (listed.setIfInBounds j true) a' w' (hdc.set hj) hfree' (ready_mono hr (Ne.symm hji)) h3.1 (h3.2.1 hnl) ?_⟩) h2
      rw [Array.setIfInBounds_comm _ _ hji]
      exact h3.2.2
/-- the forced end -/
def wpPt (P : Program) (ops : Array Oper) (Q : Exit → Act → World → Prop) : List Nat → Act → World → Prop
  | [], a, w => Q .normal a w
  | i :: r, a, w => ∀ o, ops[i]? = some o → ∀ K : Act → World → Prop, (∀ a' w', wpPt P ops Q r a' w' → K a' w') → Region.wanted o (yielded ops a.tmps) = true ∧ o.wp P a w K Q
def tailB (ops : Array Oper) : List Nat → Array Bool → Bool
  | [], L => (Region.ready .any ops L).isEmpty
  | i :: r, L => decide (Region.ready .any ops L = [i]) && tailB ops r (L.setIfInBounds i true)
theorem wpAnyG_tail : ∀ (l : List Nat) (listed : Array Bool) (a : Act) (w : World), (∀ i ∈ l, late.contains i = true) → tailB ops l listed = true → wpPt P ops Q l a w → ∀ fuel, l.length ≤ fuel → wpAnyG P ops Q S late fuel listed a w
  | [], listed, a, w, _, hB, h, 0, _ => ⟨by simpa [tailB] using hB, h⟩
  | [], listed, a, w, _, hB, h, fuel + 1, _ => ⟨fun _ => h, fun i hi => absurd hi (by rw [show Region.ready .any ops listed = [] by simpa [tailB] using hB]; simp)⟩
  | i :: r, listed, a, w, _, hB, h, 0, hf => by simp at hf
  | i :: r, listed, a, w, hl, hB, h, fuel + 1, hf => by
    simp only [tailB, Bool.and_eq_true, decide_eq_true_eq] at hB
    refine ⟨fun h0 => (by rw [h0] at hB; simp at hB), fun j hj => ?_⟩
    rw [hB.1] at hj
    obtain rfl : j = i := by simpa using hj
    have hm : j ∈ Region.ready .any ops listed := by rw [hB.1]; simp
    obtain ⟨_, o, ho, _⟩ := mem_ready.1 hm
    obtain ⟨hw, hx⟩ := h o ho (fun a' w' => (late.contains j = false → S w') ∧ wpAnyG P ops Q S late fuel (listed.setIfInBounds j true) a' w') (fun a' w' hr => ⟨fun hc => (by rw [hl j (by simp)] at hc; cases hc), wpAnyG_tail r _ a' w' (fun i hi => hl i (by simp [hi])) hB.2 hr fuel (by simpa using hf)⟩)
    unfold wpOp
    simp only [ho]
    rw [if_pos hw]
    exact .inl hx
def planT (ops : Array Oper) (tl : List Nat) : List (Nat × Bool) → Array Bool → Bool
  | [], listed => tailB ops tl listed
  | (i, true) :: r, listed => (match ops[i]? with | some o => isV o.op | none => false) && (Region.ready .any ops listed).contains i && Region.free .any ops listed i && tl.all (fun j => waitsT ops ops.size j i) && planT ops tl r (listed.setIfInBounds i true)
  | (i, false) :: r, listed => decide (Region.ready .any ops listed = [i]) && !tl.contains i && planT ops tl r (listed.setIfInBounds i true)
def wpPh (P : Program) (ops : Array Oper) (Q : Exit → Act → World → Prop) (S : World → Prop) (tl : List Nat) : List (Nat × Bool) → Act → World → Prop
  | [], a, w => wpPt P ops Q tl a w
  | (i, true) :: r, a, w => ∀ o, ops[i]? = some o → ∃ v, ((Region.wanted o (yielded ops a.tmps) = true ∧ ∀ w, S w → o.quietAt P a (clsS S) w v) ∨ (Region.wanted o (yielded ops a.tmps) = false ∧ v = undef)) ∧ wpPh P ops Q S tl r (a.put o.dst v) w
  | (i, false) :: r, a, w => ∀ o, ops[i]? = some o → ∀ K : Act → World → Prop, (∀ a' w', S w' → wpPh P ops Q S tl r a' w' → K a' w') → Region.wanted o (yielded ops a.tmps) = true ∧ o.wp P a w K Q
theorem wpAnyG_of_plan {tl : List Nat} (hs : Region.noSelect ops = true) (hQ : ∀ c a w, ¬ Q (.panic c) a w) : ∀ (l : List (Nat × Bool)) (listed : Array Bool) (a : Act) (w : World), DC ops listed → S w → planT ops tl l listed = true → wpPh P ops Q S tl l a w → ∀ fuel, l.length + tl.length ≤ fuel → wpAnyG P ops Q S tl fuel listed a w
  | [], listed, a, w, _, _, hB, h, fuel, hf => wpAnyG_tail tl listed a w (fun i hi => by simpa using hi) hB h fuel (by simpa using hf)
  | (i, true) :: r, listed, a, w, hdc, hS, hB, h, 0, hf => by simp at hf
  | (i, false) :: r, listed, a, w, hdc, hS, hB, h, 0, hf => by simp at hf
  | (i, true) :: r, listed, a, w, hdc, hS, hB, h, fuel + 1, hf => by
    simp only [planT, Bool.and_eq_true] at hB
    obtain ⟨⟨⟨⟨h1, h2⟩, h3⟩, h5⟩, h4⟩ := hB
    have h2' : i ∈ Region.ready .any ops listed := by simpa using h2
    cases ho : ops[i]? with
    | none => rw [ho] at h1; cases h1
    | some o =>
      rw [ho] at h1
      obtain ⟨v, hy, hr⟩ := h o ho
      refine wpAnyG_first ho (Region.noSelect_spec hs) (fun c a w hq => absurd hq (hQ _ _ _)) (fun j hj => ⟨ops.size, by rw [List.all_eq_true] at h5; exact h5 j (by simpa using hj)⟩) fuel listed a w hdc (Region.free_spec ho h3) h2' (v := v) ?_ hS (wpAnyG_of_plan hs hQ r _ _ w (hdc.set h2') hS h4 hr fuel (by simp at hf; omega))
      rcases hy with ⟨hw, hy⟩ | hy
      · refine .inl ⟨hw, fun w' hS' => ?_⟩
        have h5 := hy w' hS'
        unfold Oper.quietAt at h5
        cases hr : (execOp a.eval o).run P w' with
        | ok nx w2 =>
          obtain ⟨u, rfl⟩ := isV_spec h1 hr
          rw [hr] at h5
          simp only [Oper.quietUpon] at h5
          rw [h5.1, h5.2]
        | halt x w2 => rw [hr] at h5; simp only [Oper.quietUpon] at h5
      · exact .inr hy
  | (i, false) :: r, listed, a, w, hdc, hS, hB, h, fuel + 1, hf => by
    simp only [planT, Bool.and_eq_true, decide_eq_true_eq, Bool.not_eq_true'] at hB
    obtain ⟨⟨hB1, hB3⟩, hB2⟩ := hB
    refine ⟨fun h0 => (by rw [h0] at hB1; simp at hB1), fun j hj => ?_⟩
    rw [hB1] at hj
    obtain rfl : j = i := by simpa using hj
    have hm : j ∈ Region.ready .any ops listed := by rw [hB1]; simp
    obtain ⟨_, o, ho, _⟩ := mem_ready.1 hm
    obtain ⟨hw, hx⟩ := h o ho (fun a' w' => (tl.contains j = false → S w') ∧ wpAnyG P ops Q S tl fuel (listed.setIfInBounds j true) a' w') (fun a' w' hS' hr => ⟨fun _ => hS', wpAnyG_of_plan hs hQ r _ a' w' (hdc.set hm) hS' hB2 hr fuel (by simp at hf; omega)⟩)
    unfold wpOp
    simp only [ho]
    rw [if_pos hw]
    exact .inl hx
theorem wp_region_planT {id : Nat} {a : Act} {w : World} {l : List Oper} (S : World → Prop) (pl : List (Nat × Bool)) (tl : List Nat) (hm : P.follows .mixedOrders = true) (hs : Region.noSelect l.toArray = true) (hB : planT l.toArray tl pl (Array.replicate l.length false) = true) (hl : pl.length + tl.length = l.length) (hS : S w.drew)
    (h : wpPh P l.toArray (NoPanic Q) S tl pl a w.drew) : (Code.region id l.toArray true).wp P Q a w := by
  refine wp_region_noPanic (wp_region_any hm (wpAny_of_G (S := S) (late := tl) _ _ _ _ ?_))
  have := wpAnyG_of_plan (P := P) (Q := NoPanic Q) (S := S) (tl := tl) hs (fun c a w h => h) pl (Array.replicate l.length false) a w.drew (DC.start _) hS hB h l.length (by omega)
  simpa using this
/-- a run of operations that only reckon and read -/
theorem wpPh_qs {tl : List Nat} : ∀ (n : Nat) (l : List (Nat × Bool)) (a : Act) (w : World), ((l.take n).all fun x => x.2) = true → ((l.take n).all fun x => (ops[x.1]?).isSome) = true → n ≤ l.length →
    wpQuiet P ops (clsS S) (fun a' => wpPh P ops Q S tl (l.drop n) a' w) ((l.take n).filterMap fun x => ops[x.1]?) a → wpPh P ops Q S tl l a w
  | 0, l, a, w, _, _, _, h => h
  | n + 1, [], a, w, _, _, hn, _ => by simp at hn
  | n + 1, (i, false) :: l, a, w, h1, _, _, _ => by simp at h1
  | n + 1, (i, true) :: l, a, w, h1, h2, hn, h => by
    simp only [List.take_succ_cons, List.all_cons, Bool.and_eq_true] at h1 h2
    intro o ho
    simp only [List.take_succ_cons, List.drop_succ_cons, List.filterMap_cons, ho, wpQuiet] at h
    by_cases hw : Region.wanted o (yielded ops a.tmps) = true
    · rw [if_pos hw] at h
      obtain ⟨v, h3, h4⟩ := h
      exact ⟨v, .inl ⟨hw, fun w' hS => h3 w' ⟨⟨w', hS⟩, rfl⟩⟩, wpPh_qs n l _ w h1.2 h2.2 (by simpa using hn) h4⟩
    · rw [if_neg hw] at h
      exact ⟨undef, .inr ⟨by simpa using hw, rfl⟩, wpPh_qs n l _ w h1.2 h2.2 (by simpa using hn) h⟩
theorem wpPh_e {tl : List Nat} {i : Nat} {r : List (Nat × Bool)} {a : Act} {w : World} (o : Oper) (ho : ops[i]? = some o) (hw : Region.wanted o (yielded ops a.tmps) = true)
    (h : ∀ K : Act → World → Prop, (∀ a' w', S w' → wpPh P ops Q S tl r a' w' → K a' w') → o.wp P a w K Q) : wpPh P ops Q S tl ((i, false) :: r) a w :=
  fun o' ho' K hK => by
    obtain rfl : o = o' := Option.some.inj (ho.symm.trans ho')
    exact ⟨hw, h K hK⟩
theorem wpPt_e {i : Nat} {r : List Nat} {a : Act} {w : World} (o : Oper) (ho : ops[i]? = some o) (hw : Region.wanted o (yielded ops a.tmps) = true)
    (h : ∀ K : Act → World → Prop, (∀ a' w', wpPt P ops Q r a' w' → K a' w') → o.wp P a w K Q) : wpPt P ops Q (i :: r) a w :=
  fun o' ho' K hK => by
    obtain rfl : o = o' := Option.some.inj (ho.symm.trans ho')
    exact ⟨hw, h K hK⟩
end
end Go.Proofs.YtilhkhnjloplfaaGreatDoor
namespace Go.Proofs.YtilhkhnjloplfaaGreatDoor
set_option linter.unusedVariables false
set_option linter.unusedSimpArgs false
open Go.RowKit
/-- how many of the first k places are in a state -/
def cntL (l : List Int) (s : Int) : Nat → Nat
  | 0 => 0
  | k + 1 => cntL l s k + (if (unW (celAt l (2 * (k : Int)))).st = s then 1 else 0)
theorem cntL_le (l : List Int) (s : Int) : ∀ k, cntL l s k ≤ k
  | 0 => Nat.le_refl _
  | k + 1 => by have := cntL_le l s k; unfold cntL; split <;> omega
theorem fld0 (a b c d : Int) (w : World) : (Instr.field 41 (.agg #[.int .i64 a, .int .i64 b, .int .i64 c, .int .i64 d]) 0).run Tryz.prog w = .ok (.int .i64 a) w := by kernel_rfl
set_option maxHeartbeats 400000 in
theorem PlCount_any (s : Int) (p g h n : Nat) (l : List Int) (w : World) (hp : Pl w p g h n l) (hn : n ≤ 3072) :
    Calls Tryz.prog 18 #[.pointer (some ⟨p, 0, none⟩), .int .i64 s] w fun e w' => e = .returned (.int .i64 (cntL l s n : Nat)) ∧ Below w.heap.size w w' := by
  go_enter Tryz.func18, Tryz.ntmps18
  go_wp2_with fail
  refine (PlSize_any _ _ _ _ _ _ hp hn).mono ?_
  rintro e w' ⟨rfl, rfl⟩
  go_wp2_with fail
  go_loopw [5, 9] (fun c i wr => ∃ k : Nat, k ≤ n ∧ c = .int .i64 (cntL l s k : Nat) ∧ i = .int .i64 k ∧ Below w.heap.size w wr) (fun _ i _ => n - (intOf i).toNat)
  case atStart => exact ⟨0, Nat.zero_le _, rfl, rfl, Below.refl _ _⟩
  case round =>
    obtain ⟨k, hk, rfl, rfl, bel⟩ := hrel
    have hle := cntL_le l s k
    by_cases hlt : k < n
    · have hcc : cntL l s (k + 1) = cntL l s k + (if (unW (celAt l (2 * (k : Int)))).st = s then 1 else 0) := rfl
      have hL := PlLoad_any k p g h n l wr (hp.bel bel) hn
      unfold Wd.val at hL
      obtain ⟨c1, hc1⟩ : ∃ c, c = cntL l s (k + 1) := ⟨_, rfl⟩
      rw [← hc1] at hcc
      replace hc1 := Lib.hid hc1
      generalize cntL l s k = c0 at *
      generalize unW (celAt l (2 * (k : Int))) = N at *
      obtain ⟨s0, s1, s2, s3⟩ := N
      simp only at hcc hL
      have hfd := fld0 s0 s1 s2 s3
      replace hL := Lib.hid hL
      by_cases hs : s0 = s
      · rw [if_pos hs] at hcc
        subst hs
        have hcc2 : (c0 : Int) + 1 = (c1 : Int) := by omega
        replace hcc := Lib.hid hcc
        go_wp2_with fail
        refine hL.out.mono ?_
        rintro e w1 ⟨rfl, b1⟩
        go_wp2_with fail
        go_roundw
        case rel => exact ⟨k + 1, by omega, by rw [← hc1.out], by go_num, bel_after bel b1⟩
        case measure => simp [intOf]; omega
      · rw [if_neg hs, Nat.add_zero] at hcc
        subst hcc
        have hsb : (s0 == s) = false := by simpa using hs
        go_wp2_with fail
        refine hL.out.mono ?_
        rintro e w1 ⟨rfl, b1⟩
        go_wp2_with fail
        go_roundw
        case rel => exact ⟨k + 1, by omega, by rw [← hc1.out], by go_num, bel_after bel b1⟩
        case measure => simp [intOf]; omega
    · obtain rfl : k = n := by omega
      go_wp2
      go_ret
      exact ⟨rfl, bel⟩
end Go.Proofs.YtilhkhnjloplfaaGreatDoor
