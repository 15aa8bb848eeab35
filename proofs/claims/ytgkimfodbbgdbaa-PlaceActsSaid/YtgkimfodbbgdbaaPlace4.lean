/- The walks of package place's Places: a place is two cells. -/
import Derived.Test.YtgkimfodbbgdbaaPlace3
import Derived.Test.YtgkimfodbbgdbaaCells
import Derived.Test.YtgkimfodbbgdbaaMid
namespace Go.Proofs.Ytgkimfodbbgdbaa
set_option linter.unusedVariables false
set_option linter.unusedSimpArgs false
open Go.RowKit
/-- the object at block p, its Cells at block g, their row at block h: n places, whose cells are the list l -/
structure Pl (w : World) (p g h : Nat) (n : Nat) (l : List Int) : Prop where
  obj : Blk w p 75 #[.pointer (some ⟨g, 0, none⟩)]
  cel : Cel w g h l
  len : l.length = 2 * n
section
variable {w w' : World} {p g h n : Nat} {l : List Int}
theorem Pl.upd {S : Nat → Prop} (hp : Pl w p g h n l) (hu : Upd S w w') (h0 : ¬ S p) (h1 : ¬ S g) (h2 : ¬ S h) : Pl w' p g h n l := ⟨hp.obj.upd hu h0, hp.cel.upd hu h1 h2, hp.len⟩
theorem Pl.bel (hp : Pl w p g h n l) (hb : Below w.heap.size w w') : Pl w' p g h n l := ⟨hp.obj.bel hb, hp.cel.bel hb, hp.len⟩
theorem Pl.drewN (hp : Pl w p g h n l) (m : Nat) : Pl (w.drewN m) p g h n l := ⟨hp.obj, hp.cel.drewN m, hp.len⟩
theorem Pl.alloc (hp : Pl w p g h n l) (o : Obj) : Pl (w.alloc o) p g h n l := ⟨hp.obj.alloc o, hp.cel.alloc o, hp.len⟩
theorem Pl.ph (hp : Pl w p g h n l) : p ≠ h := hp.obj.ne_ hp.cel.row (by decide)
end
theorem PlNew_no (n : Int) (w : World) (h : n < 1 ∨ 3072 < n) :
    Calls Try.prog 18 #[.int .i64 n] w fun e w' => e = .returned (.tuple #[.pointer none, .int .i64 1]) ∧ w = w' := by
  rcases h with h | h
  · have hd : decide (n < 1) = true := by simpa using h
    go_enter Try.func18, Try.ntmps18
    go_wp2
    go_ret2
    exact ⟨rfl, rfl⟩
  · have hd : decide (n < 1) = false := by simp; omega
    have hd2 : decide (3072 < n) = true := by simpa using h
    go_enter Try.func18, Try.ntmps18
    go_wp2
    go_ret2
    exact ⟨rfl, rfl⟩
theorem PlNew_yes (n : Nat) (w : World) (h1 : 1 ≤ n) (h2 : n ≤ 3072) :
    Calls Try.prog 18 #[.int .i64 n] w fun e w' => ∃ p g h, e = .returned (.tuple #[.pointer (some ⟨p, 0, none⟩), .int .i64 0]) ∧ Below w.heap.size w w' ∧ w.heap.size ≤ h ∧ Pl w' p g h n (List.replicate (2 * n) 0) := by
  have hd : decide ((n : Int) < 1) = false := by simp; omega
  have hd2 : decide (3072 < (n : Int)) = false := by simp; omega
  have hw : IntKind.i64.wrap (2 * (n : Int)) = ((2 * n : Nat) : Int) := by rw [IntKind.wrap_i64]; omega
  go_enter Try.func18, Try.ntmps18
  go_wp2_with fail
  refine (CellsNew_yes (2 * n) _ (by omega) (by omega)).mono ?_
  rintro e w1 ⟨g, h, rfl, bel, hg, hh, hc, _⟩
  go_wp2
  go_ret2
  exact ⟨w1.heap.size, g, h, rfl, bel_after bel (bel_alloc _ _), hh, ⟨Blk.new _ _ _, hc.alloc _, by simp⟩⟩
theorem PlSize_any (p g h n : Nat) (l : List Int) (w : World) (hp : Pl w p g h n l) (hn : n ≤ 3072) :
    Calls Try.prog 25 #[.pointer (some ⟨p, 0, none⟩)] w fun e w' => e = .returned (.int .i64 n) ∧ w = w' := by
  have hS := Size_any g h l w hp.cel
  rw [hp.len] at hS
  have e0 := hp.obj.cell 0
  have ht : ((2 * n : Nat) : Int).tdiv 2 = (n : Int) := by rw [Int.tdiv_eq_ediv_of_nonneg (by omega)]; omega
  replace hS := Lib.hid hS
  go_enter Try.func25, Try.ntmps25
  go_wp2_with fail
  refine hS.out.mono ?_
  rintro e w' ⟨rfl, rfl⟩
  go_wp2
  go_ret
  exact ⟨rfl, rfl⟩
theorem there_any (i : Int) (p g h n : Nat) (l : List Int) (w : World) (hp : Pl w p g h n l) (hn : n ≤ 3072) :
    Calls Try.prog 34 #[.pointer (some ⟨p, 0, none⟩), .int .i64 i] w fun e w' => e = .returned (.bool (decide (0 ≤ i ∧ i < n))) ∧ w = w' := by
  by_cases h0 : 0 ≤ i
  · have hd : decide (0 ≤ i) = true := by simpa using h0
    have hr : decide (0 ≤ i ∧ i < n) = decide (i < n) := by simp [h0]
    rw [hr]
    go_enter Try.func34, Try.ntmps34
    go_wp2_with fail
    refine (PlSize_any _ _ _ _ _ _ hp hn).mono ?_
    rintro e w' ⟨rfl, rfl⟩
    go_wp2
    go_ret
    exact ⟨rfl, rfl⟩
  · have hd : decide (0 ≤ i) = false := by simpa using h0
    have hr : decide (0 ≤ i ∧ i < n) = false := by simp [h0]
    rw [hr]
    go_enter Try.func34, Try.ntmps34
    go_wp2
    go_ret
    exact ⟨rfl, rfl⟩
theorem wd_out {l : List Int} {n : Nat} {i : Int} (hl : l.length = 2 * n) (h : ¬ (0 ≤ i ∧ i < n)) : celAt l (2 * i) = 0 := by
  unfold celAt; rw [if_neg (by omega)]
theorem celAt_rng {w : World} {g h : Nat} {l : List Int} (hc : Cel w g h l) (i : Int) : 0 ≤ celAt l i ∧ celAt l i ≤ 18446744073709551615 := by
  unfold celAt
  split
  · rename_i h; exact (hc.at_ (k := i.toNat) (by omega)).2.2
  · omega
theorem PlLoad_any (i : Int) (p g h n : Nat) (l : List Int) (w : World) (hp : Pl w p g h n l) (hn : n ≤ 3072) :
    Calls Try.prog 19 #[.pointer (some ⟨p, 0, none⟩), .int .i64 i] w fun e w' => e = .returned (unW (celAt l (2 * i))).val ∧ Below w.heap.size w w' := by
  have hb := celAt_rng hp.cel (2 * i)
  by_cases hi : 0 ≤ i ∧ i < n
  · have hd : decide (0 ≤ i ∧ i < n) = true := by simpa using hi
    have hw : IntKind.i64.wrap (2 * i) = 2 * i := by rw [IntKind.wrap_i64]; omega
    have hT := fun W (hW : Pl W p g h n l) => there_any i p g h n l W hW hn
    rw [hd] at hT
    have hL := fun W (hW : Pl W p g h n l) => Load_any (2 * i) g h l W hW.cel (by rw [hW.len]; omega)
    obtain ⟨c, hc⟩ : ∃ c, c = celAt l (2 * i) := ⟨_, rfl⟩
    rw [← hc] at hb hL ⊢
    have hU := fun W => Unpack_any c W hb
    have hv : (unW c).val = .agg #[.int .i64 (c % 4), .int .i64 (c / 65536 % 65536), .int .i64 (c / 256 % 8), .int .i64 (c / 4294967296)] := rfl
    rw [hv] at hU ⊢
    replace hT := Lib.hid hT
    replace hL := Lib.hid hL
    replace hU := Lib.hid hU
    clear hd hv hc
    have hp1 := hp.alloc (.cells #[.int .i64 0, .int .i64 0, .int .i64 0, .int .i64 0] 28)
    go_enter Try.func19, Try.ntmps19
    go_wp2_with fail
    refine (hT.out _ hp1).mono ?_
    rintro e w' ⟨rfl, rfl⟩
    have e0 := hp1.obj.cell 0
    go_wp2_with fail
    refine (hL.out _ hp1).mono ?_
    rintro e w' ⟨rfl, rfl⟩
    go_wp2_with fail
    refine (hU.out _).mono ?_
    rintro e w2 ⟨rfl, b2⟩
    have k2 := (Blk.new w 28 #[.int .i64 0, .int .i64 0, .int .i64 0, .int .i64 0]).bel b2
    have c0 := k2.cell 0
    have c1 := k2.cell 1
    have c2 := k2.cell 2
    have c3 := k2.cell 3
    have f0 := k2.frozen 0
    have f1 := k2.frozen 1
    have f2 := k2.frozen 2
    have f3 := k2.frozen 3
    go_wp2_with fail
    exact bodyPost_ret (v := .agg #[.int .i64 (c % 4), .int .i64 (c / 65536 % 65536), .int .i64 (c / 256 % 8), .int .i64 (c / 4294967296)]) (by simp [results, Try.results19, go_sem, c0, c1, c2, c3, f0, f1, f2, f3]) rfl ⟨rfl, by have := bel_after (bel_alloc _ _) b2; (repeat (first | (with_reducible exact this) | (with_reducible refine Below.setCell ?_ ?_ _; rotate_left; · (first | omega | (simp; done) | (simp; omega) | (have hsz := Below.size this; omega) | (have hsz := Below.size this; simp; omega))) | (with_reducible refine Below.alloc ?_ ?_ _; rotate_left; · (first | omega | (simp; done) | (simp; omega) | (have hsz := Below.size this; omega) | (have hsz := Below.size this; simp; omega))) | (with_reducible refine below_drewN ?_ _) | (with_reducible refine Below.drew ?_)))⟩
  · have hd : decide (0 ≤ i ∧ i < n) = false := by simpa using hi
    have hT := fun W (hW : Pl W p g h n l) => there_any i p g h n l W hW hn
    rw [hd] at hT
    rw [wd_out hp.len hi]
    have hv : (unW 0).val = .agg #[.int .i64 0, .int .i64 0, .int .i64 0, .int .i64 0] := rfl
    rw [hv]
    replace hT := Lib.hid hT
    have hp1 := hp.alloc (.cells #[.int .i64 0, .int .i64 0, .int .i64 0, .int .i64 0] 28)
    go_enter Try.func19, Try.ntmps19
    go_wp2_with fail
    refine (hT.out _ hp1).mono ?_
    rintro e w' ⟨rfl, rfl⟩
    go_wp2
    exact bodyPost_ret (v := .agg #[.int .i64 0, .int .i64 0, .int .i64 0, .int .i64 0]) (by simp [results, Try.results19, go_sem]) rfl ⟨rfl, by have := bel_alloc w (.cells #[.int .i64 0, .int .i64 0, .int .i64 0, .int .i64 0] 28); (repeat (first | (with_reducible exact this) | (with_reducible refine Below.setCell ?_ ?_ _; rotate_left; · (first | omega | (simp; done) | (simp; omega) | (have hsz := Below.size this; omega) | (have hsz := Below.size this; simp; omega))) | (with_reducible refine Below.alloc ?_ ?_ _; rotate_left; · (first | omega | (simp; done) | (simp; omega) | (have hsz := Below.size this; omega) | (have hsz := Below.size this; simp; omega))) | (with_reducible refine below_drewN ?_ _) | (with_reducible refine Below.drew ?_)))⟩
/-- the list behind a Cas -/
def casL (l : List Int) (i : Int) (v : Int) (b : Bool) : List Int := if b then celSet l (2 * i) v else l
theorem casL_len (l : List Int) (i v : Int) (b : Bool) : (casL l i v b).length = l.length := by unfold casL; split <;> simp [celSet_length]
set_option maxHeartbeats 400000 in
theorem PlCas_no1 (i : Int) (a b c d e f g' h' : Int) (p g h n : Nat) (l : List Int) (w : World) (hp : Pl w p g h n l) (hn : n ≤ 3072) (hi : ¬ (0 ≤ i ∧ i < n)) :
    Calls Try.prog 20 #[.pointer (some ⟨p, 0, none⟩), .int .i64 i, .agg #[.int .i64 a, .int .i64 b, .int .i64 c, .int .i64 d], .agg #[.int .i64 e, .int .i64 f, .int .i64 g', .int .i64 h']] w fun r w' => r = .returned (.bool false) ∧ Below w.heap.size w w' := by
  have hd : decide (0 ≤ i ∧ i < n) = false := by simpa using hi
  have hT := fun W (hW : Pl W p g h n l) => there_any i p g h n l W hW hn
  rw [hd] at hT
  replace hT := Lib.hid hT
  clear hd
  have hp1 := (hp.alloc (.cells #[.int .i64 a, .int .i64 b, .int .i64 c, .int .i64 d] 28)).alloc (.cells #[.int .i64 e, .int .i64 f, .int .i64 g', .int .i64 h'] 28)
  have bw := (bel_alloc w (.cells #[.int .i64 a, .int .i64 b, .int .i64 c, .int .i64 d] 28)).alloc (by simp) (.cells #[.int .i64 e, .int .i64 f, .int .i64 g', .int .i64 h'] 28)
  go_enter Try.func20, Try.ntmps20
  go_wp2_with fail
  generalize (w.alloc (.cells #[.int .i64 a, .int .i64 b, .int .i64 c, .int .i64 d] 28)).alloc (.cells #[.int .i64 e, .int .i64 f, .int .i64 g', .int .i64 h'] 28) = W at *
  have hS : ∀ t : Tw (fun w' => ∃ m, w' = W.drewN m), Pl t.w p g h n l := fun t => by obtain ⟨w', m, rfl⟩ := t; exact hp1.drewN m
  have : Nonempty (Tw (fun w' => ∃ m, w' = W.drewN m)) := ⟨⟨W, 0, rfl⟩⟩
  refine region_tw (fun w' => ∃ m, w' = W.drewN m) (by kernel_rfl) (by kernel_rfl) ⟨1, rfl⟩ ?_
  unfold clsS
  repeat (first
    | go_big_quiet_skip
    | (go_big_quiet_want; go_big_quiet_op; first | go_big_quiet_on | go_big_quiet_call (
      (go_at_call 34; exact q_tw_same (hT.out _ (hS _))))))
  refine wpQuiet_nil ?_
  intro tq
  go_wp2
  go_ret
  obtain ⟨w', m, rfl⟩ := tq
  exact ⟨rfl, below_drewN bw m⟩
set_option maxHeartbeats 400000 in
theorem PlCas_no2 (i : Int) (a b c d e f g' h' : Int) (p g h n : Nat) (l : List Int) (w : World) (hp : Pl w p g h n l) (hn : n ≤ 3072) (hi : 0 ≤ i ∧ i < n) (hm : ¬ (Wd.mk a b c d).may (Wd.mk e f g' h')) :
    Calls Try.prog 20 #[.pointer (some ⟨p, 0, none⟩), .int .i64 i, .agg #[.int .i64 a, .int .i64 b, .int .i64 c, .int .i64 d], .agg #[.int .i64 e, .int .i64 f, .int .i64 g', .int .i64 h']] w fun r w' => r = .returned (.bool false) ∧ Below w.heap.size w w' := by
  have hT := fun W (hW : Pl W p g h n l) => there_any i p g h n l W hW hn
  rw [show decide (0 ≤ i ∧ i < n) = true by simpa using hi] at hT
  replace hT := Lib.hid hT
  have hM := fun W => May_any a b c d e f g' h' W
  rw [show decide ((Wd.mk a b c d).may (Wd.mk e f g' h')) = false by simpa using hm] at hM
  replace hM := Lib.hid hM
  have hp1 := (hp.alloc (.cells #[.int .i64 a, .int .i64 b, .int .i64 c, .int .i64 d] 28)).alloc (.cells #[.int .i64 e, .int .i64 f, .int .i64 g', .int .i64 h'] 28)
  have bw := (bel_alloc w (.cells #[.int .i64 a, .int .i64 b, .int .i64 c, .int .i64 d] 28)).alloc (by simp) (.cells #[.int .i64 e, .int .i64 f, .int .i64 g', .int .i64 h'] 28)
  have k1 := (Blk.new w 28 #[.int .i64 a, .int .i64 b, .int .i64 c, .int .i64 d]).alloc (.cells #[.int .i64 e, .int .i64 f, .int .i64 g', .int .i64 h'] 28)
  have k2 := Blk.new1 w (.cells #[.int .i64 a, .int .i64 b, .int .i64 c, .int .i64 d] 28) 28 #[.int .i64 e, .int .i64 f, .int .i64 g', .int .i64 h']
  go_enter Try.func20, Try.ntmps20
  go_wp2_with fail
  generalize (w.alloc (.cells #[.int .i64 a, .int .i64 b, .int .i64 c, .int .i64 d] 28)).alloc (.cells #[.int .i64 e, .int .i64 f, .int .i64 g', .int .i64 h'] 28) = W at *
  have hph := hp1.obj.lt
  have hS : ∀ t : Tw (fun w' => Below W.heap.size W w'), Pl t.w p g h n l := fun t => hp1.bel t.h
  have e0 : ∀ t : Tw (fun w' => Below W.heap.size W w'), t.w.cell? ⟨p, 0, none⟩ = some (.pointer (some ⟨g, 0, none⟩)) := fun t => hp1.obj.tw hph t 0
  have x0 : ∀ t : Tw (fun w' => Below W.heap.size W w'), t.w.cell? ⟨w.heap.size, 0, none⟩ = some (.int .i64 a) := fun t => k1.tw k1.lt t 0
  have x1 : ∀ t : Tw (fun w' => Below W.heap.size W w'), t.w.cell? ⟨w.heap.size, 1, none⟩ = some (.int .i64 b) := fun t => k1.tw k1.lt t 1
  have x2 : ∀ t : Tw (fun w' => Below W.heap.size W w'), t.w.cell? ⟨w.heap.size, 2, none⟩ = some (.int .i64 c) := fun t => k1.tw k1.lt t 2
  have x3 : ∀ t : Tw (fun w' => Below W.heap.size W w'), t.w.cell? ⟨w.heap.size, 3, none⟩ = some (.int .i64 d) := fun t => k1.tw k1.lt t 3
  have y0 : ∀ t : Tw (fun w' => Below W.heap.size W w'), t.w.cell? ⟨w.heap.size + 1, 0, none⟩ = some (.int .i64 e) := fun t => k2.tw k2.lt t 0
  have y1 : ∀ t : Tw (fun w' => Below W.heap.size W w'), t.w.cell? ⟨w.heap.size + 1, 1, none⟩ = some (.int .i64 f) := fun t => k2.tw k2.lt t 1
  have y2 : ∀ t : Tw (fun w' => Below W.heap.size W w'), t.w.cell? ⟨w.heap.size + 1, 2, none⟩ = some (.int .i64 g') := fun t => k2.tw k2.lt t 2
  have y3 : ∀ t : Tw (fun w' => Below W.heap.size W w'), t.w.cell? ⟨w.heap.size + 1, 3, none⟩ = some (.int .i64 h') := fun t => k2.tw k2.lt t 3
  have : Nonempty (Tw (fun w' => Below W.heap.size W w')) := ⟨⟨W, Below.refl _ _⟩⟩
  refine region_tw (fun w' => Below (W).heap.size (W) w') (by kernel_rfl) (by kernel_rfl) (Below.refl _ _).drew ?_
  unfold clsS
  repeat (first
    | go_big_quiet_skip
    | (go_big_quiet_want; go_big_quiet_op; first | go_big_quiet_on | go_big_quiet_call (
      (first 
      | (go_at_call 34; exact q_tw_same (hT.out _ (hS _)))
      | (go_at_call 16; exact q_tw (Nat.le_refl _) (hM.out _))))))
  refine wpQuiet_nil ?_
  intro tq
  go_wp2
  go_ret
  exact ⟨rfl, bel_after bw tq.h⟩
set_option maxHeartbeats 400000 in
theorem PlCas_yes (i : Int) (a b c d e f g' h' : Int) (p g h n : Nat) (l : List Int) (w : World) (hp : Pl w p g h n l) (hn : n ≤ 3072) (hi : 0 ≤ i ∧ i < n) (hm : (Wd.mk a b c d).may (Wd.mk e f g' h')) (B : Bool) (hB : decide (celAt l (2 * i) = (Wd.mk a b c d).num) = B) :
    Calls Try.prog 20 #[.pointer (some ⟨p, 0, none⟩), .int .i64 i, .agg #[.int .i64 a, .int .i64 b, .int .i64 c, .int .i64 d], .agg #[.int .i64 e, .int .i64 f, .int .i64 g', .int .i64 h']] w fun r w' => r = .returned (.bool B) ∧ Pl w' p g h n (casL l i (Wd.mk e f g' h').num B) ∧ Upd (· = h) w w' := by
  have hT := fun W (hW : Pl W p g h n l) => there_any i p g h n l W hW hn
  rw [show decide (0 ≤ i ∧ i < n) = true by simpa using hi] at hT
  replace hT := Lib.hid hT
  have hM := fun W => May_any a b c d e f g' h' W
  rw [show decide ((Wd.mk a b c d).may (Wd.mk e f g' h')) = true by simpa using hm] at hM
  replace hM := Lib.hid hM
  have hN1 := Lib.hid hm.1
  have hN2 := Lib.hid hm.2.1
  have hb2 := num_bd hm.2.1
  have hw : IntKind.i64.wrap (2 * i) = 2 * i := by rw [IntKind.wrap_i64]; omega
  have hC : ∀ W W' : World, Pl W p g h n l → Below W.heap.size W W' → Calls Try.prog 36 #[.pointer (some ⟨g, 0, none⟩), .int .i64 (2 * i), .int .u64 (Wd.mk a b c d).num, .int .u64 (Wd.mk e f g' h').num] W' fun r w' => r = .returned (.bool B) ∧ (Pl w' p g h n (casL l i (Wd.mk e f g' h').num B) ∧ Upd (· = h) W w') := fun W W' hW hb => by
    have hW' := hW.bel hb
    refine (Cas_any (2 * i) (Wd.mk a b c d).num (Wd.mk e f g' h').num g h l W' hW'.cel (by rw [hW.len]; omega) (u64_inr hb2)).mono fun r w' ⟨h1, h2, h3⟩ => ?_
    have hx : decide (0 ≤ 2 * i ∧ 2 * i < l.length ∧ celAt l (2 * i) = (Wd.mk a b c d).num) = B := by rw [← hB]; simp only [hW.len]; congr 1; apply propext; constructor; exact fun h => h.2.2; exact fun h => ⟨by omega, by omega, h⟩
    refine ⟨by rw [h1, hx], ⟨hW'.obj.upd h3 (hW'.ph), ?_, by rw [casL_len]; exact hW.len⟩, ⟨h3.os.trans hb.os, h3.tape.trans hb.tape, h3.output.trans hb.output, Nat.le_trans hb.size h3.size, fun k hk hne => (h3.block k (Nat.lt_of_lt_of_le hk hb.size) hne).trans (hb.block k hk)⟩⟩
    unfold casL
    rw [← hx]
    by_cases hq : 0 ≤ 2 * i ∧ 2 * i < l.length ∧ celAt l (2 * i) = (Wd.mk a b c d).num
    · rw [if_pos hq] at h2; rw [decide_eq_true hq, if_pos rfl]; exact h2
    · rw [if_neg hq] at h2; rw [decide_eq_false hq, if_neg (by simp)]; exact h2
  replace hC := Lib.hid hC
  clear hb2 hB hm
  have hp1 := (hp.alloc (.cells #[.int .i64 a, .int .i64 b, .int .i64 c, .int .i64 d] 28)).alloc (.cells #[.int .i64 e, .int .i64 f, .int .i64 g', .int .i64 h'] 28)
  have bw := (bel_alloc w (.cells #[.int .i64 a, .int .i64 b, .int .i64 c, .int .i64 d] 28)).alloc (by simp) (.cells #[.int .i64 e, .int .i64 f, .int .i64 g', .int .i64 h'] 28)
  have k1 := (Blk.new w 28 #[.int .i64 a, .int .i64 b, .int .i64 c, .int .i64 d]).alloc (.cells #[.int .i64 e, .int .i64 f, .int .i64 g', .int .i64 h'] 28)
  have k2 := Blk.new1 w (.cells #[.int .i64 a, .int .i64 b, .int .i64 c, .int .i64 d] 28) 28 #[.int .i64 e, .int .i64 f, .int .i64 g', .int .i64 h']
  go_enter Try.func20, Try.ntmps20
  go_wp2_with fail
  generalize (w.alloc (.cells #[.int .i64 a, .int .i64 b, .int .i64 c, .int .i64 d] 28)).alloc (.cells #[.int .i64 e, .int .i64 f, .int .i64 g', .int .i64 h'] 28) = W at *
  have hph := hp1.obj.lt
  have hS : ∀ t : Tw (fun w' => Below W.heap.size W w'), Pl t.w p g h n l := fun t => hp1.bel t.h
  have e0 : ∀ t : Tw (fun w' => Below W.heap.size W w'), t.w.cell? ⟨p, 0, none⟩ = some (.pointer (some ⟨g, 0, none⟩)) := fun t => hp1.obj.tw hph t 0
  have x0 : ∀ t : Tw (fun w' => Below W.heap.size W w'), t.w.cell? ⟨w.heap.size, 0, none⟩ = some (.int .i64 a) := fun t => k1.tw k1.lt t 0
  have x1 : ∀ t : Tw (fun w' => Below W.heap.size W w'), t.w.cell? ⟨w.heap.size, 1, none⟩ = some (.int .i64 b) := fun t => k1.tw k1.lt t 1
  have x2 : ∀ t : Tw (fun w' => Below W.heap.size W w'), t.w.cell? ⟨w.heap.size, 2, none⟩ = some (.int .i64 c) := fun t => k1.tw k1.lt t 2
  have x3 : ∀ t : Tw (fun w' => Below W.heap.size W w'), t.w.cell? ⟨w.heap.size, 3, none⟩ = some (.int .i64 d) := fun t => k1.tw k1.lt t 3
  have y0 : ∀ t : Tw (fun w' => Below W.heap.size W w'), t.w.cell? ⟨w.heap.size + 1, 0, none⟩ = some (.int .i64 e) := fun t => k2.tw k2.lt t 0
  have y1 : ∀ t : Tw (fun w' => Below W.heap.size W w'), t.w.cell? ⟨w.heap.size + 1, 1, none⟩ = some (.int .i64 f) := fun t => k2.tw k2.lt t 1
  have y2 : ∀ t : Tw (fun w' => Below W.heap.size W w'), t.w.cell? ⟨w.heap.size + 1, 2, none⟩ = some (.int .i64 g') := fun t => k2.tw k2.lt t 2
  have y3 : ∀ t : Tw (fun w' => Below W.heap.size W w'), t.w.cell? ⟨w.heap.size + 1, 3, none⟩ = some (.int .i64 h') := fun t => k2.tw k2.lt t 3
  have : Nonempty (Tw (fun w' => Below W.heap.size W w')) := ⟨⟨W, Below.refl _ _⟩⟩
  refine wp_region_mid 19 _ (fun w' => Below W.heap.size W w') (fun w' => Pl w' p g h n (casL l i (Wd.mk e f g' h').num B) ∧ Upd (· = h) W w') (by rfl) (by kernel_rfl) (by kernel_rfl) (by kernel_rfl) (by kernel_rfl) (Below.refl _ _).drew ?_
  unfold clsS
  simp only [List.take_succ_cons, List.take_zero, List.drop_succ_cons, List.drop_zero]
  repeat (first
    | go_big_quiet_skip
    | (go_big_quiet_want; go_big_quiet_op; first | go_big_quiet_on | go_big_quiet_call (
      (first
      | (go_at_call 34; exact q_tw_same (hT.out _ (hS _)))
      | (go_at_call 16; exact q_tw (Nat.le_refl _) (hM.out _))
      | (go_at_call 32; exact q_tw (Nat.le_refl _) (number_any _ _ _ _ _ hN1.out))
      | (go_at_call 32; exact q_tw (Nat.le_refl _) (number_any _ _ _ _ _ hN2.out))))))
  refine wpQuiet_nil ?_
  refine ⟨by kernel_rfl, _, fun t => ⟨_, _, by go_simp, hC.out W _ hp1 t.h⟩, fun hne => ?_⟩
  simp only [List.getElem_toArray, List.getElem_cons_zero, List.getElem_cons_succ, Act.put, List.setIfInBounds_toArray, List.set_cons_zero, List.set_cons_succ]
  repeat (first
    | go_big_quiet_skip
    | (go_big_quiet_want; go_big_quiet_op; go_big_quiet_on))
  refine wpQuiet_nil ?_
  intro tq
  go_wp2
  go_ret
  have := tq.h.2
  exact ⟨rfl, tq.h.1, this.os.trans bw.os, this.tape.trans bw.tape, this.output.trans bw.output, Nat.le_trans bw.size this.size, fun k hk hne => (this.block k (Nat.lt_of_lt_of_le hk bw.size) hne).trans (bw.block k hk)⟩
theorem PlCas_any (i : Int) (a b c d e f g' h' : Int) (p g h n : Nat) (l : List Int) (w : World) (hp : Pl w p g h n l) (hn : n ≤ 3072) (B : Bool) (hB : decide ((0 ≤ i ∧ i < n) ∧ (Wd.mk a b c d).may (Wd.mk e f g' h') ∧ celAt l (2 * i) = (Wd.mk a b c d).num) = B) :
    Calls Try.prog 20 #[.pointer (some ⟨p, 0, none⟩), .int .i64 i, .agg #[.int .i64 a, .int .i64 b, .int .i64 c, .int .i64 d], .agg #[.int .i64 e, .int .i64 f, .int .i64 g', .int .i64 h']] w fun r w' => r = .returned (.bool B) ∧ Pl w' p g h n (casL l i (Wd.mk e f g' h').num B) ∧ Upd (· = h) w w' := by
  by_cases hi : 0 ≤ i ∧ i < n
  · by_cases hm : (Wd.mk a b c d).may (Wd.mk e f g' h')
    · exact PlCas_yes i a b c d e f g' h' p g h n l w hp hn hi hm B (by rw [← hB]; congr 1; simp [hi, hm])
    · obtain rfl : B = false := by rw [← hB]; exact decide_eq_false fun h => hm h.2.1
      exact (PlCas_no2 i a b c d e f g' h' p g h n l w hp hn hi hm).mono fun r w' ⟨h1, h2⟩ => ⟨h1, hp.bel h2, Upd.of_below h2 _⟩
  · obtain rfl : B = false := by rw [← hB]; exact decide_eq_false fun h => hi h.1
    exact (PlCas_no1 i a b c d e f g' h' p g h n l w hp hn hi).mono fun r w' ⟨h1, h2⟩ => ⟨h1, hp.bel h2, Upd.of_below h2 _⟩
end Go.Proofs.Ytgkimfodbbgdbaa
