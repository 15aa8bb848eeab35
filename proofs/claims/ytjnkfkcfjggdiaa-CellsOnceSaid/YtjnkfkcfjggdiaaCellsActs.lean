/- Every input of CellsActs answers true, and reads behind the call as it read before. No condition. -/
import Derived.Test.YtjnkfkcfjggdiaaCellsRef
import Derived.Test.YtjnkfkcfjggdiaaFrame
namespace Go.Proofs.Ytjnkfkcfjggdiaa
set_option linter.unusedVariables false
open Go.RowKit
theorem none_any (w : World) : Calls Try.prog 14 #[] w fun e w' => e = .returned (.pointer none) ∧ w = w' := by
  go_enter Try.func14, Try.ntmps14
  go_wp2
  go_ret
  exact ⟨rfl, rfl⟩
theorem Store_nil (i v : Int) (w : World) : Calls Try.prog 8 #[.pointer none, .int .i64 i, .int .u64 v] w fun e w' => e = .returned (.tuple #[]) ∧ w = w' := by
  go_enter Try.func8, Try.ntmps8
  go_wp2_with (go_at_call 20; refine (at_nil _ _).mono ?_; rintro e w' ⟨rfl, rfl⟩)
  go_end0
  exact ⟨rfl, rfl⟩
theorem Load_nil (i : Int) (w : World) : Calls Try.prog 10 #[.pointer none, .int .i64 i] w fun e w' => e = .returned (.int .u64 0) ∧ w = w' := by
  go_enter Try.func10, Try.ntmps10
  go_wp2_with (go_at_call 20; refine (at_nil _ _).mono ?_; rintro e w' ⟨rfl, rfl⟩)
  go_ret
  exact ⟨rfl, rfl⟩
theorem Cas_nil (i o v : Int) (w : World) : Calls Try.prog 9 #[.pointer none, .int .i64 i, .int .u64 o, .int .u64 v] w fun e w' => e = .returned (.bool false) ∧ w = w' := by
  go_enter Try.func9, Try.ntmps9
  go_wp2_with (go_at_call 20; refine (at_nil _ _).mono ?_; rintro e w' ⟨rfl, rfl⟩)
  go_ret
  exact ⟨rfl, rfl⟩
theorem Add_nil (i v : Int) (w : World) : Calls Try.prog 12 #[.pointer none, .int .i64 i, .int .u64 v] w fun e w' => e = .returned (.int .u64 0) ∧ w = w' := by
  go_enter Try.func12, Try.ntmps12
  go_wp2_with (go_at_call 20; refine (at_nil _ _).mono ?_; rintro e w' ⟨rfl, rfl⟩)
  go_ret
  exact ⟨rfl, rfl⟩
theorem Size_nil (w : World) : Calls Try.prog 15 #[.pointer none] w fun e w' => e = .returned (.int .i64 0) ∧ w = w' := by
  go_enter Try.func15, Try.ntmps15
  go_wp2
  go_ret
  exact ⟨rfl, rfl⟩
theorem Copy_nil (w : World) : Calls Try.prog 13 #[.pointer none] w fun e w' => e = .returned (.slice none 0 0) ∧ w = w' := by
  go_enter Try.func13, Try.ntmps13
  go_wp2_with (go_at_call 15; refine (Size_nil _).mono ?_; rintro e w' ⟨rfl, rfl⟩)
  go_loop [3, 7] (fun v i => v = .slice none 0 0 ∧ i = .int .i64 0) (fun _ _ => 0)
  case atStart => exact ⟨rfl, rfl⟩
  case round =>
    obtain ⟨rfl, rfl⟩ := hrel
    go_wp2
    go_ret
    exact ⟨rfl, rfl⟩
/-- the rows of calls -/
def ActRd (w : World) (A : Option Addr) (n : Nat) : Prop :=
  0 < n → ∃ b o, A = some ⟨b, o, none⟩ ∧ b < w.heap.size ∧ ∀ i, i < n → ∃ x0 x1 x2 x3 : Int, w.cell? ⟨b, o + i * 4, none⟩ = some (.int .i64 x0) ∧ w.cell? ⟨b, o + i * 4 + 1, none⟩ = some (.int .i64 x1) ∧
    w.cell? ⟨b, o + i * 4 + 2, none⟩ = some (.int .u64 x2) ∧ w.cell? ⟨b, o + i * 4 + 3, none⟩ = some (.int .u64 x3) ∧ inr .i64 x0 ∧ inr .i64 x1 ∧ inr .u64 x2 ∧ inr .u64 x3
structure ActsRel (m n B : Nat) (w : World) (g h gl k : Nat) (L : List Int) (wr : World) : Prop where
  hk : k ≤ m
  hl : L.length = n
  hc : Cel wr g h L
  own : Own .u64 22 wr B (.slice (some ⟨gl, 0, none⟩) n n) L
  bel : Below B w wr
set_option maxRecDepth 100000 in
set_option maxHeartbeats 1000000 in
theorem CellsActs_yes (n : Nat) (A : Option Addr) (m cap : Nat) (w : World) (hr : ActRd w A m) (hm : m ≤ 9223372036854775807) (h1 : 1 ≤ n) (h2 : n ≤ 65536) :
    Calls Try.prog 5 #[.int .i64 n, .slice A m cap] w fun e w' => e = .returned (.bool true) ∧ Below w.heap.size w w' := by
  obtain ⟨i0, hi, hz0, hz1, hz2⟩ := info_parts info_u64
  have hmk := fun W => make_one (P := Try.prog) 23 22 i0 _ Try.underlying23 hi hz0 hz1 rfl .i64 .i64 n (by rw [hz2]; omega) (by omega) W
  have hn1 : decide ((n : Int) < 1) = false := by simp; omega
  have hn2 : decide (65536 < (n : Int)) = false := by simp; omega
  go_enter Try.func5, Try.ntmps5
  go_wp2_with (first
    | (go_at_call 14; refine (none_any _).mono ?_; rintro e w' ⟨rfl, rfl⟩)
    | (go_at_call 8; refine (Store_nil _ _ _).mono ?_; rintro e w' ⟨rfl, rfl⟩)
    | (go_at_call 11; refine (swaps_any _).mono ?_; rintro e w1 ⟨rfl, hb1⟩)
    | (go_at_call 10; refine (Load_nil _ _).mono ?_; rintro e w' ⟨rfl, rfl⟩)
    | (go_at_call 9; refine (Cas_nil _ _ _ _).mono ?_; rintro e w' ⟨rfl, rfl⟩)
    | (go_at_call 12; refine (Add_nil _ _ _).mono ?_; rintro e w' ⟨rfl, rfl⟩)
    | (go_at_call 15; refine (Size_nil _).mono ?_; rintro e w' ⟨rfl, rfl⟩)
    | (go_at_call 13; refine (Copy_nil _).mono ?_; rintro e w' ⟨rfl, rfl⟩)
    | (go_at_call 7; refine (CellsNew_yes n _ (by omega) (by omega)).mono ?_; rintro e w2 ⟨g, h, rfl, bel2, hg, hh, hc, _⟩))
  have bel3 : Below w.heap.size w (w2.alloc (.cells (Array.replicate n (.int .u64 0)) 22)) := ((hb1.trans (bel2.mono hb1.size))).alloc (by have := hb1.size; have := bel2.size; omega) _
  have hsz : w.heap.size ≤ w2.heap.size := by have := hb1.size; have := bel2.size; omega
  have hwh : w.heap.size ≤ h := by have := hb1.size; omega
  have own0 := Own.new .u64 w2 22 w.heap.size hsz (List.replicate n 0) (by intro x hx; rw [List.mem_replicate] at hx; rw [hx.2]; exact u64_inr (by omega)) (Array.replicate n (.int .u64 0)) (by rw [List.map_replicate]; simp) n (by simp) (by simp [maxLen]; omega)
  have hc0 := hc.alloc (.cells (Array.replicate n (.int .u64 0)) 22)
  obtain ⟨gl, hgl⟩ : ∃ gl, gl = w2.heap.size := ⟨_, rfl⟩
  rw [← hgl] at own0 ⊢
  clear hc bel2 hb1 hgl
  go_loopw [8] (fun i wr => ∃ (k : Nat) (L : List Int), i = .int .i64 k ∧ ActsRel m n w.heap.size w g h gl k L wr) (fun i _ => m - (intOf i).toNat)
  case atStart => exact ⟨0, _, rfl, Nat.zero_le _, by simp, hc0, own0, bel3⟩
  case round =>
    clear hc0 own0 bel3 hmk
    obtain ⟨k, L, rfl, hk, hl, hc, own, bel⟩ := hrel
    by_cases hlt : k < m ∧ k < 60
    · obtain ⟨hlt, hlt60⟩ := hlt
      obtain ⟨b, o, rfl, hbl, hcl⟩ := hr (by omega)
      obtain ⟨x0, x1, x2, x3, c0, c1, c2, c3, r0, r1, r2, r3⟩ := hcl k hlt
      clear hcl
      replace c0 := bel.cell (p := ⟨b, o + k * 4, none⟩) hbl |>.trans c0
      replace c1 := bel.cell (p := ⟨b, o + k * 4 + 1, none⟩) hbl |>.trans c1
      replace c2 := bel.cell (p := ⟨b, o + k * 4 + 2, none⟩) hbl |>.trans c2
      replace c3 := bel.cell (p := ⟨b, o + k * 4 + 3, none⟩) hbl |>.trans c3
      have hd : decide (k < m) = true := by simpa using hlt
      have hd2 : decide ((k : Int) < 60) = true := by simp; omega
      replace hl := Lib.hid hl
      obtain ⟨q, hq, hq4⟩ := modn x0 4 (by omega)
      have hq' : q = 0 ∨ q = 1 ∨ q = 2 ∨ q = 3 := by omega
      have b2 := inr_u64 r2
      have b3 := inr_u64 r3
      clear hq4 r0
      have own1 := own.alloc (.cells #[.int .i64 x0, .int .i64 x1, .int .u64 x2, .int .u64 x3] 40)
      have hc1 := hc.alloc (.cells #[.int .i64 x0, .int .i64 x1, .int .u64 x2, .int .u64 x3] 40)
      have bel1 : Below w.heap.size w (wr.alloc (.cells #[.int .i64 x0, .int .i64 x1, .int .u64 x2, .int .u64 x3] 40)) := bel.alloc bel.size _
      have hbk := Blk.new wr 40 #[.int .i64 x0, .int .i64 x1, .int .u64 x2, .int .u64 x3]
      obtain ⟨_, _, _, hob⟩ := hc1.obj
      have hgne : gl ≠ h := (own1.ne hc1.row (by decide)).symm
      have hgne2 : gl ≠ g := (own1.ne hob (by decide)).symm
      have hhb := hbk.ne_ hc1.row (by decide)
      have hglw := (own.lt gl rfl).1
      rcases hq' with rfl | rfl | rfl | rfl
      · have e0 : doNum L (0 : Nat) x1 x2 x3 = celAt L x1 := by unfold doNum celAt; split <;> simp_all
        have e1 : doList L (0 : Nat) x1 x2 x3 = L := by unfold doList; simp
        replace e0 := Lib.hid e0
        replace e1 := Lib.hid e1
        go_wp2_with fail
        refine (Load_any x1 g h L _ hc1 (by rw [hl.out]; omega)).mono ?_
        rintro e w3 ⟨rfl, rfl⟩
        have hu := Upd.refl (· = h) (wr.alloc (.cells #[.int .i64 x0, .int .i64 x1, .int .u64 x2, .int .u64 x3] 40))
        have hc3 := hc1
        have hbk2 := hbk.upd hu hhb
        have d1 : (wr.alloc (.cells #[.int .i64 x0, .int .i64 x1, .int .u64 x2, .int .u64 x3] 40)).cell? ⟨wr.heap.size, 1, none⟩ = some (.int .i64 x1) := hbk2.cell 1
        have d2 : (wr.alloc (.cells #[.int .i64 x0, .int .i64 x1, .int .u64 x2, .int .u64 x3] 40)).cell? ⟨wr.heap.size, 2, none⟩ = some (.int .u64 x2) := hbk2.cell 2
        have d3 : (wr.alloc (.cells #[.int .i64 x0, .int .i64 x1, .int .u64 x2, .int .u64 x3] 40)).cell? ⟨wr.heap.size, 3, none⟩ = some (.int .u64 x3) := hbk2.cell 3
        have own3 := own1.updne hc1.row (by decide) hu
        have bel3 := bel1.trans (hu.below bel1.size (fun k hk e => by subst e; omega))
        clear hu
        go_wp2_with fail
        refine (Do_any 0 _ rfl x1 x2 x3 gl n w.heap.size L n _ own3 hl.out h2 (by omega) b2 b3).mono ?_
        rw [e0.out, e1.out]
        rintro e w4 ⟨rfl, own4, hu4⟩
        go_wp2_with fail
        go_roundw
        case rel => exact ⟨k + 1, _, by go_num, by omega, by exact hl.out, hc3.upd hu4 hgne2.symm hgne.symm, own4, bel3.trans (hu4.below bel3.size (fun k hk e => by subst e; omega))⟩
        case measure => simp [intOf]; omega
      · have e0 : doNum L (1 : Nat) x1 x2 x3 = 0 := by unfold doNum; simp
        have e1 : doList L (1 : Nat) x1 x2 x3 = celSet L x1 x2 := by unfold doList; simp
        replace e0 := Lib.hid e0
        replace e1 := Lib.hid e1
        go_wp2_with fail
        refine (Store_any x1 x2 g h L _ hc1 (by rw [hl.out]; omega) r2).mono ?_
        rintro e w3 ⟨rfl, hc3, hu⟩
        have hbk2 := hbk.upd hu hhb
        have d1 : w3.cell? ⟨wr.heap.size, 1, none⟩ = some (.int .i64 x1) := hbk2.cell 1
        have d2 : w3.cell? ⟨wr.heap.size, 2, none⟩ = some (.int .u64 x2) := hbk2.cell 2
        have d3 : w3.cell? ⟨wr.heap.size, 3, none⟩ = some (.int .u64 x3) := hbk2.cell 3
        have own3 := own1.updne hc1.row (by decide) hu
        have bel3 := bel1.trans (hu.below bel1.size (fun k hk e => by subst e; omega))
        clear hu
        go_wp2_with fail
        refine (Do_any 1 _ rfl x1 x2 x3 gl n w.heap.size L n _ own3 hl.out h2 (by omega) b2 b3).mono ?_
        rw [e0.out, e1.out]
        rintro e w4 ⟨rfl, own4, hu4⟩
        go_wp2_with fail
        go_roundw
        case rel => exact ⟨k + 1, _, by go_num, by omega, by rw [celSet_length]; exact hl.out, hc3.upd hu4 hgne2.symm hgne.symm, own4, bel3.trans (hu4.below bel3.size (fun k hk e => by subst e; omega))⟩
        case measure => simp [intOf]; omega
      · have hcas := Cas_any x1 x2 x3 g h L _ hc1 (by rw [hl.out]; omega) r3
        have f0 : doNum L (2 : Nat) x1 x2 x3 = if 0 ≤ x1 ∧ x1 < L.length ∧ celAt L x1 = x2 then 1 else 0 := by
          unfold doNum
          by_cases h1 : 0 ≤ x1 ∧ x1 < L.length
          · rw [if_pos h1]; simp [h1.1, h1.2]
          · rw [if_neg h1, if_neg (fun e => h1 ⟨e.1, e.2.1⟩)]
        have f1 : doList L (2 : Nat) x1 x2 x3 = if 0 ≤ x1 ∧ x1 < L.length ∧ celAt L x1 = x2 then celSet L x1 x3 else L := by unfold doList; simp
        by_cases hcs : 0 ≤ x1 ∧ x1 < L.length ∧ celAt L x1 = x2
        · rw [decide_eq_true hcs, if_pos hcs] at hcas
          rw [if_pos hcs] at f0 f1
          replace hcas := Lib.hid hcas
          clear hcs
          have e0 : doNum L (2 : Nat) x1 x2 x3 = 1 := f0
          have e1 : doList L (2 : Nat) x1 x2 x3 = celSet L x1 x3 := f1
          replace e0 := Lib.hid e0
          replace e1 := Lib.hid e1
          go_wp2_with fail
          refine hcas.out.mono ?_
          rintro e w3 ⟨rfl, hc3, hu⟩
          have hbk2 := hbk.upd hu hhb
          have d1 : w3.cell? ⟨wr.heap.size, 1, none⟩ = some (.int .i64 x1) := hbk2.cell 1
          have d2 : w3.cell? ⟨wr.heap.size, 2, none⟩ = some (.int .u64 x2) := hbk2.cell 2
          have d3 : w3.cell? ⟨wr.heap.size, 3, none⟩ = some (.int .u64 x3) := hbk2.cell 3
          have own3 := own1.updne hc1.row (by decide) hu
          have bel3 := bel1.trans (hu.below bel1.size (fun k hk e => by subst e; omega))
          clear hu
          go_wp2_with fail
          refine (Do_any 2 _ rfl x1 x2 x3 gl n w.heap.size L n _ own3 hl.out h2 (by omega) b2 b3).mono ?_
          rw [e0.out, e1.out]
          rintro e w4 ⟨rfl, own4, hu4⟩
          go_wp2_with fail
          go_roundw
          case rel => exact ⟨k + 1, _, by go_num, by omega, by rw [celSet_length]; exact hl.out, hc3.upd hu4 hgne2.symm hgne.symm, own4, bel3.trans (hu4.below bel3.size (fun k hk e => by subst e; omega))⟩
          case measure => simp [intOf]; omega
        · rw [decide_eq_false hcs, if_neg hcs] at hcas
          rw [if_neg hcs] at f0 f1
          replace hcas := Lib.hid hcas
          clear hcs
          have e0 : doNum L (2 : Nat) x1 x2 x3 = 0 := f0
          have e1 : doList L (2 : Nat) x1 x2 x3 = L := f1
          replace e0 := Lib.hid e0
          replace e1 := Lib.hid e1
          go_wp2_with fail
          refine hcas.out.mono ?_
          rintro e w3 ⟨rfl, hc3, hu⟩
          have hbk2 := hbk.upd hu hhb
          have d1 : w3.cell? ⟨wr.heap.size, 1, none⟩ = some (.int .i64 x1) := hbk2.cell 1
          have d2 : w3.cell? ⟨wr.heap.size, 2, none⟩ = some (.int .u64 x2) := hbk2.cell 2
          have d3 : w3.cell? ⟨wr.heap.size, 3, none⟩ = some (.int .u64 x3) := hbk2.cell 3
          have own3 := own1.updne hc1.row (by decide) hu
          have bel3 := bel1.trans (hu.below bel1.size (fun k hk e => by subst e; omega))
          clear hu
          go_wp2_with fail
          refine (Do_any 2 _ rfl x1 x2 x3 gl n w.heap.size L n _ own3 hl.out h2 (by omega) b2 b3).mono ?_
          rw [e0.out, e1.out]
          rintro e w4 ⟨rfl, own4, hu4⟩
          go_wp2_with fail
          go_roundw
          case rel => exact ⟨k + 1, _, by go_num, by omega, by exact hl.out, hc3.upd hu4 hgne2.symm hgne.symm, own4, bel3.trans (hu4.below bel3.size (fun k hk e => by subst e; omega))⟩
          case measure => simp [intOf]; omega
      · have e0 : doNum L (3 : Nat) x1 x2 x3 = (if 0 ≤ x1 ∧ x1 < L.length then (celAt L x1 + x2) % 18446744073709551616 else 0) := by unfold doNum; simp
        have e1 : doList L (3 : Nat) x1 x2 x3 = celSet L x1 ((celAt L x1 + x2) % 18446744073709551616) := by unfold doList; simp
        replace e0 := Lib.hid e0
        replace e1 := Lib.hid e1
        go_wp2_with fail
        refine (Add_any x1 x2 g h L _ hc1 (by rw [hl.out]; omega)).mono ?_
        rw [← e0.out]
        rintro e w3 ⟨rfl, hc3, hu⟩
        have hbk2 := hbk.upd hu hhb
        have d1 : w3.cell? ⟨wr.heap.size, 1, none⟩ = some (.int .i64 x1) := hbk2.cell 1
        have d2 : w3.cell? ⟨wr.heap.size, 2, none⟩ = some (.int .u64 x2) := hbk2.cell 2
        have d3 : w3.cell? ⟨wr.heap.size, 3, none⟩ = some (.int .u64 x3) := hbk2.cell 3
        have own3 := own1.updne hc1.row (by decide) hu
        have bel3 := bel1.trans (hu.below bel1.size (fun k hk e => by subst e; omega))
        clear hu
        go_wp2_with fail
        refine (Do_any 3 _ rfl x1 x2 x3 gl n w.heap.size L n _ own3 hl.out h2 (by omega) b2 b3).mono ?_
        rw [e1.out]
        rintro e w4 ⟨rfl, own4, hu4⟩
        go_wp2_with fail
        go_roundw
        case rel => exact ⟨k + 1, _, by go_num, by omega, by rw [celSet_length]; exact hl.out, hc3.upd hu4 hgne2.symm hgne.symm, own4, bel3.trans (hu4.below bel3.size (fun k hk e => by subst e; omega))⟩
        case measure => simp [intOf]; omega
    · have hcond : decide (k < m) = false ∨ (decide (k < m) = true ∧ decide ((k : Int) < 60) = false) := by
        rcases Nat.lt_or_ge k m with h | h
        · exact .inr ⟨by simpa using h, by simp; omega⟩
        · exact .inl (by simp; omega)
      have hl65 : L.length ≤ 65536 := by omega
      replace hl := Lib.hid hl
      have hnn : ((n : Int) != (n : Int)) = false := by simp
      rcases hcond with hd | ⟨hd, hd2⟩
      all_goals
        go_wp2_with fail
        refine (Copy_any g h L wr hc hl65).mono ?_
        rintro e w5 ⟨v, rfl, ownx, bel5⟩
        obtain ⟨Ax, cx, rfl, _, _, rdx⟩ := ownx.form hl.out
        have hc5 := hc.bel bel5
        have own5 := own.below bel5
        have bel6 := bel.trans (bel5.mono bel.size)
        go_wp2_with fail
        refine (Size_any g h L w5 hc5).mono ?_
        rw [hl.out]
        rintro e w' ⟨rfl, rfl⟩
        go_wp2_with fail
        go_loopw [13] (fun i wl => ∃ j : Nat, i = .int .i64 j ∧ j ≤ n ∧ Cel wl g h L ∧ Own .u64 22 wl w.heap.size (.slice (some ⟨gl, 0, none⟩) n n) L ∧ Rd .u64 wl w5.heap.size Ax n L ∧ Below w.heap.size w wl) (fun i _ => n - (intOf i).toNat)
        case atStart => exact ⟨0, rfl, Nat.zero_le _, hc5, own5, rdx, bel6⟩
        case round =>
          obtain ⟨j, rfl, hj, hcj, ownj, rdj, belj⟩ := hrel
          by_cases hjn : j < n
          · have hdj : decide (j < n) = true := by simpa using hjn
            obtain ⟨bx, ox, rfl, _, hcx, _⟩ := rdj.at_ hjn
            obtain ⟨hcl, _, _⟩ := ownj.at_ hl.out hjn
            have hld : celAt L j = L.getD j 0 := celAt_in (by rw [hl.out]; exact hjn)
            obtain ⟨y, hy⟩ : ∃ y, y = L.getD j 0 := ⟨_, rfl⟩
            rw [← hy] at hcx hcl hld
            have hLd : ∀ nq, Calls Try.prog 10 #[.pointer (some ⟨g, 0, none⟩), .int .i64 j] (wr.drewN nq) fun e w' => e = .returned (.int .u64 y) ∧ wr.drewN nq = w' := fun nq => by
              have := Load_any j g h L _ (hcj.drewN nq) hl65; rw [hld] at this; exact this
            replace hLd := Lib.hid hLd
            clear hld
            have hyy : (y != y) = false := by simp
            clear hy
            go_wp2_with fail
            go_quiet ((go_at_call 10; exact quiet_l (hLd.out _)))
            go_wp2
            go_roundw
            case rel => exact ⟨j + 1, by go_num, by omega, hcj.drewN nq, ownj.drewN nq, rdj.drewN nq, below_drewN belj nq⟩
            case measure => simp [intOf]; omega
          · have hdj : decide (j < n) = false := by simpa using hjn
            go_wp2
            go_ret
            exact ⟨rfl, belj⟩
set_option maxRecDepth 100000 in
set_option maxHeartbeats 400000 in
theorem CellsActs_no (n : Int) (A : Option Addr) (m cap : Nat) (w : World) (h1 : n < 1 ∨ 65536 < n) :
    Calls Try.prog 5 #[.int .i64 n, .slice A m cap] w fun e w' => e = .returned (.bool true) ∧ Below w.heap.size w w' := by
  have hcond : decide (n < 1) = true ∨ (decide (n < 1) = false ∧ decide (65536 < n) = true) := by
    rcases Int.lt_or_le n 1 with h | h
    · exact .inl (by simpa using h)
    · exact .inr ⟨by simp; omega, by simp; omega⟩
  rcases hcond with hd | ⟨hd, hd2⟩
  all_goals
    go_enter Try.func5, Try.ntmps5
    go_wp2_with (first
      | (go_at_call 14; refine (none_any _).mono ?_; rintro e w' ⟨rfl, rfl⟩)
      | (go_at_call 8; refine (Store_nil _ _ _).mono ?_; rintro e w' ⟨rfl, rfl⟩)
      | (go_at_call 11; refine (swaps_any _).mono ?_; rintro e w1 ⟨rfl, hb1⟩)
      | (go_at_call 10; refine (Load_nil _ _).mono ?_; rintro e w' ⟨rfl, rfl⟩)
      | (go_at_call 9; refine (Cas_nil _ _ _ _).mono ?_; rintro e w' ⟨rfl, rfl⟩)
      | (go_at_call 12; refine (Add_nil _ _ _).mono ?_; rintro e w' ⟨rfl, rfl⟩)
      | (go_at_call 15; refine (Size_nil _).mono ?_; rintro e w' ⟨rfl, rfl⟩)
      | (go_at_call 13; refine (Copy_nil _).mono ?_; rintro e w' ⟨rfl, rfl⟩)
      | (go_at_call 7; refine (CellsNew_no n _ h1).mono ?_; rintro e w' ⟨rfl, rfl⟩))
    go_ret
    exact ⟨rfl, hb1⟩
theorem CellsActs_args (W : World) (args : Array Value) (hs : args.size = Try.f5.params.size) (hA : ∀ (j : Nat) t v, Try.f5.params[j]? = some t → args[j]? = some v → Arg Try.prog W t v) :
    Calls Try.prog 5 args W fun e W' => e = .returned (.bool true) ∧ Below W.heap.size W W' := by
  obtain ⟨v0, v1, rfl⟩ := args2 hs
  obtain ⟨n, rfl, wn⟩ := arg_int Try.underlying3 (hA 0 3 v0 rfl rfl)
  obtain ⟨A, len, cap, m, rfl, h1, h2, h3⟩ := arg_slice Try.underlying36 (hA 1 36 v1 rfl rfl)
  have hC : Try.prog.cellsOf 40 = 4 := by kernel_rfl
  have hCi : Try.prog.cellsOf 3 = 1 := by kernel_rfl
  have hCu : Try.prog.cellsOf 22 = 1 := by kernel_rfl
  rw [hC] at h3
  have h4 := slice_rows (by omega) h3
  unfold maxLen at h2
  have hrd : ActRd W A len := by
    intro hp
    obtain ⟨b, o, rfl, hb, hi⟩ := h4 hp
    refine ⟨b, o, rfl, hb, fun i hil => ?_⟩
    obtain ⟨ys, hc, hl, hr⟩ := hi i hil
    obtain ⟨m', _, hf⟩ := rdg_struct Try.underlying40 hr
    obtain ⟨x0, e0, r0⟩ := fld_int (i := 0) hf rfl Try.underlying3 hCi
    obtain ⟨x1, e1, r1⟩ := fld_int (i := 1) hf rfl Try.underlying3 hCi
    obtain ⟨x2, e2, r2⟩ := fld_int (i := 2) hf rfl Try.underlying22 hCu
    obtain ⟨x3, e3, r3⟩ := fld_int (i := 3) hf rfl Try.underlying22 hCu
    exact ⟨x0, x1, x2, x3, (hc 0 (by omega)).trans e0, (hc 1 (by omega)).trans e1, (hc 2 (by omega)).trans e2, (hc 3 (by omega)).trans e3, r0, r1, r2, r3⟩
  by_cases hn : 1 ≤ n ∧ n ≤ 65536
  · obtain ⟨k, rfl⟩ := Int.eq_ofNat_of_zero_le (show 0 ≤ n by omega)
    exact CellsActs_yes k A len cap W hrd (by omega) (by omega) (by omega)
  · exact CellsActs_no n A len cap W (by omega)

set_option maxRecDepth 100000 in
theorem CellsActs_lifted (os : Os) (started : os.Started) (H : Type) (enc : TypeId × Value → H) :
    ReturnsInHanded {} Try.checked os 5 .any (Rows.cellsActsSpec.pre6 enc Try.prog Try.f5 Rows.cellsActsRow.domain false) (Rows.cellsActsSpec.post enc Try.prog Try.f5 false true false false) :=
  law_lifted os started H enc (by kernel_rfl) Try.func5 rfl rfl (fun H ds h => by match ds, h with | [_, _], _ => exact ⟨rfl, rfl, rfl⟩) (by kernel_rfl)
    (ChangeSpec.witness6 (enc := enc) (C := Try.checked) false ⟨#[], #[.int .i64 0, .slice none 0 0], []⟩ 8 (by kernel_rfl) (by kernel_rfl) (by kernel_rfl) (by kernel_rfl))
    CellsActs_args

/-- the statement -/
theorem cellsActs_holds : Rows.CellsActsSaid :=
  OpenClaim.holds_of_wide 5 Try.f5 rfl rfl rfl rfl rfl rfl rfl ⟨rfl, rfl, rfl, rfl, rfl⟩ rfl rfl rfl rfl rfl (by kernel_rfl) Try.func5 (by kernel_rfl)
    (of_decide_eq_true (by kernel_rfl)) (by unfold Func.isWrapper; first | (rw [if_pos (by decide +kernel)]; kernel_rfl) | (rw [if_neg (by decide +kernel)]; exact ⟨rfl, rfl⟩))
    (fun os started H enc _ => CellsActs_lifted os started H enc)

end Go.Proofs.Ytjnkfkcfjggdiaa
