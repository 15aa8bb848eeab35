/- Every input of CellsOnce answers true, and reads behind the call as it read before. No condition. -/
import Derived.Test.YtjnkfkcfjggdiaaOnce2
import Derived.Test.YtjnkfkcfjggdiaaCellsActs
namespace Go.Proofs.Ytjnkfkcfjggdiaa
set_option linter.unusedVariables false
open Go.RowKit
/-- the object, its row's header, done -/
def once_ (sl : Value) (d : Int) : Array Value := #[sl, .int .u32 d, .int .i32 0, .int .u32 0]
theorem CellsNew_obj (w : World) :
    Calls Try.prog 7 #[.int .i64 1] w fun e w' => ∃ g sl, e = .returned (.tuple #[.pointer (some ⟨g, 0, none⟩), .int .i64 0]) ∧ Below w.heap.size w w' ∧ w.heap.size ≤ g ∧ Blk w' g 59 (once_ sl 0) := by
  obtain ⟨i0, hi, hz0, hz1, hz2⟩ := info_parts info_atomic
  have hmk := fun W => make_one (P := Try.prog) 45 68 i0 _ Try.underlying45 hi hz0 hz1 rfl .i64 .i64 1 (by rw [hz2]; omega) (by omega) W
  replace hmk := fun W => show (Instr.makeSlice 45 (.int .i64 1) (.int .i64 1)).run Try.prog W = _ from hmk W
  clear hz0 hz1 hz2
  go_enter Try.func7, Try.ntmps7
  go_wp2
  go_ret2
  exact ⟨w.heap.size + 1, .slice (some ⟨w.heap.size, 0, none⟩) 1 1, rfl, ((Below.refl _ _).alloc (Nat.le_refl _) _).alloc (by simp) _, by omega, by
    have := Blk.new (w.alloc (.cells (Array.replicate 1 (.int .u64 0)) 68)) 59 #[.slice (some ⟨w.heap.size, 0, none⟩) 1 1, .int .u32 0, .int .i32 0, .int .u32 0]
    simpa [once_] using this⟩
theorem Once_nil (fv : Value) (w : World) : Calls Try.prog 17 #[.pointer none, fv] w fun e w' => e = .returned (.tuple #[]) ∧ w = w' := by
  go_enter Try.func17, Try.ntmps17
  go_wp2
  go_end0
  exact ⟨rfl, rfl⟩
theorem Once_again (g : Nat) (sl fv : Value) (w : World) (hb : Blk w g 59 (once_ sl 1)) : Calls Try.prog 17 #[.pointer (some ⟨g, 0, none⟩), fv] w fun e w' => e = .returned (.tuple #[]) ∧ w = w' := by
  have h0 : w.cell? ⟨g, 0, none⟩ = some sl := hb.cell 0
  go_enter Try.func17, Try.ntmps17
  go_wp2_with (go_at_call 25; refine (do_done ⟨g, 1, none⟩ 1 (by decide) fv w (hb.cell 1)).mono ?_; rintro e w' ⟨rfl, rfl⟩)
  go_end0
  exact ⟨rfl, rfl⟩
theorem Once_first (g p : Nat) (sl : Value) (w : World) (hb : Blk w g 59 (once_ sl 0)) (hp : Blk w p 3 #[.int .i64 0]) (hne : g ≠ p) :
    Calls Try.prog 17 #[.pointer (some ⟨g, 0, none⟩), .func (.func 18) #[] #[.pointer (some ⟨p, 0, none⟩)]] w fun e w' => e = .returned (.tuple #[]) ∧ Blk w' g 59 (once_ sl 1) ∧ Blk w' p 3 #[.int .i64 1] ∧ Upd (fun k => k = g ∨ k = p) w w' := by
  have h0 : w.cell? ⟨g, 0, none⟩ = some sl := hb.cell 0
  go_enter Try.func17, Try.ntmps17
  go_wp2_with (go_at_call 25; refine (do_first g 1 ⟨p, 0, none⟩ hne w (hb.cell 1) (hb.cell 2) (hp.cell 0) (hb.frozen 1) (hb.frozen 2) (hp.frozen 0)).mono ?_; rintro e w' ⟨rfl, rfl⟩)
  go_end0
  refine ⟨rfl, ?_, ?_, ?_⟩
  · exact ((((hb.set_ 2 (.int .i32 1)).far (p := ⟨p, 0, none⟩) hne (.int .i64 1)).drew.set_ 1 (.int .u32 1)).set_ 2 (.int .i32 0))
  · exact ((((hp.far (p := ⟨g, 2, none⟩) (Ne.symm hne) (.int .i32 1)).set_ 0 (.int .i64 1)).drew.far (p := ⟨g, 1, none⟩) (Ne.symm hne) (.int .u32 1)).far (p := ⟨g, 2, none⟩) (Ne.symm hne) (.int .i32 0))
  · exact (((((Upd.refl _ w).setCell (p := ⟨g, 2, none⟩) (fun _ => .inl rfl) (.int .i32 1)).setCell (p := ⟨p, 0, none⟩) (fun _ => .inr rfl) (.int .i64 1)).drew.setCell (p := ⟨g, 1, none⟩) (fun _ => .inl rfl) (.int .u32 1)).setCell (p := ⟨g, 2, none⟩) (fun _ => .inl rfl) (.int .i32 0))
structure OnceRel (w : World) (g p : Nat) (sl : Value) (m k : Nat) (d : Int) (wr : World) : Prop where
  hk : k ≤ m
  hd : d = 0 ∨ d = 1
  hb : Blk wr g 59 (once_ sl d)
  hp : Blk wr p 3 #[.int .i64 d]
  bel : Below w.heap.size w wr
set_option maxHeartbeats 1000000 in
theorem CellsOnce_walk (times : Int) (w : World) :
    Calls Try.prog 6 #[.int .i64 times] w fun e w' => e = .returned (.bool true) ∧ Below w.heap.size w w' := by
  obtain ⟨m, hm0, hm1⟩ := modn times 20 (by omega)
  have hmf : ∀ (fn : Fn) (first cap : Array Value) (w : World), (Instr.makeFunc fn first cap).run Try.prog w = .ok (.func fn first cap) w := fun _ _ _ _ => rfl
  go_enter Try.func6, Try.ntmps6
  go_wp2_with (go_at_call 7; refine (CellsNew_obj _).mono ?_; rintro e w1 ⟨g, sl, rfl, bel1, hg, hb⟩)
  have hgp : g ≠ w1.heap.size := by have := hb.lt; omega
  have hpw : w.heap.size ≤ w1.heap.size := by have := bel1.size; omega
  go_loopw [6] (fun i wr => ∃ (k : Nat) (d : Int), i = .int .i64 k ∧ OnceRel w g w1.heap.size sl m k d wr) (fun i _ => m - (intOf i).toNat)
  case atStart =>
    refine ⟨0, 0, rfl, Nat.zero_le _, .inl rfl, ?_, ?_, ?_⟩
    · exact hb.alloc _
    · exact Blk.new w1 _ _
    · exact bel1.alloc hpw _
  case round =>
    obtain ⟨k, d, rfl, hk, hd, hb2, hp, bel⟩ := hrel
    clear hb bel1
    by_cases hlt : k < m
    · have hdec : decide (k < m) = true := by simpa using hlt
      have hne1 : ((1 : Int) != 1) = false := rfl
      rcases hd with rfl | rfl
      · go_wp2_with (go_at_call 17; refine (Once_first g w1.heap.size sl _ hb2 hp hgp).mono ?_; rintro e w2 ⟨rfl, hb3, hp3, hu⟩; have hc3 := hp3.cell 0; have bel3 : Below w.heap.size w w2 := bel.trans (hu.below bel.size (fun k hk e => by omega)))
        go_roundw
        case rel => exact ⟨k + 1, 1, by go_num, by omega, .inr rfl, hb3, hp3, bel3⟩
        case measure => simp [intOf]; omega
      · have hc3 := hp.cell 0
        go_wp2_with (go_at_call 17; refine (Once_again g sl _ _ hb2).mono ?_; rintro e w2 ⟨rfl, rfl⟩)
        go_roundw
        case rel => exact ⟨k + 1, 1, by go_num, by omega, .inr rfl, hb2, hp, bel⟩
        case measure => simp [intOf]; omega
    · have hdec : decide (k < m) = false := by simpa using hlt
      have hd2 : decide (d < 2) = true := by simp; omega
      go_wp2_with (first
        | (go_at_call 14; refine (none_any _).mono ?_; rintro e w' ⟨rfl, rfl⟩)
        | (go_at_call 17; refine (Once_nil _ _).mono ?_; rintro e w' ⟨rfl, rfl⟩)
        | (go_at_call 11; refine (swaps_any _).mono ?_; rintro e w3 ⟨rfl, hb3⟩; have hc3 := (hp.bel hb3).cell 0))
      all_goals (go_ret; exact ⟨rfl, bel.trans (hb3.mono bel.size)⟩)
theorem CellsOnce_args (W : World) (args : Array Value) (hs : args.size = Try.f6.params.size) (hA : ∀ (j : Nat) t v, Try.f6.params[j]? = some t → args[j]? = some v → Arg Try.prog W t v) :
    Calls Try.prog 6 args W fun e W' => e = .returned (.bool true) ∧ Below W.heap.size W W' := by
  obtain ⟨v0, rfl⟩ := args1 hs
  obtain ⟨a, rfl, wa⟩ := arg_int Try.underlying3 (hA 0 3 v0 rfl rfl)
  exact CellsOnce_walk a W

set_option maxRecDepth 100000 in
theorem CellsOnce_lifted (os : Os) (started : os.Started) (H : Type) (enc : TypeId × Value → H) :
    ReturnsInHanded {} Try.checked os 6 .any (Rows.cellsOnceSpec.pre6 enc Try.prog Try.f6 Rows.cellsOnceRow.domain false) (Rows.cellsOnceSpec.post enc Try.prog Try.f6 false true false false) :=
  law_lifted os started H enc (by kernel_rfl) Try.func6 rfl rfl (fun H ds h => by match ds, h with | [_], _ => exact ⟨rfl, rfl, rfl⟩) (by kernel_rfl)
    (ChangeSpec.witness6 (enc := enc) (C := Try.checked) false ⟨#[], #[.int .i64 0], []⟩ 8 (by kernel_rfl) (by kernel_rfl) (by kernel_rfl) (by kernel_rfl))
    CellsOnce_args

/-- the statement -/
theorem cellsOnce_holds : Rows.CellsOnceSaid :=
  OpenClaim.holds_of_wide 6 Try.f6 rfl rfl rfl rfl rfl rfl rfl ⟨rfl, rfl, rfl, rfl, rfl⟩ rfl rfl rfl rfl rfl (by kernel_rfl) Try.func6 (by kernel_rfl)
    (of_decide_eq_true (by kernel_rfl)) (by unfold Func.isWrapper; first | (rw [if_pos (by decide +kernel)]; kernel_rfl) | (rw [if_neg (by decide +kernel)]; exact ⟨rfl, rfl⟩))
    (fun os started H enc _ => CellsOnce_lifted os started H enc)

end Go.Proofs.Ytjnkfkcfjggdiaa
