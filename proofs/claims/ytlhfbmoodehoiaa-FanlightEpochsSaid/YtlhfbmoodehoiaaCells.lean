/- The walks of package cells: a row of atomic numbers is a list. -/
import Derived.Test.YtlhfbmoodehoiaaProg
import Derived.Test.YtlhfbmoodehoiaaHeap
import Derived.Test.YtlhfbmoodehoiaaQuiet
namespace Go.Proofs.Ytlhfbmoodehoiaa
set_option linter.unusedVariables false
set_option linter.unusedSimpArgs false
open Go.RowKit
/-- the object at block g, its row at block h, reads as the list l -/
structure Cel (w : World) (g h : Nat) (l : List Int) : Prop where
  obj : ∃ o1 o2 o3, Blk w g 59 #[.slice (some ⟨h, 0, none⟩) l.length l.length, o1, o2, o3]
  row : Blk w h 90 (l.map (Value.int .u64)).toArray
  rng : ∀ x, x ∈ l → inr .u64 x
def celAt (l : List Int) (i : Int) : Int := if 0 ≤ i ∧ i < l.length then l.getD i.toNat 0 else 0
def celSet (l : List Int) (i v : Int) : List Int := if 0 ≤ i ∧ i < l.length then l.set i.toNat v else l
theorem celSet_length (l : List Int) (i v : Int) : (celSet l i v).length = l.length := by unfold celSet; split <;> simp
section
variable {w w' : World} {g h : Nat} {l : List Int}
theorem Cel.at_ (hc : Cel w g h l) {k : Nat} (hk : k < l.length) : w.cell? ⟨h, k, none⟩ = some (.int .u64 (l.getD k 0)) ∧ w.frozen? ⟨h, k, none⟩ = false ∧ (0 ≤ l.getD k 0 ∧ l.getD k 0 ≤ 18446744073709551615) := by
  refine ⟨?_, hc.row.frozen k, inr_u64 (hc.rng _ ?_)⟩
  · rw [hc.row.cell]; simp [List.getElem?_eq_getElem hk]
  · rw [List.getD_eq_getElem?_getD, List.getElem?_eq_getElem hk]; exact List.getElem_mem _
theorem Cel.head (hc : Cel w g h l) : w.cell? ⟨g, 0, none⟩ = some (.slice (some ⟨h, 0, none⟩) l.length l.length) := by
  obtain ⟨o1, o2, o3, ho⟩ := hc.obj
  rw [ho.cell]; rfl
theorem Cel.ne (hc : Cel w g h l) : g ≠ h := by
  obtain ⟨o1, o2, o3, ho⟩ := hc.obj
  exact ho.ne_ hc.row (by decide)
theorem Cel.set_ (hc : Cel w g h l) (k : Nat) {v : Int} (hv : inr .u64 v) : Cel (w.setCell ⟨h, k, none⟩ (.int .u64 v)) g h (l.set k v) := by
  obtain ⟨o1, o2, o3, ho⟩ := hc.obj
  refine ⟨⟨o1, o2, o3, ?_⟩, ?_, fun x hx => ?_⟩
  · rw [List.length_set]; exact ho.far hc.ne _
  · have := hc.row.set_ k (.int .u64 v)
    rw [List.map_set]; simpa using this
  · rcases List.mem_or_eq_of_mem_set hx with h1 | h1
    · exact hc.rng x h1
    · exact h1 ▸ hv
theorem Cel.upd {S : Nat → Prop} (hc : Cel w g h l) (hu : Upd S w w') (h1 : ¬ S g) (h2 : ¬ S h) : Cel w' g h l := by
  obtain ⟨o1, o2, o3, ho⟩ := hc.obj
  exact ⟨⟨o1, o2, o3, ho.upd hu h1⟩, hc.row.upd hu h2, hc.rng⟩
theorem Cel.bel (hc : Cel w g h l) (hb : Below w.heap.size w w') : Cel w' g h l := by
  obtain ⟨o1, o2, o3, ho⟩ := hc.obj
  exact ⟨⟨o1, o2, o3, ho.bel hb⟩, hc.row.bel hb, hc.rng⟩
theorem Cel.drewN (hc : Cel w g h l) (n : Nat) : Cel (w.drewN n) g h l := ⟨hc.obj, hc.row, hc.rng⟩
theorem Cel.drew (hc : Cel w g h l) : Cel w.drew g h l := ⟨hc.obj, hc.row, hc.rng⟩
theorem Cel.alloc (hc : Cel w g h l) (o : Obj) : Cel (w.alloc o) g h l := hc.bel ((Below.refl _ _).alloc (Nat.le_refl _) o)
end
theorem info_atomic : (Try.prog.info? 90).map (fun i => (i.zero, i.size, i.bytes)) = some (some (.agg #[.int .u64 0]), 1, 8) := by kernel_rfl
theorem CellsNew_no (n : Int) (w : World) (h : n < 1 ∨ 65536 < n) :
    Calls Try.prog 4 #[.int .i64 n] w fun e w' => e = .returned (.tuple #[.pointer none, .int .i64 1]) ∧ w = w' := by
  rcases h with h | h
  · have hd : decide (n < 1) = true := by simpa using h
    go_enter Try.func4, Try.ntmps4
    go_wp2
    go_ret2
    exact ⟨rfl, rfl⟩
  · have hd : decide (n < 1) = false := by simp; omega
    have hd2 : decide (65536 < n) = true := by simpa using h
    go_enter Try.func4, Try.ntmps4
    go_wp2
    go_ret2
    exact ⟨rfl, rfl⟩
theorem CellsNew_yes (n : Nat) (w : World) (h1 : 1 ≤ n) (h2 : n ≤ 65536) :
    Calls Try.prog 4 #[.int .i64 n] w fun e w' => ∃ g h, e = .returned (.tuple #[.pointer (some ⟨g, 0, none⟩), .int .i64 0]) ∧ Below w.heap.size w w' ∧ w.heap.size ≤ g ∧ w.heap.size ≤ h ∧ Cel w' g h (List.replicate n 0) ∧ g < w'.heap.size ∧ h < w'.heap.size := by
  obtain ⟨i0, hi, hz0, hz1, hz2⟩ := info_parts info_atomic
  have hmk := fun W => make_one (P := Try.prog) 45 90 i0 _ Try.underlying45 hi hz0 hz1 rfl .i64 .i64 n (by rw [hz2]; omega) (by omega) W
  have hd : decide ((n : Int) < 1) = false := by simp; omega
  have hd2 : decide (65536 < (n : Int)) = false := by simp; omega
  clear hz0 hz1 hz2
  go_enter Try.func4, Try.ntmps4
  go_wp2
  go_ret2
  refine ⟨w.heap.size + 1, w.heap.size, rfl, ((Below.refl _ _).alloc (Nat.le_refl _) _).alloc (by simp) _, by omega, by omega, ⟨⟨.int .u32 0, .int .i32 0, .int .u32 0, ?_⟩, ?_, ?_⟩, by simp, by simp; omega⟩
  · have := Blk.new (w.alloc (.cells (Array.replicate n (.int .u64 0)) 90)) 59 #[.slice (some ⟨w.heap.size, 0, none⟩) n n, .int .u32 0, .int .i32 0, .int .u32 0]
    rw [List.length_replicate]; simpa using this
  · have := (Blk.new w 90 (Array.replicate n (.int .u64 0))).alloc (.cells #[.slice (some ⟨w.heap.size, 0, none⟩) n n, .int .u32 0, .int .i32 0, .int .u32 0] 59)
    rw [List.map_replicate]; simpa using this
  · intro x hx; rw [List.mem_replicate] at hx; rw [hx.2]; exact u64_inr (by omega)
theorem at_nil (i : Int) (w : World) :
    Calls Try.prog 18 #[.pointer none, .int .i64 i] w fun e w' => e = .returned (.pointer none) ∧ w = w' := by
  go_enter Try.func18, Try.ntmps18
  go_wp2
  go_ret
  exact ⟨rfl, rfl⟩
theorem at_in (i : Int) (g h : Nat) (l : List Int) (w : World) (hc : Cel w g h l) (h0 : 0 ≤ i) (h1 : i < l.length) (hm : l.length ≤ 65536) :
    Calls Try.prog 18 #[.pointer (some ⟨g, 0, none⟩), .int .i64 i] w fun e w' => e = .returned (.pointer (some ⟨h, i.toNat, none⟩)) ∧ w = w' := by
  obtain ⟨k, rfl⟩ := Int.eq_ofNat_of_zero_le h0
  rw [Int.toNat_natCast]
  have hk : k < l.length := by omega
  have hh := hc.head
  obtain ⟨hk1, _, _⟩ := hc.at_ hk
  have hd : decide ((k : Int) < 0) = false := by simp
  have hd2 : decide ((l.length : Int) ≤ (k : Int)) = false := by simp; omega
  generalize l.length = n at *
  go_enter Try.func18, Try.ntmps18
  go_wp2
  go_ret
  exact ⟨rfl, rfl⟩
theorem at_out (i : Int) (g h : Nat) (l : List Int) (w : World) (hc : Cel w g h l) (h0 : i < 0 ∨ l.length ≤ i) :
    Calls Try.prog 18 #[.pointer (some ⟨g, 0, none⟩), .int .i64 i] w fun e w' => e = .returned (.pointer none) ∧ w = w' := by
  have hh := hc.head
  by_cases hd : i < 0
  · have hd1 : decide (i < 0) = true := by simpa using hd
    go_enter Try.func18, Try.ntmps18
    go_wp2
    go_ret
    exact ⟨rfl, rfl⟩
  · have hd1 : decide (i < 0) = false := by simpa using hd
    have hd2 : decide ((l.length : Int) ≤ i) = true := by simp; omega
    generalize l.length = n at *
    go_enter Try.func18, Try.ntmps18
    go_wp2
    go_ret
    exact ⟨rfl, rfl⟩
theorem ld64 {a : Addr} {x : Int} {w : World} (hc : w.cell? a = some (.int .u64 x)) : (callFunc 26 #[.pointer (some a)]).run Try.prog w = .ok (.value (.int .u64 x)) w :=
  run_call_load Try.func26 (by kernel_rfl) (by kernel_rfl) (by kernel_rfl) .u64 (by kernel_rfl) hc
theorem st64 {a : Addr} {x y : Int} {w : World} (hc : w.cell? a = some (.int .u64 x)) (hz : w.frozen? a = false) : (callFunc 40 #[.pointer (some a), .int .u64 y]).run Try.prog w = .ok (.value (.tuple #[])) (w.setCell a (.int .u64 y)) :=
  run_call_store Try.func40 (by kernel_rfl) (by kernel_rfl) (by kernel_rfl) (by kernel_rfl) hc hz
theorem cas_hit {a : Addr} {x y : Int} {w : World} (hc : w.cell? a = some (.int .u64 x)) (hz : w.frozen? a = false) : (callFunc 27 #[.pointer (some a), .int .u64 x, .int .u64 y]).run Try.prog w = .ok (.value (.bool true)) (w.setCell a (.int .u64 y)) :=
  run_call_cas_hit Try.func27 (by kernel_rfl) (by kernel_rfl) (by kernel_rfl) .u64 (by kernel_rfl) hc hz
theorem cas_miss {a : Addr} {x o y : Int} {w : World} (hc : w.cell? a = some (.int .u64 x)) (hz : w.frozen? a = false) (hne : ¬ x = o) : (callFunc 27 #[.pointer (some a), .int .u64 o, .int .u64 y]).run Try.prog w = .ok (.value (.bool false)) w :=
  run_call_cas_miss Try.func27 (by kernel_rfl) (by kernel_rfl) (by kernel_rfl) .u64 (by kernel_rfl) hc hz hne
theorem Load_m (a : Addr) (x : Int) (w : World) (hc : w.cell? a = some (.int .u64 x)) :
    Calls Try.prog 19 #[.pointer (some a)] w fun e w' => e = .returned (.int .u64 x) ∧ w = w' := by
  have hl := ld64 hc
  obtain ⟨b, o, s⟩ := a
  obtain rfl : s = none := World.cell?_spot hc
  go_enter Try.func19, Try.ntmps19
  go_wp2
  go_ret
  exact ⟨rfl, rfl⟩
theorem Store_m (a : Addr) (x y : Int) (w : World) (hc : w.cell? a = some (.int .u64 x)) (hz : w.frozen? a = false) :
    Calls Try.prog 28 #[.pointer (some a), .int .u64 y] w fun e w' => e = .returned (.tuple #[]) ∧ w.setCell a (.int .u64 y) = w' := by
  have hl := st64 (y := y) hc hz
  obtain ⟨b, o, s⟩ := a
  obtain rfl : s = none := World.cell?_spot hc
  go_enter Try.func28, Try.ntmps28
  go_wp2
  go_end0
  exact ⟨rfl, rfl⟩
theorem Cas_hit_m (a : Addr) (x y : Int) (w : World) (hc : w.cell? a = some (.int .u64 x)) (hz : w.frozen? a = false) :
    Calls Try.prog 20 #[.pointer (some a), .int .u64 x, .int .u64 y] w fun e w' => e = .returned (.bool true) ∧ w.setCell a (.int .u64 y) = w' := by
  have hl := cas_hit (y := y) hc hz
  obtain ⟨b, o, s⟩ := a
  obtain rfl : s = none := World.cell?_spot hc
  go_enter Try.func20, Try.ntmps20
  go_wp2
  go_ret
  exact ⟨rfl, rfl⟩
theorem Cas_miss_m (a : Addr) (x o y : Int) (w : World) (hc : w.cell? a = some (.int .u64 x)) (hz : w.frozen? a = false) (hne : ¬ x = o) :
    Calls Try.prog 20 #[.pointer (some a), .int .u64 o, .int .u64 y] w fun e w' => e = .returned (.bool false) ∧ w = w' := by
  have hl := cas_miss (y := y) hc hz hne
  obtain ⟨b, oo, s⟩ := a
  obtain rfl : s = none := World.cell?_spot hc
  go_enter Try.func20, Try.ntmps20
  go_wp2
  go_ret
  exact ⟨rfl, rfl⟩
theorem Load_any (i : Int) (g h : Nat) (l : List Int) (w : World) (hc : Cel w g h l) (hm : l.length ≤ 65536) :
    Calls Try.prog 8 #[.pointer (some ⟨g, 0, none⟩), .int .i64 i] w fun e w' => e = .returned (.int .u64 (celAt l i)) ∧ w = w' := by
  by_cases hi : 0 ≤ i ∧ i < l.length
  · obtain ⟨h0, h1⟩ := hi
    have hv : celAt l i = l.getD i.toNat 0 := by unfold celAt; rw [if_pos ⟨h0, h1⟩]
    rw [hv]
    obtain ⟨hk1, _, _⟩ := hc.at_ (k := i.toNat) (by omega)
    obtain ⟨x, hx⟩ : ∃ x, x = l.getD i.toNat 0 := ⟨_, rfl⟩
    rw [← hx] at hk1 ⊢
    clear hx hv
    go_enter Try.func8, Try.ntmps8
    go_wp2_with (first | (go_at_call 18; refine (at_in _ _ _ _ _ hc h0 h1 hm).mono ?_; rintro e w' ⟨rfl, rfl⟩) | (go_at_call 19; refine (Load_m _ _ _ hk1).mono ?_; rintro e w' ⟨rfl, rfl⟩))
    go_ret
    exact ⟨rfl, rfl⟩
  · have hv : celAt l i = 0 := by unfold celAt; rw [if_neg hi]
    rw [hv]
    go_enter Try.func8, Try.ntmps8
    go_wp2_with (go_at_call 18; refine (at_out _ _ _ _ _ hc (by omega)).mono ?_; rintro e w' ⟨rfl, rfl⟩)
    go_ret
    exact ⟨rfl, rfl⟩
theorem Store_any (i v : Int) (g h : Nat) (l : List Int) (w : World) (hc : Cel w g h l) (hm : l.length ≤ 65536) (hv : inr .u64 v) :
    Calls Try.prog 21 #[.pointer (some ⟨g, 0, none⟩), .int .i64 i, .int .u64 v] w fun e w' => e = .returned (.tuple #[]) ∧ Cel w' g h (celSet l i v) ∧ Upd (· = h) w w' := by
  by_cases hi : 0 ≤ i ∧ i < l.length
  · obtain ⟨h0, h1⟩ := hi
    have hs : celSet l i v = l.set i.toNat v := by unfold celSet; rw [if_pos ⟨h0, h1⟩]
    rw [hs]
    obtain ⟨hk1, hk2, _⟩ := hc.at_ (k := i.toNat) (by omega)
    go_enter Try.func21, Try.ntmps21
    go_wp2_with (first | (go_at_call 18; refine (at_in _ _ _ _ _ hc h0 h1 hm).mono ?_; rintro e w' ⟨rfl, rfl⟩) | (go_at_call 28; refine (Store_m _ _ _ _ hk1 hk2).mono ?_; rintro e w' ⟨rfl, rfl⟩))
    go_end0
    exact ⟨rfl, hc.set_ _ hv, Upd.one _ _ _ _⟩
  · have hs : celSet l i v = l := by unfold celSet; rw [if_neg hi]
    rw [hs]
    go_enter Try.func21, Try.ntmps21
    go_wp2_with (go_at_call 18; refine (at_out _ _ _ _ _ hc (by omega)).mono ?_; rintro e w' ⟨rfl, rfl⟩)
    go_end0
    exact ⟨rfl, hc, Upd.refl _ _⟩
theorem Cas_any (i o v : Int) (g h : Nat) (l : List Int) (w : World) (hc : Cel w g h l) (hm : l.length ≤ 65536) (hv : inr .u64 v) :
    Calls Try.prog 9 #[.pointer (some ⟨g, 0, none⟩), .int .i64 i, .int .u64 o, .int .u64 v] w fun e w' =>
      e = .returned (.bool (decide (0 ≤ i ∧ i < l.length ∧ celAt l i = o))) ∧ Cel w' g h (if 0 ≤ i ∧ i < l.length ∧ celAt l i = o then celSet l i v else l) ∧ Upd (· = h) w w' := by
  by_cases hi : 0 ≤ i ∧ i < l.length
  · obtain ⟨h0, h1⟩ := hi
    have hs : celSet l i v = l.set i.toNat v := by unfold celSet; rw [if_pos ⟨h0, h1⟩]
    have ha : celAt l i = l.getD i.toNat 0 := by unfold celAt; rw [if_pos ⟨h0, h1⟩]
    obtain ⟨hk1, hk2, _⟩ := hc.at_ (k := i.toNat) (by omega)
    by_cases he : l.getD i.toNat 0 = o
    · rw [if_pos ⟨h0, h1, ha.trans he⟩, hs, decide_eq_true (by exact ⟨h0, h1, ha.trans he⟩)]
      rw [he] at hk1
      clear ha he hs
      go_enter Try.func9, Try.ntmps9
      go_wp2_with (first | (go_at_call 18; refine (at_in _ _ _ _ _ hc h0 h1 hm).mono ?_; rintro e w' ⟨rfl, rfl⟩) | (go_at_call 20; refine (Cas_hit_m _ _ _ _ hk1 hk2).mono ?_; rintro e w' ⟨rfl, rfl⟩))
      go_ret
      exact ⟨rfl, hc.set_ _ hv, Upd.one _ _ _ _⟩
    · rw [if_neg (fun h => he (ha.symm.trans h.2.2)), decide_eq_false (fun h => he (ha.symm.trans h.2.2))]
      obtain ⟨x, hx⟩ : ∃ x, x = l.getD i.toNat 0 := ⟨_, rfl⟩
      rw [← hx] at hk1 he
      clear ha hs hx
      go_enter Try.func9, Try.ntmps9
      go_wp2_with (first | (go_at_call 18; refine (at_in _ _ _ _ _ hc h0 h1 hm).mono ?_; rintro e w' ⟨rfl, rfl⟩) | (go_at_call 20; refine (Cas_miss_m _ _ _ _ _ hk1 hk2 he).mono ?_; rintro e w' ⟨rfl, rfl⟩))
      go_ret
      exact ⟨rfl, hc, Upd.refl _ _⟩
  · rw [if_neg (fun h => hi ⟨h.1, h.2.1⟩), decide_eq_false (fun h => hi ⟨h.1, h.2.1⟩)]
    go_enter Try.func9, Try.ntmps9
    go_wp2_with (go_at_call 18; refine (at_out _ _ _ _ _ hc (by omega)).mono ?_; rintro e w' ⟨rfl, rfl⟩)
    go_ret
    exact ⟨rfl, hc, Upd.refl _ _⟩
end Go.Proofs.Ytlhfbmoodehoiaa
