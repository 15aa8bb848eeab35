/- The document's New. -/
import Derived.Test.YtfcldnojmmhekaaEpTurnsE
import Derived.Test.YtfcldnojmmhekaaRowAt
namespace Go.Proofs.Ytfcldnojmmhekaa
set_option linter.unusedVariables false
set_option linter.unusedSimpArgs false
open Go.RowKit
theorem make_rowS {α : Type} {cs : α → List Value} {sz : Nat} (hs : ∀ x, (cs x).length = sz) (h0 : 0 < sz) {P : Program} (x0 : α) (t e : TypeId) (i : TypeInfo) (z : Value) (ht : P.underlying t = some (.slice e)) (hi : P.info? e = some i) (hz : i.zero = some z) (hsz : i.size = sz) (hc : z.cells = (cs x0).toArray)
    (kl kc : IntKind) (n : Nat) (hb : i.bytes * n ≤ 281474976710656) (h63 : n ≤ 9223372036854775807) (w : World) :
    (Instr.makeSlice t (.int kl (n : Int)) (.int kc (n : Int))).run P w = .ok (.slice (some ⟨w.heap.size, 0, none⟩) n n) (w.alloc (.cells ((List.replicate n x0).flatMap cs).toArray e)) := by
  have hb' : (i.bytes : Int) * (n : Int) ≤ 281474976710656 := by
    have h : ((i.bytes * n : Nat) : Int) ≤ 281474976710656 := by omega
    rwa [Int.natCast_mul] at h
  have hr := run_make (P := P) w t e i z ht hi hz kl kc n n (by omega) (by omega) hb' (by omega)
  simp only [Int.toNat_natCast, hsz, hc] at hr
  have : madeCells (cs x0).toArray (n * sz) = ((List.replicate n x0).flatMap cs).toArray := by
    apply Array.ext
    · simp [madeCells, flat_len hs]
    · intro j h1 h2
      have hj : j < n * sz := by simpa [madeCells] using h1
      have hd : j / sz < n := Nat.div_lt_of_lt_mul (by rw [Nat.mul_comm]; exact hj)
      have hm : j % sz < sz := Nat.mod_lt _ h0
      have hf := flat_at hs (List.replicate n x0) (j / sz) (j % sz) x0 (by rw [List.getElem?_replicate, if_pos hd]) hm
      rw [show j / sz * sz + j % sz = j by rw [Nat.mul_comm]; exact Nat.div_add_mod j sz] at hf
      have h3 : ((List.replicate n x0).flatMap cs)[j]? = some (((List.replicate n x0).flatMap cs)[j]'(by simpa using h2)) := List.getElem?_eq_getElem _
      rw [h3, List.getElem?_eq_getElem (by rw [hs]; exact hm)] at hf
      simp only [Option.some.injEq] at hf
      have hsz0 : (cs x0).length = sz := hs x0
      simp only [madeCells, Array.getElem_map, Array.getElem_range, List.size_toArray, hsz0, List.getElem_toArray]
      rw [hf]
      simp [hsz0, hm]
  rw [this] at hr
  exact hr
theorem info_int7 : (Try.prog.info? 3).map (fun i => (i.zero, i.size, i.bytes)) = some (some (.int .i64 0), 1, 8) := by kernel_rfl
theorem blk4 (w : World) (X Y Z O : Array Value) (t u v o : TypeId) :
    Blk ((((w.alloc (.cells X t)).alloc (.cells Y u)).alloc (.cells Z v)).alloc (.cells O o)).drew w.heap.size t X ∧ Blk ((((w.alloc (.cells X t)).alloc (.cells Y u)).alloc (.cells Z v)).alloc (.cells O o)).drew (w.heap.size + 1) u Y ∧
    Blk ((((w.alloc (.cells X t)).alloc (.cells Y u)).alloc (.cells Z v)).alloc (.cells O o)).drew (w.heap.size + 1 + 1) v Z ∧ Blk ((((w.alloc (.cells X t)).alloc (.cells Y u)).alloc (.cells Z v)).alloc (.cells O o)).drew (w.heap.size + 1 + 1 + 1) o O ∧
    Below w.heap.size w ((((w.alloc (.cells X t)).alloc (.cells Y u)).alloc (.cells Z v)).alloc (.cells O o)).drew := by
  have a := (((Blk.new w t X).alloc (.cells Y u)).alloc (.cells Z v)).alloc (.cells O o)
  have b := ((Blk.new (w.alloc (.cells X t)) u Y).alloc (.cells Z v)).alloc (.cells O o)
  have c := (Blk.new ((w.alloc (.cells X t)).alloc (.cells Y u)) v Z).alloc (.cells O o)
  have d := Blk.new (((w.alloc (.cells X t)).alloc (.cells Y u)).alloc (.cells Z v)) o O
  simp only [World.size_alloc] at b c d
  exact ⟨a.drew, b.drew, c.drew, d.drew, ((((bel_alloc w (.cells X t)).alloc (by simp) (.cells Y u)).alloc (by simp; omega) (.cells Z v)).alloc (by simp; omega) (.cells O o)).drew⟩
theorem re_new {w W : World} {base eb pb stb gb n : Nat} (hb : base ≤ w.heap.size)
    (o : Blk W eb 59 #[.int .i64 (0 : Nat), .slice (some ⟨pb, 0, none⟩) n n, .slice (some ⟨stb, 0, none⟩) n n, .slice (some ⟨gb, 0, none⟩) n n])
    (p : Blk W pb 3 (Array.replicate n (.int .i64 0))) (s : Blk W stb 76 ((List.replicate n (Rs.mk false false 0 0)).flatMap Rs.cs).toArray) (g : Blk W gb 78 (Array.replicate n (.slice none 0 0))) :
    RE base eb pb stb gb n 0 (List.replicate n 0) (List.replicate n ⟨false, false, 0, 0⟩) (List.replicate n (.slice none 0 0)) (List.replicate n []) W := by
  refine ⟨o, by rw [List.map_replicate, List.toArray_replicate]; exact p, s, ⟨by rw [List.toArray_replicate]; exact g, by simp, fun k v l hv hl => ?_, fun i j v u _ hv _ => ?_⟩, by simp, by simp, by simp⟩
  · obtain rfl := (List.mem_replicate.1 (List.mem_of_getElem? hv)).2
    obtain rfl := (List.mem_replicate.1 (List.mem_of_getElem? hl)).2
    exact OwnT.nil _ _ _ _ _
  · obtain rfl := (List.mem_replicate.1 (List.mem_of_getElem? hv)).2
    intro x hx
    simp [Value.ownBlock] at hx
set_option maxHeartbeats 1000000 in
theorem rNew_any (n : Nat) (w : World) (hn : n ≤ 64) :
    Calls Try.prog 22 #[.int .i64 n] w fun e w' => ∃ eb pb stb gb, e = .returned (.pointer (some ⟨eb, 0, none⟩)) ∧ Below w.heap.size w w' ∧ w.heap.size ≤ eb ∧ w.heap.size ≤ pb ∧ w.heap.size ≤ stb ∧ w.heap.size ≤ gb ∧
      RE w.heap.size eb pb stb gb n 0 (List.replicate n 0) (List.replicate n ⟨false, false, 0, 0⟩) (List.replicate n (.slice none 0 0)) (List.replicate n []) w' := by
  obtain ⟨i1, hi1, hu0, hu1, hu2⟩ := info_parts info_int7
  obtain ⟨i2, hi2, hv0, hv1, hv2⟩ := info_parts info_rstep
  obtain ⟨i3, hi3, hw0, hw1, hw2⟩ := info_parts info_rthings
  have m1 := fun W => make_one (P := Try.prog) 22 3 i1 _ Try.underlying22 hi1 hu0 hu1 rfl .i64 .i64 n (by rw [hu2]; omega) (by omega) W
  have m2 := fun W => make_rowS (P := Try.prog) rs_len (by omega) (Rs.mk false false 0 0) 56 76 i2 _ Try.underlying56 hi2 hv0 hv1 rfl .i64 .i64 n (by rw [hv2]; omega) (by omega) W
  have m3 := fun W => make_one (P := Try.prog) 57 78 i3 _ Try.underlying57 hi3 hw0 hw1 rfl .i64 .i64 n (by rw [hw2]; omega) (by omega) W
  have key := fun (W : World) eb pb stb gb => re_new (w := w) (W := W) (base := w.heap.size) (eb := eb) (pb := pb) (stb := stb) (gb := gb) (n := n) (Nat.le_refl _)
  obtain ⟨X1, hX1⟩ : ∃ X, X = Array.replicate n (Value.int .i64 0) := ⟨_, rfl⟩
  obtain ⟨X2, hX2⟩ : ∃ X, X = ((List.replicate n (Rs.mk false false 0 0)).flatMap Rs.cs).toArray := ⟨_, rfl⟩
  obtain ⟨X3, hX3⟩ : ∃ X, X = Array.replicate n (Value.slice none 0 0) := ⟨_, rfl⟩
  rw [← hX1] at m1
  rw [← hX2] at m2
  rw [← hX3] at m3
  simp only [← hX1, ← hX2, ← hX3] at key
  clear hX1 hX2 hX3 hu0 hu1 hu2 hv0 hv1 hv2 hw0 hw1 hw2
  replace key := Lib.hid key
  go_enter Try.func22, Try.ntmps22
  go_wp2_with fail
  go_region
  all_goals
    go_wp2_with fail
    go_ret
    refine ⟨_, _, _, _, rfl, (blk4 w _ _ _ _ _ _ _ _).2.2.2.2, ?_, ?_, ?_, ?_, key.out _ _ _ _ _ (blk4 w _ _ _ _ _ _ _ _).2.2.2.1 ?_ ?_ ?_⟩
    rotate_right 3
    · first | with_reducible exact (blk4 w _ _ _ _ _ _ _ _).1 | with_reducible exact (blk4 w _ _ _ _ _ _ _ _).2.1 | with_reducible exact (blk4 w _ _ _ _ _ _ _ _).2.2.1
    · first | with_reducible exact (blk4 w _ _ _ _ _ _ _ _).1 | with_reducible exact (blk4 w _ _ _ _ _ _ _ _).2.1 | with_reducible exact (blk4 w _ _ _ _ _ _ _ _).2.2.1
    · first | with_reducible exact (blk4 w _ _ _ _ _ _ _ _).1 | with_reducible exact (blk4 w _ _ _ _ _ _ _ _).2.1 | with_reducible exact (blk4 w _ _ _ _ _ _ _ _).2.2.1
    all_goals omega
end Go.Proofs.Ytfcldnojmmhekaa
