/- A packet that stands. -/
import Derived.Test.YtlhfbmoodehoiaaPartFacts4
import Derived.Test.YtlhfbmoodehoiaaFepAll1
import Derived.Test.YtlhfbmoodehoiaaRowW
import Derived.Deep.DeepCutAuto
import Derived.Lib.SlBytesConst
import Derived.Deep.CutBlock
namespace Go.Proofs.Ytlhfbmoodehoiaa
set_option linter.unusedVariables false
set_option linter.unusedSimpArgs false
open Go.RowKit
theorem Rd.newF (k : IntKind) (w : World) (t : TypeId) (fr : Nat × Nat) (l : List Int) (hr : ∀ x, x ∈ l → inr k x) (cs : Array Value) (hcs : cs = (l.map (Value.int k)).toArray) (n : Nat) (hn : l.length = n) :
    Rd k (w.alloc (.cells cs t fr)) (w.heap.size + 1) (some ⟨w.heap.size, 0, none⟩) n l := by
  subst hcs
  refine ⟨hn, hr, fun h0 => ⟨_, 0, rfl, by omega, fun j hj => ?_⟩⟩
  rw [cell_of_row _ _ _ _ _ _ (heap_alloc_new w _)]
  simp [List.getElem?_eq_getElem (show j < l.length by omega)]
set_option maxRecDepth 100000 in
set_option maxHeartbeats 2000000 in
theorem stands_any (w : World) :
    Calls Try.prog 14 #[] w fun e w' => e = .returned (.bool true) ∧ Below w.heap.size w w' := by
  have hb8 : Bytes8 [104, 105] := fun x hx => by simp at hx; omega
  obtain ⟨C, hC⟩ : ∃ C, C = udpL 1 2 5 53 [104, 105] := ⟨_, rfl⟩
  have hCl : C.length = 10 := by rw [hC, udpL_len]; rfl
  have hget := life_get (t := 9) (P := 17) (s := 1) (d := 2) (l := C) (by omega) (by omega) (by omega) (by omega) (by omega)
  have hR := lifeR 9 17 1 2 C
  obtain ⟨X, hX⟩ : ∃ X, X = putL 9 17 1 2 C := ⟨_, rfl⟩
  have hXl : X.length = 30 := by rw [hX, put_len, hCl]
  rw [← hX, hXl] at hget hR
  have hgot : getX 17 ⟨20, ((30 : Nat) : Int), 9, 17, 1, 2⟩ C = (0, gotP 0 5 53 0) := by rw [hC]; exact car_got (s := 1) (d := 2) (by omega) (by omega) (by omega) (by omega) hb8 rfl rfl 0 (by omega)
  rw [hgot] at hR
  have hput := fun W A c (ho : Rd .u8 W W.heap.size A 10 C) => Put_any 0 0 9 17 1 2 C A 10 c _ W ho (Nat.le_refl _) (by omega) (by omega) (by omega) (by omega) (by omega)
  unfold PutRes at hput
  simp only [← hX] at hput
  have hudp := fun W A (ho : Rd .u8 W W.heap.size A 2 [104, 105]) => pUdp_any 1 2 5 53 [104, 105] A 2 2 _ W ho (Nat.le_refl _) (by omega) (by omega) (by omega) (by omega) (by omega) (by omega)
  unfold Gives at hudp
  simp only [← hC] at hudp
  have hpg := fun W A c (ho : Rd .u8 W W.heap.size A 30 X) (h1 : 30 ≤ c) (h2 : c ≤ 9223372036854775807) => PGet_any ⟨20, ((30 : Nat) : Int), 9, 17, 1, 2⟩ X A 30 c _ W ho (Nat.le_refl _) h1 h2 (by omega) (by show (0:Int) ≤ 1 ∧ (1:Int) ≤ _; omega) (by show (0:Int) ≤ 2 ∧ (2:Int) ≤ _; omega)
  rw [hR] at hpg
  simp only [Tells, Pt.val, Hd.val, gotP, Pt.z, Hd.z, if_true] at hpg
  clear hR hgot hX hC hb8
  replace hCl := Lib.hid hCl
  replace hXl := Lib.hid hXl
  replace hget := Lib.hid hget
  replace hput := Lib.hid hput
  replace hudp := Lib.hid hudp
  replace hpg := Lib.hid hpg
  go_enter Try.func14, Try.ntmps14
  have hcv := Lib.run_convert_bytes_const (P := Try.prog) w 75 5 #[.int .u8 104, .int .u8 105] 2 2 Try.underlying75 Try.underlying5
  rw [show (#[Value.int .u8 104, Value.int .u8 105] : Array Value).size = 2 from rfl] at hcv
  have rd0 := Rd.newF .u8 w 5 (2, 2 + 1) [104, 105] (fun x hx => by simp at hx; exact u8_inr (by omega)) #[.int .u8 104, .int .u8 105] rfl 2 rfl
  rw [show w.heap.size + 1 = (w.alloc (.cells #[.int .u8 104, .int .u8 105] 5 (2, 2 + 1))).heap.size by simp] at rd0
  have bel := bel_alloc w (.cells #[.int .u8 104, .int .u8 105] 5 (2, 2 + 1))
  go_wp2_with fail
  refine (hudp.out _ _ rd0).mono ?_
  rintro e w1 ⟨v1, rfl, own1, bel1⟩
  replace own1 := own1.mono_ bel.size
  replace bel := bel_after bel bel1
  clear bel1 rd0
  obtain ⟨A1, c1, rfl, hc1, hc2, rd1⟩ := own1.form hCl.out
  clear own1
  go_wp2_with fail
  refine (hput.out _ _ _ rd1).mono ?_
  rintro e w2 ⟨v2, rfl, own2, bel2⟩
  replace own2 := own2.mono_ bel.size
  replace bel := bel_after bel bel2
  clear bel2 rd1 hc1 hc2
  obtain ⟨g, c2, rfl, hc1, hc2, hg1, hg2⟩ := own2.formG hXl.out (by omega)
  unfold maxLen at hc2
  have hge := Get_any X (some ⟨g, 0, none⟩) 30 c2 _ w2 (own2.rd hXl.out) (Nat.le_refl _) hc1 (by omega) (by omega)
  rw [hget.out.1, hget.out.2] at hge
  simp only [Hd.val] at hge
  replace hge := Lib.hid hge
  go_wp2_with fail
  refine hge.out.mono ?_
  rintro e w3 ⟨rfl, hb3⟩
  replace own2 := own2.below hb3
  replace bel := bel_after bel hb3
  clear hb3 hge hget
  have hgl : g < w3.heap.size := (own2.lt g rfl).2
  have bh := (Blk.new w3 79 #[.int .i64 0, .int .i64 0, .int .i64 0, .int .i64 0, .int .u32 0, .int .u32 0]).setRow #[.int .i64 20, .int .i64 30, .int .i64 9, .int .i64 17, .int .u32 1, .int .u32 2]
  replace own2 := (own2.alloc (.cells #[.int .i64 0, .int .i64 0, .int .i64 0, .int .i64 0, .int .u32 0, .int .u32 0] 79)).upd (Upd.row' (w3.alloc (.cells #[.int .i64 0, .int .i64 0, .int .i64 0, .int .i64 0, .int .u32 0, .int .u32 0] 79)) w3.heap.size #[.int .i64 20, .int .i64 30, .int .i64 9, .int .i64 17, .int .u32 1, .int .u32 2]) (by intro x hx e; simp [Value.ownBlock] at hx; omega)
  replace bel := below_setRow (bel.alloc bel.size (.cells #[.int .i64 0, .int .i64 0, .int .i64 0, .int .i64 0, .int .u32 0, .int .u32 0] 79)) bel.size #[.int .i64 20, .int .i64 30, .int .i64 9, .int .i64 17, .int .u32 1, .int .u32 2]
  go_wp2_with (first
    | (refine wpList_stRow rfl rfl rfl rfl rfl (Blk.new w3 _ _) hd_size rfl (by simp [Value.oneCell']) ?_; generalize (w3.alloc (.cells #[.int .i64 0, .int .i64 0, .int .i64 0, .int .i64 0, .int .u32 0, .int .u32 0] 79)).setRow w3.heap.size #[.int .i64 20, .int .i64 30, .int .i64 9, .int .i64 17, .int .u32 1, .int .u32 2] = W3 at *; generalize w3.heap.size = g3 at *)
    | (refine wpList_ldRow rfl rfl rfl bh Try.underlying79 hd_size ?_))
  refine (hpg.out _ _ _ (own2.rd hXl.out) hc1 (by omega)).mono ?_
  rintro e w4 ⟨rfl, hb4⟩
  replace bh := bh.bel hb4
  replace bel := bel_after bel hb4
  clear hb4 own2
  have hgl3 := bh.lt
  have bp := (Blk.new w4 85 #[.int .i64 0, .int .u16 0, .int .u16 0, .int .i64 0, .int .i64 0, .int .i64 0, .bool false, .int .i64 0, .int .i64 0, .int .i64 0, .int .i64 0, .int .u32 0, .int .u32 0, .int .i64 0, .bool false]).setRow #[.int .i64 17, .int .u16 5, .int .u16 53, .int .i64 0, .int .i64 0, .int .i64 0, .bool false, .int .i64 0, .int .i64 0, .int .i64 0, .int .i64 0, .int .u32 0, .int .u32 0, .int .i64 0, .bool false]
  replace bh := (bh.alloc (.cells #[.int .i64 0, .int .u16 0, .int .u16 0, .int .i64 0, .int .i64 0, .int .i64 0, .bool false, .int .i64 0, .int .i64 0, .int .i64 0, .int .i64 0, .int .u32 0, .int .u32 0, .int .i64 0, .bool false] 85)).setRow_far (g' := w4.heap.size) (by omega) #[.int .i64 17, .int .u16 5, .int .u16 53, .int .i64 0, .int .i64 0, .int .i64 0, .bool false, .int .i64 0, .int .i64 0, .int .i64 0, .int .i64 0, .int .u32 0, .int .u32 0, .int .i64 0, .bool false]
  replace bel := below_setRow (bel.alloc bel.size (.cells #[.int .i64 0, .int .u16 0, .int .u16 0, .int .i64 0, .int .i64 0, .int .i64 0, .bool false, .int .i64 0, .int .i64 0, .int .i64 0, .int .i64 0, .int .u32 0, .int .u32 0, .int .i64 0, .bool false] 85)) bel.size #[.int .i64 17, .int .u16 5, .int .u16 53, .int .i64 0, .int .i64 0, .int .i64 0, .bool false, .int .i64 0, .int .i64 0, .int .i64 0, .int .i64 0, .int .u32 0, .int .u32 0, .int .i64 0, .bool false]
  have p1 := bp.cell 1
  have p2 := bp.cell 2
  have h1 := bh.cell 1
  go_wp2_with (refine wpList_stRow rfl rfl rfl rfl rfl (Blk.new w4 _ _) pt_size rfl (by simp [Value.oneCell']) ?_; generalize (w4.alloc (.cells #[.int .i64 0, .int .u16 0, .int .u16 0, .int .i64 0, .int .i64 0, .int .i64 0, .bool false, .int .i64 0, .int .i64 0, .int .i64 0, .int .i64 0, .int .u32 0, .int .u32 0, .int .i64 0, .bool false] 85)).setRow w4.heap.size #[.int .i64 17, .int .u16 5, .int .u16 53, .int .i64 0, .int .i64 0, .int .i64 0, .bool false, .int .i64 0, .int .i64 0, .int .i64 0, .int .i64 0, .int .u32 0, .int .u32 0, .int .i64 0, .bool false] = W4 at *; generalize w4.heap.size = g4 at *)
  go_ret
  exact ⟨rfl, bel⟩
end Go.Proofs.Ytlhfbmoodehoiaa
