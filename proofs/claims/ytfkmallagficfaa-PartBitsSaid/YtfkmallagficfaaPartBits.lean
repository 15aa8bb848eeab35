/- Every input of PartBits answers true, and reads behind the call as it read before. No condition. -/
import Derived.Test.YtfkmallagficfaaPartFacts3
import Derived.Test.YtfkmallagficfaaPartGets
namespace Go.Proofs.Ytfkmallagficfaa
set_option linter.unusedVariables false
set_option linter.unusedSimpArgs false
open Go.RowKit
set_option maxRecDepth 100000 in
set_option maxHeartbeats 4000000 in
theorem PartBits_walk (wt s d a b f bit : Int) (l : List Int) (A : Option Addr) (len cap : Nat) (w : World) (hr : Rd .u8 w w.heap.size A len l) (hlc : len ≤ cap) (hcm : cap ≤ maxLen) (hs : 0 ≤ s ∧ s ≤ 4294967295) (hd : 0 ≤ d ∧ d ≤ 4294967295) (ha : 0 ≤ a ∧ a ≤ 65535) (hb : 0 ≤ b ∧ b ≤ 65535) :
    Calls Try.prog 5 #[.agg #[.int .i64 wt, .int .u32 s, .int .u32 d, .int .u16 a, .int .u16 b, .int .i64 f, .slice A len cap], .int .i64 bit] w fun e w' => e = .returned (.bool true) ∧ Below w.heap.size w w' := by
  unfold maxLen at hcm
  obtain ⟨k, hk, hk4⟩ := modn wt 4 (by omega)
  have hkv : Value.int .u64 ((IntKind.u64.wrap wt).tmod 4) = .int .u64 (k : Int) := by rw [hk]
  have hkb : k < 4 := by omega
  have hfr := fun w' (h : Below w.heap.size w w') => Frame_any k s d a b f l A len cap k w' ((hr.below h).more h.size) hlc hcm hs hd ha hb (modk k (by omega)) (by omega)
  have hl8 : Bytes8 (l.take 40) := fun x hx => inr_u8 (hr.rng x (List.mem_of_mem_take hx))
  have hlt : (l.take 40).length ≤ 40 := by rw [List.length_take]; omega
  have hbd := frame_bd (k := k) (s := s) (d := d) (a := a) (b := b) (f := f) hlt
  have hgt := frame_get (k := k) (a := a) (b := b) (f := f) hs hd hlt
  have hbit := frame_bit (f := f) hs hd ha hb hl8 hkb
  obtain ⟨P, hPe⟩ : ∃ P, P = carP k := ⟨_, rfl⟩
  obtain ⟨X, hXe⟩ : ∃ X, X = frameL k s d a b f (l.take 40) := ⟨_, rfl⟩
  obtain ⟨n, hX⟩ : ∃ n, X.length = n := ⟨_, rfl⟩
  rw [← hPe, ← hXe, hX] at hgt hbit
  rw [← hXe] at hfr hbd
  rw [hX] at hbd
  clear hXe hPe hk hk4 hr hl8 hlt
  obtain ⟨q, hq, hqn⟩ := modn bit (8 * (n : Int) - 160) (by omega)
  have hqv : Value.int .u64 ((IntKind.u64.wrap bit).tmod (8 * (n : Int) - 160)) = .int .u64 (q : Int) := by rw [hq]
  clear hq
  obtain ⟨j, hj, hj0, hj1⟩ : ∃ j : Nat, (160 + (q : Int)) / 8 = (j : Int) ∧ 20 ≤ j ∧ j < n := ⟨(160 + q) / 8, by omega, by omega, by omega⟩
  obtain ⟨m, hm, hm1⟩ : ∃ m : Nat, (160 + (q : Int)) % 8 = (m : Int) ∧ m < 8 := ⟨(160 + q) % 8, by omega, by omega⟩
  replace hbit := hbit j m hj0 hj1 hm1
  replace hX := Lib.hid hX
  replace hfr := Lib.hid hfr
  replace hbit := Lib.hid hbit
  replace hgt := Lib.hid hgt
  go_enter Try.func5, Try.ntmps5
  go_upto_region 1 with fail
  have bn := Blk.new w 26 #[.int .i64 wt, .int .u32 s, .int .u32 d, .int .u16 a, .int .u16 b, .int .i64 f, .slice A len cap]
  have bel := bel_alloc w (.cells #[.int .i64 wt, .int .u32 s, .int .u32 d, .int .u16 a, .int .u16 b, .int .i64 f, .slice A len cap] 26)
  generalize w.alloc (.cells #[.int .i64 wt, .int .u32 s, .int .u32 d, .int .u16 a, .int .u16 b, .int .i64 f, .slice A len cap] 26) = W at *
  have q0 := bn.cell 0
  have f0 := bn.frozen 0
  replace bel := bel.setCell (p := ⟨w.heap.size, 0, none⟩) (Nat.le_refl _) (.int .i64 (k : Int))
  replace bn := bn.set_ 0 (.int .i64 (k : Int))
  go_upto_region 2 with fail
  clear q0 f0
  generalize W.setCell ⟨w.heap.size, 0, none⟩ (.int .i64 (k : Int)) = W1 at *
  go_wp2_with (refine wpList_ldRow rfl rfl rfl bn Try.underlying26 sn_size ?_)
  refine (hfr.out _ bel).mono ?_
  rintro e w1 ⟨v1, rfl, own1, bel1⟩
  replace own1 := own1.mono_ bel.size
  replace bel := bel_after bel bel1
  clear bel1 bn
  obtain ⟨g, c1, rfl, hc1, hc2, hg1, hg2⟩ := own1.formG hX.out (by omega)
  unfold maxLen at hc2
  have hget := Get_any X (some ⟨g, 0, none⟩) n c1 _ w1 (own1.rd hX.out) (Nat.le_refl _) hc1 (by omega) (by omega)
  rw [hgt.out.1, hgt.out.2] at hget
  simp only [Hd.val] at hget
  replace hget := Lib.hid hget
  go_wp2_with fail
  refine hget.out.mono ?_
  rintro e w2 ⟨rfl, hb2⟩
  clear hget hgt
  replace own1 := own1.below hb2
  replace bel := bel_after bel hb2
  clear hb2
  have hgl : g < w2.heap.size := (own1.lt g rfl).2
  have bh := (Blk.new w2 35 #[.int .i64 0, .int .i64 0, .int .i64 0, .int .i64 0, .int .u32 0, .int .u32 0]).setRow #[.int .i64 20, .int .i64 (n : Int), .int .i64 64, .int .i64 P, .int .u32 s, .int .u32 d]
  replace own1 := (own1.alloc (.cells #[.int .i64 0, .int .i64 0, .int .i64 0, .int .i64 0, .int .u32 0, .int .u32 0] 35)).upd (Upd.row (w2.alloc (.cells #[.int .i64 0, .int .i64 0, .int .i64 0, .int .i64 0, .int .u32 0, .int .u32 0] 35)) w2.heap.size #[.int .i64 20, .int .i64 (n : Int), .int .i64 64, .int .i64 P, .int .u32 s, .int .u32 d]) (by intro x hx e; simp [Value.ownBlock] at hx; omega)
  replace bel := below_setRow (bel.alloc bel.size (.cells #[.int .i64 0, .int .i64 0, .int .i64 0, .int .i64 0, .int .u32 0, .int .u32 0] 35)) bel.size #[.int .i64 20, .int .i64 (n : Int), .int .i64 64, .int .i64 P, .int .u32 s, .int .u32 d]
  go_upto_region 5 with (refine wpList_stRow rfl rfl rfl rfl rfl (Blk.new _ _ _) hd_size rfl (by simp [Value.oneCell']) ?_; generalize (w2.alloc (.cells #[.int .i64 0, .int .i64 0, .int .i64 0, .int .i64 0, .int .u32 0, .int .u32 0] 35)).setRow w2.heap.size #[.int .i64 20, .int .i64 (n : Int), .int .i64 64, .int .i64 P, .int .u32 s, .int .u32 d] = W3 at *; generalize w2.heap.size = g3 at *)
  obtain ⟨cj, fj, xj⟩ := own1.at_ hX.out (j := j) hj1
  replace xj := inr_u8 xj
  replace hbit := hbit.out
  obtain ⟨xo, hxo⟩ : ∃ v, v = X.getD j 0 := ⟨_, rfl⟩
  rw [← hxo] at cj xj hbit
  clear hxo
  have hxr := xor_u8 xo m xj hm1
  have hfb := flip_bd ⟨xo.toNat, by omega⟩ ⟨m, hm1⟩
  simp only at hfb
  obtain ⟨fx, hfx⟩ : ∃ fx, fx = flip xo.toNat m := ⟨_, rfl⟩
  rw [← hfx] at hxr hfb hbit
  clear hfx
  have own2 := (own1.set hX.out j (x := (fx : Int)) (u8_inr (by omega))).drew
  have hl2 : (X.set j (fx : Int)).length = n := by rw [List.length_set]; exact hX.out
  have hgne : g ≠ g3 := by omega
  have hnb : (j : Int) < (n : Int) := by omega
  have hj0' : (0 : Int) ≤ (j : Int) := by omega
  go_region
  replace bh := (bh.far (p := ⟨g, j, none⟩) (by show g3 ≠ g; omega) (.int .u8 (fx : Int))).drew
  replace bel := (bel.setCell (p := ⟨g, j, none⟩) hg1 (.int .u8 (fx : Int))).drew
  clear cj fj own1
  generalize X.set j (fx : Int) = F at *
  generalize (W3.setCell ⟨g, j, none⟩ (.int .u8 (fx : Int))).drew = W4 at *
  have h1 := PGet_any ⟨20, n, 64, P, s, d⟩ F (some ⟨g, 0, none⟩) n c1 _ W4 (own2.rd hl2) (Nat.le_refl _) hc1 (by omega) (by omega) hs hd
  obtain ⟨E, ⟨pr, sr, ds, fl, ki, co, er, ⟨i0, i1, i2, i3, i4, i5⟩, pa, ba⟩, hR⟩ : ∃ (E : Int) (p : Pt), getR ⟨20, n, 64, P, s, d⟩ F = (E, p) := ⟨_, _, rfl⟩
  rw [hR] at h1 hbit
  simp only [Tells, Pt.val, Hd.val] at h1
  clear hR own2
  replace h1 := Lib.hid h1
  replace hl2 := Lib.hid hl2
  replace hbit := Lib.hid hbit
  go_wp2_with (refine wpList_ldRow rfl rfl rfl bh Try.underlying35 hd_size ?_)
  refine h1.out.mono ?_
  rintro e w5 ⟨rfl, hb5⟩
  replace bel := bel_after bel hb5
  clear hb5 h1
  have bp := (Blk.new w5 37 #[.int .i64 0, .int .u16 0, .int .u16 0, .int .i64 0, .int .i64 0, .int .i64 0, .bool false, .int .i64 0, .int .i64 0, .int .i64 0, .int .i64 0, .int .u32 0, .int .u32 0, .int .i64 0, .bool false]).setRow #[.int .i64 pr, .int .u16 sr, .int .u16 ds, .int .i64 fl, .int .i64 ki, .int .i64 co, .bool er, .int .i64 i0, .int .i64 i1, .int .i64 i2, .int .i64 i3, .int .u32 i4, .int .u32 i5, .int .i64 pa, .bool ba]
  replace bel := below_setRow (bel.alloc bel.size (.cells #[.int .i64 0, .int .u16 0, .int .u16 0, .int .i64 0, .int .i64 0, .int .i64 0, .bool false, .int .i64 0, .int .i64 0, .int .i64 0, .int .i64 0, .int .u32 0, .int .u32 0, .int .i64 0, .bool false] 37)) bel.size #[.int .i64 pr, .int .u16 sr, .int .u16 ds, .int .i64 fl, .int .i64 ki, .int .i64 co, .bool er, .int .i64 i0, .int .i64 i1, .int .i64 i2, .int .i64 i3, .int .u32 i4, .int .u32 i5, .int .i64 pa, .bool ba]
  clear bh
  go_wp2_with (refine wpList_stRow rfl rfl rfl rfl rfl (Blk.new _ _ _) pt_size rfl (by simp [Value.oneCell']) ?_; generalize (w5.alloc (.cells #[.int .i64 0, .int .u16 0, .int .u16 0, .int .i64 0, .int .i64 0, .int .i64 0, .bool false, .int .i64 0, .int .i64 0, .int .i64 0, .int .i64 0, .int .u32 0, .int .u32 0, .int .i64 0, .bool false] 37)).setRow w5.heap.size #[.int .i64 pr, .int .u16 sr, .int .u16 ds, .int .i64 fl, .int .i64 ki, .int .i64 co, .bool er, .int .i64 i0, .int .i64 i1, .int .i64 i2, .int .i64 i3, .int .u32 i4, .int .u32 i5, .int .i64 pa, .bool ba] = W5 at *; generalize w5.heap.size = g1 at *)
  refine (parts_any _).mono ?_
  rintro e w6 ⟨rfl, hb6⟩
  replace bp := bp.bel hb6
  replace bel := bel_after bel hb6
  clear hb6
  rcases hbit.out with ⟨hE, hp⟩ | ⟨hE, hp, hba⟩
  · have hE1 : (E != 0) = true := by simpa using hE
    have hE2 : (E == 0) = false := by simpa using hE
    simp only [Pt.z, Hd.z, Pt.mk.injEq, Hd.mk.injEq] at hp
    obtain ⟨rfl, rfl, rfl, rfl, rfl, rfl, rfl, ⟨rfl, rfl, rfl, rfl, rfl, rfl⟩, rfl, rfl⟩ := hp
    clear hE hbit
    have p0 := bp.cell 0
    have p1 := bp.cell 1
    have p2 := bp.cell 2
    have p3 := bp.cell 3
    have p4 := bp.cell 4
    have p5 := bp.cell 5
    have p6 := bp.cell 6
    have p7 := bp.cell 7
    have p8 := bp.cell 8
    have p9 := bp.cell 9
    have p10 := bp.cell 10
    have p11 := bp.cell 11
    have p12 := bp.cell 12
    have p13 := bp.cell 13
    have p14 := bp.cell 14
    go_wp2
    go_ret
    exact ⟨rfl, bel⟩
  · simp only at hE hp hba
    subst hE hp hba
    clear hbit
    have p0 := bp.cell 0
    have p14 := bp.cell 14
    go_wp2
    go_ret
    exact ⟨rfl, bel⟩
theorem PartBits_args (W : World) (args : Array Value) (hs : args.size = Try.f5.params.size) (hA : ∀ (j : Nat) t v, Try.f5.params[j]? = some t → args[j]? = some v → Arg Try.prog W t v) :
    Calls Try.prog 5 args W fun e W' => e = .returned (.bool true) ∧ Below W.heap.size W W' := by
  obtain ⟨v0, v1, rfl⟩ := args2 hs
  obtain ⟨wt, s, d, a, b, f, A, len, cap, l, rfl, h1, h2, h3, h4, h5, h6, h7⟩ := arg_sent (hA 0 26 v0 rfl rfl)
  obtain ⟨x, rfl, _⟩ := arg_int Try.underlying3 (hA 1 3 v1 rfl rfl)
  exact PartBits_walk wt s d a b f x l A len cap W h7 h5 h6 h1 h2 h3 h4

set_option maxRecDepth 100000 in
theorem PartBits_lifted (os : Os) (started : os.Started) (H : Type) (enc : TypeId × Value → H) :
    ReturnsInHanded {} Try.checked os 5 .any (Rows.partBitsSpec.pre6 enc Try.prog Try.f5 Rows.partBitsRow.domain false) (Rows.partBitsSpec.post enc Try.prog Try.f5 false true false false) :=
  law_lifted os started H enc (by kernel_rfl) Try.func5 rfl rfl (fun H ds h => by match ds, h with | [_, _], _ => exact ⟨rfl, rfl, rfl⟩) (by kernel_rfl)
    (ChangeSpec.witness6 (enc := enc) (C := Try.checked) false ⟨#[], #[.agg #[.int .i64 0, .int .u32 0, .int .u32 0, .int .u16 0, .int .u16 0, .int .i64 0, .slice none 0 0], .int .i64 0], []⟩ 8 (by kernel_rfl) (by kernel_rfl) (by kernel_rfl) (by kernel_rfl))
    PartBits_args

/-- the statement -/
theorem partBits_holds : Rows.PartBitsSaid :=
  OpenClaim.holds_of_wide 5 Try.f5 rfl rfl rfl rfl rfl rfl rfl ⟨rfl, rfl, rfl, rfl, rfl⟩ rfl rfl rfl rfl rfl (by kernel_rfl) Try.func5 (by kernel_rfl)
    (of_decide_eq_true (by kernel_rfl)) (by unfold Func.isWrapper; first | (rw [if_pos (by decide +kernel)]; kernel_rfl) | (rw [if_neg (by decide +kernel)]; exact ⟨rfl, rfl⟩))
    (fun os started H enc _ => PartBits_lifted os started H enc)

end Go.Proofs.Ytfkmallagficfaa
