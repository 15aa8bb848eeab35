/- The walks of Key, SetKey, Count, Copy, and of all of them on nil. -/
import Derived.Test.YtgkimfodbbgdbaaPlaceMay
import Derived.Test.YtgkimfodbbgdbaaCells2
import Derived.Test.YtgkimfodbbgdbaaRowT2
namespace Go.Proofs.Ytgkimfodbbgdbaa
set_option linter.unusedVariables false
set_option linter.unusedSimpArgs false
open Go.RowKit
/-- whose a place is -/
structure Ky where
  p : Int
  a : Int
  r : Int
def Ky.ok (k : Ky) : Prop := (0 ≤ k.p ∧ k.p ≤ 255) ∧ (0 ≤ k.a ∧ k.a ≤ 4294967295) ∧ (0 ≤ k.r ∧ k.r ≤ 65535)
def Ky.num (k : Ky) : Int := k.p * 281474976710656 + k.a * 65536 + k.r
def unK (n : Int) : Ky := ⟨n / 281474976710656, n / 65536 % 4294967296, n % 65536⟩
def Ky.val (k : Ky) : Value := .agg #[.int .i64 k.p, .int .u32 k.a, .int .u16 k.r]
theorem knum_bd {k : Ky} (h : k.ok) : 0 ≤ k.num ∧ k.num ≤ 18446744073709551615 := by unfold Ky.ok at h; unfold Ky.num; omega
theorem unk_num {k : Ky} (h : k.ok) : unK k.num = k := by
  obtain ⟨a, b, c⟩ := k
  unfold Ky.ok at h
  simp only at h
  simp only [unK, Ky.num, Ky.mk.injEq]
  refine ⟨by omega, by omega, by omega⟩
theorem u64_or_add' (m : Nat) (x y : Int) (hy : 0 ≤ y) (hy2 : y < (2 ^ m : Nat)) (hx : 0 ≤ x) (hx2 : x % (2 ^ m : Nat) = 0) (hs : x < 18446744073709551616) (hy3 : y < 18446744073709551616) : bits .or .u64 x y = x + y := by
  obtain ⟨a, rfl⟩ := Int.eq_ofNat_of_zero_le hy
  obtain ⟨b, rfl⟩ := Int.eq_ofNat_of_zero_le hx
  have h1 : b % 2 ^ m = 0 := by exact_mod_cast hx2
  have h2 : a < 2 ^ m := by exact_mod_cast hy2
  rw [u64_or _ _ hx hs hy hy3, Int.toNat_natCast, Int.toNat_natCast, nat_join m _ _ h1 h2]; omega
theorem or_knum {k : Ky} (h : k.ok) : bits .or .u64 (bits .or .u64 (k.p * 281474976710656) (k.a * 65536)) k.r = k.num := by
  unfold Ky.ok at h
  rw [u64_or_add' 48 (k.p * 281474976710656) (k.a * 65536) (by omega) (by omega) (by omega) (by omega) (by omega) (by omega), u64_or_add' 16 _ k.r (by omega) (by omega) (by omega) (by omega) (by omega) (by omega)]
  unfold Ky.num; omega
theorem there_nil (i : Int) (w : World) :
    Calls Try.prog 34 #[.pointer none, .int .i64 i] w fun e w' => e = .returned (.bool false) ∧ w = w' := by
  go_enter Try.func34, Try.ntmps34
  go_wp2
  go_ret
  exact ⟨rfl, rfl⟩
theorem PlLoad_nil (i : Int) (w : World) :
    Calls Try.prog 19 #[.pointer none, .int .i64 i] w fun e w' => e = .returned (.agg #[.int .i64 0, .int .i64 0, .int .i64 0, .int .i64 0]) ∧ Below w.heap.size w w' := by
  go_enter Try.func19, Try.ntmps19
  go_wp2_with (go_at_call 34; refine (there_nil _ _).mono ?_; rintro e w' ⟨rfl, rfl⟩)
  exact bodyPost_ret (v := .agg #[.int .i64 0, .int .i64 0, .int .i64 0, .int .i64 0]) (by simp [results, Try.results19, go_sem]) rfl ⟨rfl, by have := bel_alloc w (.cells #[.int .i64 0, .int .i64 0, .int .i64 0, .int .i64 0] 28); (repeat (first | (with_reducible exact this) | (with_reducible refine Below.setCell ?_ ?_ _; rotate_left; · (first | omega | (simp; done) | (simp; omega) | (have hsz := Below.size this; omega) | (have hsz := Below.size this; simp; omega))) | (with_reducible refine Below.alloc ?_ ?_ _; rotate_left; · (first | omega | (simp; done) | (simp; omega) | (have hsz := Below.size this; omega) | (have hsz := Below.size this; simp; omega))) | (with_reducible refine below_drewN ?_ _) | (with_reducible refine Below.drew ?_)))⟩
theorem PlKey_nil (i : Int) (w : World) :
    Calls Try.prog 23 #[.pointer none, .int .i64 i] w fun e w' => e = .returned (.agg #[.int .i64 0, .int .u32 0, .int .u16 0]) ∧ Below w.heap.size w w' := by
  go_enter Try.func23, Try.ntmps23
  go_wp2_with (go_at_call 34; refine (there_nil _ _).mono ?_; rintro e w' ⟨rfl, rfl⟩)
  exact bodyPost_ret (v := .agg #[.int .i64 0, .int .u32 0, .int .u16 0]) (by simp [results, Try.results23, go_sem]) rfl ⟨rfl, by have := Below.refl w.heap.size w; (repeat (first | (with_reducible exact this) | (with_reducible refine Below.setCell ?_ ?_ _; rotate_left; · (first | omega | (simp; done) | (simp; omega) | (have hsz := Below.size this; omega) | (have hsz := Below.size this; simp; omega))) | (with_reducible refine Below.alloc ?_ ?_ _; rotate_left; · (first | omega | (simp; done) | (simp; omega) | (have hsz := Below.size this; omega) | (have hsz := Below.size this; simp; omega))) | (with_reducible refine below_drewN ?_ _) | (with_reducible refine Below.drew ?_)))⟩
theorem PlSetKey_nil (i : Int) (w : World) :
    Calls Try.prog 24 #[.pointer none, .int .i64 i, .agg #[.int .i64 0, .int .u32 0, .int .u16 0]] w fun e w' => e = .returned (.int .i64 1) ∧ Below w.heap.size w w' := by
  go_enter Try.func24, Try.ntmps24
  go_wp2_with (go_at_call 34; refine (there_nil _ _).mono ?_; rintro e w' ⟨rfl, rfl⟩)
  go_ret
  exact ⟨rfl, bel_alloc _ _⟩
theorem PlSize_nil (w : World) :
    Calls Try.prog 25 #[.pointer none] w fun e w' => e = .returned (.int .i64 0) ∧ w = w' := by
  go_enter Try.func25, Try.ntmps25
  go_wp2
  go_ret
  exact ⟨rfl, rfl⟩
theorem PlCount_nil (s : Int) (w : World) :
    Calls Try.prog 26 #[.pointer none, .int .i64 s] w fun e w' => e = .returned (.int .i64 0) ∧ w = w' := by
  go_enter Try.func26, Try.ntmps26
  go_wp2_with (go_at_call 25; refine (PlSize_nil _).mono ?_; rintro e w' ⟨rfl, rfl⟩)
  go_loopw [5, 9] (fun c i wr => c = .int .i64 0 ∧ i = .int .i64 0 ∧ w = wr) (fun _ _ _ => 0)
  case atStart => exact ⟨rfl, rfl, rfl⟩
  case round =>
    obtain ⟨rfl, rfl, rfl⟩ := hrel
    go_wp2
    go_ret
    exact ⟨rfl, rfl⟩
theorem PlCopy_nil (w : World) :
    Calls Try.prog 27 #[.pointer none] w fun e w' => e = .returned (.slice none 0 0) ∧ w = w' := by
  go_enter Try.func27, Try.ntmps27
  go_wp2
  go_ret
  exact ⟨rfl, rfl⟩
theorem PlCas_nil (i : Int) (a b c d e f g' h' : Int) (w : World) :
    Calls Try.prog 20 #[.pointer none, .int .i64 i, .agg #[.int .i64 a, .int .i64 b, .int .i64 c, .int .i64 d], .agg #[.int .i64 e, .int .i64 f, .int .i64 g', .int .i64 h']] w fun r w' => r = .returned (.bool false) ∧ Below w.heap.size w w' := by
  have bw := (bel_alloc w (.cells #[.int .i64 a, .int .i64 b, .int .i64 c, .int .i64 d] 28)).alloc (by simp) (.cells #[.int .i64 e, .int .i64 f, .int .i64 g', .int .i64 h'] 28)
  go_enter Try.func20, Try.ntmps20
  go_wp2_with fail
  generalize (w.alloc (.cells #[.int .i64 a, .int .i64 b, .int .i64 c, .int .i64 d] 28)).alloc (.cells #[.int .i64 e, .int .i64 f, .int .i64 g', .int .i64 h'] 28) = W at *
  have : Nonempty (Tw (fun w' => ∃ m, w' = W.drewN m)) := ⟨⟨W, 0, rfl⟩⟩
  refine region_tw (fun w' => ∃ m, w' = W.drewN m) (by kernel_rfl) (by kernel_rfl) ⟨1, rfl⟩ ?_
  unfold clsS
  repeat (first
    | go_big_quiet_skip
    | (go_big_quiet_want; go_big_quiet_op; first | go_big_quiet_on | go_big_quiet_call (
      (go_at_call 34; exact q_tw_same (there_nil _ _)))))
  refine wpQuiet_nil ?_
  intro tq
  go_wp2
  go_ret
  obtain ⟨w', m, rfl⟩ := tq
  exact ⟨rfl, below_drewN bw m⟩
theorem none_any (w : World) :
    Calls Try.prog 22 #[] w fun e w' => e = .returned (.pointer none) ∧ w = w' := by
  go_enter Try.func22, Try.ntmps22
  go_wp2
  go_ret
  exact ⟨rfl, rfl⟩
theorem PlKey_any (i : Int) (p g h n : Nat) (l : List Int) (w : World) (hp : Pl w p g h n l) (hn : n ≤ 3072) (hi : 0 ≤ i ∧ i < n) :
    Calls Try.prog 23 #[.pointer (some ⟨p, 0, none⟩), .int .i64 i] w fun e w' => e = .returned (unK (celAt l (2 * i + 1))).val ∧ Below w.heap.size w w' := by
  have hb := celAt_rng hp.cel (2 * i + 1)
  have hd : decide (0 ≤ i ∧ i < n) = true := by simpa using hi
  have hw : IntKind.i64.wrap (2 * i) = 2 * i := by rw [IntKind.wrap_i64]; omega
  have hw2 : IntKind.i64.wrap (2 * i + 1) = 2 * i + 1 := by rw [IntKind.wrap_i64]; omega
  have hT := fun W (hW : Pl W p g h n l) => there_any i p g h n l W hW hn
  rw [hd] at hT
  have hL := fun W (hW : Pl W p g h n l) => Load_any (2 * i + 1) g h l W hW.cel (by rw [hW.len]; omega)
  obtain ⟨c, hc⟩ : ∃ c, c = celAt l (2 * i + 1) := ⟨_, rfl⟩
  rw [← hc] at hb hL ⊢
  have hv : (unK c).val = .agg #[.int .i64 (c / 281474976710656), .int .u32 (c / 65536 % 4294967296), .int .u16 (c % 65536)] := rfl
  rw [hv]
  replace hT := Lib.hid hT
  replace hL := Lib.hid hL
  clear hd hv hc
  have s1 : IntKind.i64.wrap (c / 281474976710656) = c / 281474976710656 := by rw [IntKind.wrap_i64]; omega
  have s2 : IntKind.u32.wrap (c / 65536) = c / 65536 % 4294967296 := by rw [IntKind.wrap_u32]
  have s3 : IntKind.u16.wrap c = c % 65536 := by rw [IntKind.wrap_u16]
  have hp1 := hp.alloc (.cells #[.int .i64 0, .int .u32 0, .int .u16 0] 56)
  go_enter Try.func23, Try.ntmps23
  go_wp2_with fail
  refine (hT.out _ hp1).mono ?_
  rintro e w' ⟨rfl, rfl⟩
  have e0 := hp1.obj.cell 0
  go_wp2_with fail
  refine (hL.out _ hp1).mono ?_
  rintro e w' ⟨rfl, rfl⟩
  go_wp2_with fail
  exact bodyPost_ret (v := .agg #[.int .i64 (c / 281474976710656), .int .u32 (c / 65536 % 4294967296), .int .u16 (c % 65536)]) (by simp [results, Try.results23, go_sem]) rfl ⟨rfl, by have := Below.refl w.heap.size w; (repeat (first | (with_reducible exact this) | (with_reducible refine Below.setCell ?_ ?_ _; rotate_left; · (first | omega | (simp; done) | (simp; omega) | (have hsz := Below.size this; omega) | (have hsz := Below.size this; simp; omega))) | (with_reducible refine Below.alloc ?_ ?_ _; rotate_left; · (first | omega | (simp; done) | (simp; omega) | (have hsz := Below.size this; omega) | (have hsz := Below.size this; simp; omega))) | (with_reducible refine below_drewN ?_ _) | (with_reducible refine Below.drew ?_)))⟩
theorem PlKey_out (i : Int) (p g h n : Nat) (l : List Int) (w : World) (hp : Pl w p g h n l) (hn : n ≤ 3072) (hi : ¬ (0 ≤ i ∧ i < n)) :
    Calls Try.prog 23 #[.pointer (some ⟨p, 0, none⟩), .int .i64 i] w fun e w' => e = .returned (.agg #[.int .i64 0, .int .u32 0, .int .u16 0]) ∧ Below w.heap.size w w' := by
  have hd : decide (0 ≤ i ∧ i < n) = false := by simpa using hi
  have hT := fun W (hW : Pl W p g h n l) => there_any i p g h n l W hW hn
  rw [hd] at hT
  replace hT := Lib.hid hT
  have hp1 := hp.alloc (.cells #[.int .i64 0, .int .u32 0, .int .u16 0] 56)
  go_enter Try.func23, Try.ntmps23
  go_wp2_with fail
  refine (hT.out _ hp1).mono ?_
  rintro e w' ⟨rfl, rfl⟩
  go_wp2
  exact bodyPost_ret (v := .agg #[.int .i64 0, .int .u32 0, .int .u16 0]) (by simp [results, Try.results23, go_sem]) rfl ⟨rfl, by have := Below.refl w.heap.size w; (repeat (first | (with_reducible exact this) | (with_reducible refine Below.setCell ?_ ?_ _; rotate_left; · (first | omega | (simp; done) | (simp; omega) | (have hsz := Below.size this; omega) | (have hsz := Below.size this; simp; omega))) | (with_reducible refine Below.alloc ?_ ?_ _; rotate_left; · (first | omega | (simp; done) | (simp; omega) | (have hsz := Below.size this; omega) | (have hsz := Below.size this; simp; omega))) | (with_reducible refine below_drewN ?_ _) | (with_reducible refine Below.drew ?_)))⟩
theorem PlCopy_any (p g h n : Nat) (l : List Int) (w : World) (hp : Pl w p g h n l) (hn : n ≤ 3072) :
    Calls Try.prog 27 #[.pointer (some ⟨p, 0, none⟩)] w fun e w' => ∃ v, e = .returned v ∧ Own .u64 24 w' w.heap.size v l ∧ Below w.heap.size w w' := by
  have e0 := hp.obj.cell 0
  go_enter Try.func27, Try.ntmps27
  go_wp2_with fail
  refine (Copy_any _ _ _ _ hp.cel (by rw [hp.len]; omega)).mono ?_
  rintro e w1 ⟨v, rfl, own, bel⟩
  go_wp2
  go_ret
  exact ⟨v, rfl, own, bel⟩
theorem lKey_any (a b c : Int) (w : World) :
    Calls Try.prog 28 #[.agg #[.int .i64 a, .int .u32 b, .int .u16 c]] w fun r w' => r = .returned (.agg #[.int .i64 a, .int .u32 b, .int .u16 c]) ∧ Below w.heap.size w w' := by
  go_enter Try.func28, Try.ntmps28
  go_wp2
  exact bodyPost_ret (v := .agg #[.int .i64 a, .int .u32 b, .int .u16 c]) (by simp [results, Try.results28, go_sem]) rfl ⟨rfl, ((bel_alloc _ _).alloc (by simp) _)⟩
theorem lFromKey_any (a b c : Int) (w : World) :
    Calls Try.prog 29 #[.agg #[.int .i64 a, .int .u32 b, .int .u16 c]] w fun r w' => r = .returned (.agg #[.int .i64 a, .int .u32 b, .int .u16 c]) ∧ Below w.heap.size w w' := by
  go_enter Try.func29, Try.ntmps29
  go_wp2
  exact bodyPost_ret (v := .agg #[.int .i64 a, .int .u32 b, .int .u16 c]) (by simp [results, Try.results29, go_sem]) rfl ⟨rfl, ((bel_alloc _ _).alloc (by simp) _)⟩
theorem rNumber_any (a b c : Int) (w : World) (h : (Ky.mk a b c).ok) :
    Calls Try.prog 30 #[.agg #[.int .i64 a, .int .u32 b, .int .u16 c]] w fun r w' => r = .returned (.int .u64 (Ky.mk a b c).num) ∧ Below w.heap.size w w' := by
  have hn : (Ky.mk a b c).num = a * 281474976710656 + b * 65536 + c := rfl
  rw [hn]
  unfold Ky.ok at h
  simp only at h
  have w1 : IntKind.u64.wrap a = a := by rw [IntKind.wrap_u64]; omega
  have w2 : IntKind.u64.wrap b = b := by rw [IntKind.wrap_u64]; omega
  have w3 : IntKind.u64.wrap c = c := by rw [IntKind.wrap_u64]; omega
  go_enter Try.func30, Try.ntmps30
  go_wp2
  go_ret
  exact ⟨rfl, bel_alloc _ _⟩
end Go.Proofs.Ytgkimfodbbgdbaa
