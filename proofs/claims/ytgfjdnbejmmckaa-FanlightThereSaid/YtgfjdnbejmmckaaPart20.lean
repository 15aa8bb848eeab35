/- The document's side of package part: Udp, Tcp, Echo, Fault. -/
import Derived.Test.YtgfjdnbejmmckaaPart19
namespace Go.Proofs.Ytgfjdnbejmmckaa
set_option linter.unusedVariables false
set_option linter.unusedSimpArgs false
open Go.RowKit
theorem rfew_any (l : List Int) (A : Option Addr) (len c B : Nat) (w : World) (hr : Rd .u8 w B A len l) (hlc : len ≤ c) (hcm : c ≤ 9223372036854775807) :
    Calls Try.prog 47 #[.slice A len c] w fun e w' => (∃ c', e = .returned (.slice A (fewL l).length c') ∧ (fewL l).length ≤ c' ∧ c' ≤ 9223372036854775807 ∧ Rd .u8 w B A (fewL l).length (fewL l)) ∧ w = w' := by
  have hm : (fewL l).length = min 1400 len := by unfold fewL; rw [List.length_take, hr.len]
  have hrd : Rd .u8 w B A (fewL l).length (fewL l) := by
    have e : l.take (min 1400 len) = l.take 1400 := List.take_eq_take_iff.2 (by rw [hr.len]; omega)
    rw [hm]; unfold fewL; rw [← e]; exact hr.take (m := min 1400 len) (by omega)
  rw [hm] at hrd ⊢
  generalize fewL l = F at *
  clear hm
  by_cases h : len ≤ 1400
  · have e : min 1400 len = len := by omega
    rw [e] at hrd ⊢
    clear e
    go_enter Try.func47, Try.ntmps47
    have hc : min (len : Int) 1400 = (len : Int) := by omega
    go_wp2
    go_ret
    refine ⟨⟨c, rfl, hlc, ?_⟩, rfl⟩
    first | exact ⟨hcm, hrd⟩ | exact hcm
  · have e : min 1400 len = 1400 := by omega
    rw [e] at hrd ⊢
    clear e
    go_enter Try.func47, Try.ntmps47
    have hc : min (len : Int) 1400 = 1400 := by omega
    go_wp2
    go_ret
    refine ⟨⟨c, rfl, by omega, ?_⟩, rfl⟩
    first | exact ⟨hcm, hrd⟩ | exact hcm
set_option maxRecDepth 100000 in
set_option maxHeartbeats 1000000 in
theorem rUdp_any (s d a b : Int) (l : List Int) (A : Option Addr) (len c B : Nat) (w : World) (hr : Rd .u8 w B A len l) (hB : B ≤ w.heap.size) (hlc : len ≤ c) (hcm : c ≤ 9223372036854775807) (hs : 0 ≤ s ∧ s ≤ 4294967295) (hd : 0 ≤ d ∧ d ≤ 4294967295) (ha : 0 ≤ a ∧ a ≤ 65535) (hb : 0 ≤ b ∧ b ≤ 65535) :
    Calls Try.prog 23 #[.int .u32 s, .int .u32 d, .int .u16 a, .int .u16 b, .slice A len c] w (Gives w (udpL s d a b l)) := by
  unfold udpL
  obtain ⟨i0, hi, hz0, hz1, hz2⟩ := info_parts info_u8_
  have hrB := hr.more hB
  have hfew := fun w' hr => rfew_any l A len c w.heap.size w' hr hlc hcm
  have hFl := fewL_len l
  have hFx : ∀ x, x ∈ fewL l → 0 ≤ x ∧ x ≤ 255 := fun x hx => inr_u8 (hr.rng x (fewL_mem hx))
  obtain ⟨F, hF⟩ : ∃ F, F = fewL l := ⟨_, rfl⟩
  rw [← hF] at hfew hFl hFx ⊢
  obtain ⟨m, hm⟩ : ∃ m, m = F.length := ⟨_, rfl⟩
  rw [← hm] at hfew hFl
  replace hfew := Lib.hid hfew
  replace hF := Lib.hid hF
  obtain ⟨L, hL⟩ : ∃ L, L = udpB a b F 0 := ⟨_, rfl⟩
  have hLl : L.length = 8 + m := by rw [hL, udpB_len, hm]
  rw [← hL]
  have hset := fun S => udpB_set a b F S
  rw [← hL] at hset
  have hps := fun (A' : Option Addr) (c' : Nat) (w' : World) (rd : Rd .u8 w' w'.heap.size A' (8 + m) L) => Pseudo_any s d 17 L A' (8 + m) c' _ w' rd (Nat.le_refl _) hs hd (by omega) (by omega)
  have hSb : (∀ x, x ∈ L → 0 ≤ x ∧ x ≤ 255) → 0 ≤ csum s d 17 L ∧ csum s d 17 L ≤ 65535 := fun h => csum_bd hs hd (by omega) (by omega) h
  obtain ⟨S, hS⟩ : ∃ S, S = csum s d 17 L := ⟨_, rfl⟩
  rw [← hS] at hps hSb ⊢
  obtain ⟨T, hT⟩ : ∃ T, T = nev S := ⟨_, rfl⟩
  rw [← hT]
  replace hset := Lib.hid (hset T)
  replace hT := Lib.hid hT
  replace hps := Lib.hid hps
  replace hLl := Lib.hid hLl
  replace hS := Lib.hid hS
  have eL : ((be2 a ++ be2 b) ++ be2 (8 + (m : Int)) ++ [0, 0]) ++ F = L := by rw [hL, hm]; simp [udpB]; rfl
  replace eL := Lib.hid eL
  replace hL := Lib.hid hL
  replace hm := Lib.hid hm
  go_enter Try.func23, Try.ntmps23
  go_wp2_with fail
  refine (hfew.out _ hrB).mono ?_
  rintro e w0 ⟨⟨c', rfl, hmc, hcm', rdF⟩, rfl⟩
  go_wp2_with fail
  refine (word_any a _ ha).mono ?_
  rintro e w1 ⟨rfl, hw1⟩
  have a1 := App.new_ w w.heap.size (be2 a) (be2_inr ha) #[.int .u8 (a / 256), .int .u8 (a % 256)] rfl 2 rfl (by omega) (Nat.le_refl _)
  rw [← hw1] at a1
  replace hw1 := Lib.hid hw1
  go_wp2_with fail
  refine (word_any (b) _ (by omega)).mono ?_
  rintro e w2 ⟨rfl, hw2⟩
  have x2 := Rd.new .u8 w1 5 (be2 (b)) (be2_inr (by omega)) #[.int .u8 ((b) / 256), .int .u8 ((b) % 256)] rfl 2 rfl
  have a2 := a1.alloc (.cells #[.int .u8 ((b) / 256), .int .u8 ((b) % 256)] 5)
  have hy2 : w2.heap.size = w1.heap.size + 1 := by rw [hw2]; simp
  rw [← hw2] at x2 a2
  replace hw2 := Lib.hid hw2
  have s2 := a2.bel.size
  go_wp2_with (at_builtin; (refine wpList_app _ rfl (.tmp 17) (.tmp 20) 24 rfl .u8 w.heap.size 5 i0 (.int .u8 0) 1 Try.underlying24 hi hz0 hz1 hz2 rfl _ (by rfl) _ a2.own (w1.heap.size + 1) _ 2 2 (by rfl) (be2 b) x2 (by simp [be2, be4]; try omega) (by decide) s2 ?_; intro v3 w3 own3 hg3 hb3; have a3 := a2.app own3 hg3 hb3; clear own3 hg3 hb3))
  refine (word_any (8 + (m : Int)) _ (by omega)).mono ?_
  rintro e w4 ⟨rfl, hw4⟩
  have x4 := Rd.new .u8 w3 5 (be2 (8 + (m : Int))) (be2_inr (by omega)) #[.int .u8 ((8 + (m : Int)) / 256), .int .u8 ((8 + (m : Int)) % 256)] rfl 2 rfl
  have a4 := a3.alloc (.cells #[.int .u8 ((8 + (m : Int)) / 256), .int .u8 ((8 + (m : Int)) % 256)] 5)
  have hy4 : w4.heap.size = w3.heap.size + 1 := by rw [hw4]; simp
  rw [← hw4] at x4 a4
  replace hw4 := Lib.hid hw4
  have s4 := a4.bel.size
  go_wp2_with (first
    | (at_builtin; (refine wpList_app _ rfl (.tmp 21) (.tmp 25) 24 rfl .u8 w.heap.size 5 i0 (.int .u8 0) 1 Try.underlying24 hi hz0 hz1 hz2 rfl _ (by rfl) _ a4.own (w3.heap.size + 1) _ 2 2 (by rfl) (be2 (8 + (m : Int))) x4 (by simp [be2, be4]; try omega) (by decide) s4 ?_; intro v5 w5 own5 hg5 hb5; have a5 := a4.app own5 hg5 hb5; clear own5 hg5 hb5))
    | (at_builtin; (have hx := Rd.new .u8 w5 5 [0, 0] (by intro y hy; simp at hy; subst hy; exact u8_inr (by omega)) #[.int .u8 0, .int .u8 0] rfl 2 rfl; refine wpList_app _ rfl (.tmp 26) (.tmp 27) 24 rfl .u8 w.heap.size 5 i0 (.int .u8 0) 1 Try.underlying24 hi hz0 hz1 hz2 rfl _ (by rfl) _ (a5.own.alloc _) (w5.heap.size + 1) _ 2 2 rfl [0, 0] hx (by simp [be2]) (by decide) (by have := a5.upd.size; simp; omega) ?_; intro v6 w6 own6 hg6 hb6; have a6 := (a5.alloc (.cells #[.int .u8 0, .int .u8 0] 5)).app own6 hg6 hb6; clear own6 hg6 hb6 hx; have rd6 := rdF.below a6.bel; have s6 := a6.bel.size))
    | (at_builtin; (refine wpList_app _ rfl (.tmp 29) (.tmp 30) 24 rfl .u8 w.heap.size 5 i0 (.int .u8 0) 1 Try.underlying24 hi hz0 hz1 hz2 rfl _ (by rfl) _ a6.own w.heap.size _ _ _ (by rfl) F rd6 (by simp [be2, be4]; try omega) (by decide) s6 ?_; intro v7 w7 own7 hg7 hb7; have a7 := a6.app own7 hg7 hb7; clear own7 hg7 hb7)))
  rw [eL.out] at a7
  have bel5 := a7.bel
  have own5 := a7.own
  clear a1 a2 a3 a4 a5 a6 a7 rd6 rdF eL x2 x4
  obtain ⟨g, c5, rfl, hc1, hc2, hg1, hg2⟩ := own5.formG hLl.out (by omega)
  have rd5 := own5.rd hLl.out
  have hSb := hSb (fun x hx => inr_u8 (own5.rng x hx))
  refine (hps.out _ c5 _ rd5).mono ?_
  rintro e w6 ⟨rfl, bel6⟩
  have bel8 := bel_after bel5 bel6
  have own8 := own5.below bel6
  clear bel5 bel6 rd5 own5
  by_cases hz : S = 0
  · subst hz
    have hT2 : T = 65535 := by rw [hT.out]; rfl
    have h2 : (L.set 6 ((65535 : Int) / 256)).set (6 + 1) ((65535 : Int) % 256) = udpB a b F T := by rw [← hset.out, hT2]
    replace h2 := Lib.hid h2
    clear hT2
    have hgw : w.heap.size ≤ g := hg1
    have hSw : IntKind.u8.wrap ((65535 : Int)) = ((65535 : Int)) % 256 := IntKind.wrap_u8' _
    have own9 := (own8.set hLl.out 6 (x := ((65535 : Int)) / 256) (u8_inr (by omega))).set (by rw [List.length_set]; exact hLl.out) (6 + 1) (x := ((65535 : Int)) % 256) (u8_inr (by omega))
    have up9 := (Upd.one w6 g 6 (.int .u8 (((65535 : Int)) / 256))).trans (Upd.one _ g (6 + 1) (.int .u8 (((65535 : Int)) % 256)))
    obtain ⟨c0, f0, _⟩ := own8.at_ hLl.out (j := 6) (by omega)
    obtain ⟨c1, f1, _⟩ := own8.at_ hLl.out (j := 6 + 1) (by omega)
    go_wp2_with fail
    go_ret
    refine ⟨_, rfl, ?_, bel8.trans (up9.below bel8.size (fun x hx e => by omega))⟩
    rw [h2.out] at own9
    exact own9
  · have hz2 : (S == 0) = false := by simpa using hz
    have hTS : T = S := by rw [hT.out]; unfold nev; rw [if_neg hz]
    have h2 : (L.set 6 (S / 256)).set (6 + 1) (S % 256) = udpB a b F T := by rw [← hset.out, hTS]
    replace h2 := Lib.hid h2
    clear hTS
    have hgw : w.heap.size ≤ g := hg1
    have hSw : IntKind.u8.wrap (S) = (S) % 256 := IntKind.wrap_u8' _
    have own9 := (own8.set hLl.out 6 (x := (S) / 256) (u8_inr (by omega))).set (by rw [List.length_set]; exact hLl.out) (6 + 1) (x := (S) % 256) (u8_inr (by omega))
    have up9 := (Upd.one w6 g 6 (.int .u8 ((S) / 256))).trans (Upd.one _ g (6 + 1) (.int .u8 ((S) % 256)))
    obtain ⟨c0, f0, _⟩ := own8.at_ hLl.out (j := 6) (by omega)
    obtain ⟨c1, f1, _⟩ := own8.at_ hLl.out (j := 6 + 1) (by omega)
    go_wp2_with fail
    go_ret
    refine ⟨_, rfl, ?_, bel8.trans (up9.below bel8.size (fun x hx e => by omega))⟩
    rw [h2.out] at own9
    exact own9
set_option maxRecDepth 100000 in
set_option maxHeartbeats 1000000 in
theorem rTcp_any (s d a b f : Int) (l : List Int) (A : Option Addr) (len c B : Nat) (w : World) (hr : Rd .u8 w B A len l) (hB : B ≤ w.heap.size) (hlc : len ≤ c) (hcm : c ≤ 9223372036854775807) (hs : 0 ≤ s ∧ s ≤ 4294967295) (hd : 0 ≤ d ∧ d ≤ 4294967295) (ha : 0 ≤ a ∧ a ≤ 65535) (hb : 0 ≤ b ∧ b ≤ 65535) :
    Calls Try.prog 24 #[.int .u32 s, .int .u32 d, .int .u16 a, .int .u16 b, .int .i64 f, .slice A len c] w (Gives w (tcpL s d a b f l)) := by
  unfold tcpL
  obtain ⟨i0, hi, hz0, hz1, hz2⟩ := info_parts info_u8_
  have hrB := hr.more hB
  have hfew := fun w' hr => rfew_any l A len c w.heap.size w' hr hlc hcm
  have hFl := fewL_len l
  have hFx : ∀ x, x ∈ fewL l → 0 ≤ x ∧ x ≤ 255 := fun x hx => inr_u8 (hr.rng x (fewL_mem hx))
  obtain ⟨F, hF⟩ : ∃ F, F = fewL l := ⟨_, rfl⟩
  rw [← hF] at hfew hFl hFx ⊢
  obtain ⟨m, hm⟩ : ∃ m, m = F.length := ⟨_, rfl⟩
  rw [← hm] at hfew hFl
  replace hfew := Lib.hid hfew
  replace hF := Lib.hid hF
  obtain ⟨L, hL⟩ : ∃ L, L = tcpB a b f F 0 := ⟨_, rfl⟩
  have hLl : L.length = 20 + m := by rw [hL, tcpB_len, hm]
  rw [← hL]
  have hset := fun S => tcpB_set a b f F S
  rw [← hL] at hset
  have hps := fun (A' : Option Addr) (c' : Nat) (w' : World) (rd : Rd .u8 w' w'.heap.size A' (20 + m) L) => Pseudo_any s d 6 L A' (20 + m) c' _ w' rd (Nat.le_refl _) hs hd (by omega) (by omega)
  have hSb : (∀ x, x ∈ L → 0 ≤ x ∧ x ≤ 255) → 0 ≤ csum s d 6 L ∧ csum s d 6 L ≤ 65535 := fun h => csum_bd hs hd (by omega) (by omega) h
  obtain ⟨S, hS⟩ : ∃ S, S = csum s d 6 L := ⟨_, rfl⟩
  rw [← hS] at hps hSb ⊢
  replace hset := Lib.hid (hset S)
  replace hps := Lib.hid hps
  replace hLl := Lib.hid hLl
  replace hS := Lib.hid hS
  have eL : ((be2 a ++ be2 b) ++ [0, 0, 0, 0, 0, 0, 0, 0, 80, f % 256, 32, 0, 0, 0, 0, 0]) ++ F = L := by rw [hL]; simp [tcpB, be2]
  replace eL := Lib.hid eL
  replace hL := Lib.hid hL
  replace hm := Lib.hid hm
  have hfw : IntKind.u8.wrap f = f % 256 := IntKind.wrap_u8' f
  have hfb : 0 ≤ f % 256 ∧ f % 256 ≤ 255 := by omega
  have h16 : ∀ y, y ∈ [0, 0, 0, 0, 0, 0, 0, 0, 80, f % 256, 32, 0, 0, 0, 0, 0] → inr .u8 y := fun y hy => u8_inr (by simp at hy; omega)
  replace h16 := Lib.hid h16
  go_enter Try.func24, Try.ntmps24
  go_wp2_with fail
  refine (word_any a _ ha).mono ?_
  rintro e w1 ⟨rfl, hw1⟩
  have a1 := App.new_ w w.heap.size (be2 a) (be2_inr ha) #[.int .u8 (a / 256), .int .u8 (a % 256)] rfl 2 rfl (by omega) (Nat.le_refl _)
  rw [← hw1] at a1
  replace hw1 := Lib.hid hw1
  go_wp2_with fail
  refine (word_any (b) _ (by omega)).mono ?_
  rintro e w2 ⟨rfl, hw2⟩
  have x2 := Rd.new .u8 w1 5 (be2 (b)) (be2_inr (by omega)) #[.int .u8 ((b) / 256), .int .u8 ((b) % 256)] rfl 2 rfl
  have a2 := a1.alloc (.cells #[.int .u8 ((b) / 256), .int .u8 ((b) % 256)] 5)
  have hy2 : w2.heap.size = w1.heap.size + 1 := by rw [hw2]; simp
  rw [← hw2] at x2 a2
  replace hw2 := Lib.hid hw2
  have s2 := a2.bel.size
  go_wp2_with (first
    | (at_builtin; (refine wpList_app _ rfl (.tmp 17) (.tmp 20) 24 rfl .u8 w.heap.size 5 i0 (.int .u8 0) 1 Try.underlying24 hi hz0 hz1 hz2 rfl _ (by rfl) _ a2.own (w1.heap.size + 1) _ 2 2 (by rfl) (be2 b) x2 (by simp [be2, be4]; try omega) (by decide) s2 ?_; intro v3 w3 own3 hg3 hb3; have a3 := a2.app own3 hg3 hb3; clear own3 hg3 hb3))
    | (at_builtin; (have hx := Rd.new .u8 w3 5 [0, 0, 0, 0, 0, 0, 0, 0, 80, f % 256, 32, 0, 0, 0, 0, 0] h16.out #[.int .u8 0, .int .u8 0, .int .u8 0, .int .u8 0, .int .u8 0, .int .u8 0, .int .u8 0, .int .u8 0, .int .u8 80, .int .u8 (f % 256), .int .u8 32, .int .u8 0, .int .u8 0, .int .u8 0, .int .u8 0, .int .u8 0] rfl 16 rfl; refine wpList_app _ rfl (.tmp 21) (.tmp 24) 24 rfl .u8 w.heap.size 5 i0 (.int .u8 0) 1 Try.underlying24 hi hz0 hz1 hz2 rfl _ (by rfl) _ (a3.own.alloc _) (w3.heap.size + 1) _ 16 16 rfl [0, 0, 0, 0, 0, 0, 0, 0, 80, f % 256, 32, 0, 0, 0, 0, 0] hx (by simp [be2]) (by decide) (by have := a3.upd.size; simp; omega) ?_; intro v6 w6 own6 hg6 hb6; have a6 := (a3.alloc (.cells #[.int .u8 0, .int .u8 0, .int .u8 0, .int .u8 0, .int .u8 0, .int .u8 0, .int .u8 0, .int .u8 0, .int .u8 80, .int .u8 (f % 256), .int .u8 32, .int .u8 0, .int .u8 0, .int .u8 0, .int .u8 0, .int .u8 0] 5)).app own6 hg6 hb6; clear own6 hg6 hb6 hx; have rd6 := hrB.below a6.bel; have s6 := a6.bel.size)))
  refine (hfew.out _ rd6).mono ?_
  rintro e w0 ⟨⟨c', rfl, hmc, hcm', rdF⟩, rfl⟩
  go_wp2_with (at_builtin; (refine wpList_app _ rfl (.tmp 26) (.tmp 28) 24 rfl .u8 w.heap.size 5 i0 (.int .u8 0) 1 Try.underlying24 hi hz0 hz1 hz2 rfl _ (by rfl) _ a6.own w.heap.size _ _ _ (by rfl) F rdF (by simp [be2, be4]; try omega) (by decide) s6 ?_; intro v7 w7 own7 hg7 hb7; have a7 := a6.app own7 hg7 hb7; clear own7 hg7 hb7))
  rw [eL.out] at a7
  have bel5 := a7.bel
  have own5 := a7.own
  clear a1 a2 a3 a6 a7 rd6 rdF eL x2
  obtain ⟨g, c5, rfl, hc1, hc2, hg1, hg2⟩ := own5.formG hLl.out (by omega)
  have rd5 := own5.rd hLl.out
  have hSb := hSb (fun x hx => inr_u8 (own5.rng x hx))
  refine (hps.out _ c5 _ rd5).mono ?_
  rintro e w6 ⟨rfl, bel6⟩
  have bel8 := bel_after bel5 bel6
  have own8 := own5.below bel6
  clear bel5 bel6 rd5 own5
  have hgw : w.heap.size ≤ g := hg1
  have hSw : IntKind.u8.wrap (S) = (S) % 256 := IntKind.wrap_u8' _
  have own9 := (own8.set hLl.out 16 (x := (S) / 256) (u8_inr (by omega))).set (by rw [List.length_set]; exact hLl.out) (16 + 1) (x := (S) % 256) (u8_inr (by omega))
  have up9 := (Upd.one w6 g 16 (.int .u8 ((S) / 256))).trans (Upd.one _ g (16 + 1) (.int .u8 ((S) % 256)))
  obtain ⟨c0, f0, _⟩ := own8.at_ hLl.out (j := 16) (by omega)
  obtain ⟨c1, f1, _⟩ := own8.at_ hLl.out (j := 16 + 1) (by omega)
  go_wp2_with fail
  go_ret
  refine ⟨_, rfl, ?_, bel8.trans (up9.below bel8.size (fun x hx e => by omega))⟩
  rw [hset.out] at own9
  exact own9
set_option maxRecDepth 100000 in
set_option maxHeartbeats 1000000 in
theorem rEcho_any (r : Bool) (a : Int) (l : List Int) (A : Option Addr) (len c B : Nat) (w : World) (hr : Rd .u8 w B A len l) (hB : B ≤ w.heap.size) (hlc : len ≤ c) (hcm : c ≤ 9223372036854775807) (ha : 0 ≤ a ∧ a ≤ 65535) :
    Calls Try.prog 25 #[.bool r, .int .u16 a, .slice A len c] w (Gives w (echoL r a l)) := by
  unfold echoL
  obtain ⟨i0, hi, hz0, hz1, hz2⟩ := info_parts info_u8_
  have hrB := hr.more hB
  have hfew := fun w' hr => rfew_any l A len c w.heap.size w' hr hlc hcm
  have hFl := fewL_len l
  have hFx : ∀ x, x ∈ fewL l → 0 ≤ x ∧ x ≤ 255 := fun x hx => inr_u8 (hr.rng x (fewL_mem hx))
  obtain ⟨F, hF⟩ : ∃ F, F = fewL l := ⟨_, rfl⟩
  rw [← hF] at hfew hFl hFx ⊢
  obtain ⟨m, hm⟩ : ∃ m, m = F.length := ⟨_, rfl⟩
  rw [← hm] at hfew hFl
  replace hfew := Lib.hid hfew
  replace hF := Lib.hid hF
  have hkc : r = true ∧ (if r then (0 : Int) else 8) = 0 ∨ r = false ∧ (if r then (0 : Int) else 8) = 8 := by cases r <;> simp
  obtain ⟨k, hk⟩ : ∃ k, k = (if r then (0 : Int) else 8) := ⟨_, rfl⟩
  rw [← hk] at hkc ⊢
  clear hk
  have hkb : 0 ≤ k ∧ k ≤ 255 := by rcases hkc with ⟨_, h⟩ | ⟨_, h⟩ <;> omega
  obtain ⟨L, hL⟩ : ∃ L, L = echoB k a F 0 := ⟨_, rfl⟩
  have hLl : L.length = 8 + m := by rw [hL, echoB_len, hm]
  rw [← hL]
  have hset := fun S => echoB_set k a F S
  rw [← hL] at hset
  have hps := fun (A' : Option Addr) (c' : Nat) (w' : World) (rd : Rd .u8 w' w'.heap.size A' (8 + m) L) => rOf_any L A' (8 + m) c' _ w' (by omega) rd
  have hSb : (∀ x, x ∈ L → 0 ≤ x ∧ x ≤ 255) → 0 ≤ sumOf L ∧ sumOf L ≤ 65535 := fun h => sumOf_bd h
  obtain ⟨S, hS⟩ : ∃ S, S = sumOf L := ⟨_, rfl⟩
  rw [← hS] at hps hSb ⊢
  replace hset := Lib.hid (hset S)
  replace hps := Lib.hid hps
  replace hLl := Lib.hid hLl
  replace hS := Lib.hid hS
  have eL : [k, 0, 0, 0, a / 256, a % 256, 0, 0] ++ F = L := by rw [hL]; simp [echoB, be2]
  have h8 : ∀ y, y ∈ [k, 0, 0, 0, a / 256, a % 256, 0, 0] → inr .u8 y := fun y hy => u8_inr (by simp at hy; omega)
  replace h8 := Lib.hid h8
  replace eL := Lib.hid eL
  replace hL := Lib.hid hL
  replace hm := Lib.hid hm
  rcases hkc with ⟨rfl, hk⟩ | ⟨rfl, hk⟩
  · subst hk
    go_enter Try.func25, Try.ntmps25
    go_wp2_with fail
    have own0 := Own.new .u8 w 5 w.heap.size (Nat.le_refl _) [0, 0, 0, 0, a / 256, a % 256, 0, 0] h8.out #[.int .u8 0, .int .u8 0, .int .u8 0, .int .u8 0, .int .u8 (a / 256), .int .u8 (a % 256), .int .u8 0, .int .u8 0] rfl 8 rfl (by show 8 ≤ maxLen; decide)
    have bel0 : Below w.heap.size w (w.alloc (.cells #[.int .u8 0, .int .u8 0, .int .u8 0, .int .u8 0, .int .u8 (a / 256), .int .u8 (a % 256), .int .u8 0, .int .u8 0] 5)) := bel_alloc _ _
    generalize w.alloc (.cells #[.int .u8 0, .int .u8 0, .int .u8 0, .int .u8 0, .int .u8 (a / 256), .int .u8 (a % 256), .int .u8 0, .int .u8 0] 5) = W0 at *
    have hW0 := bel0.size
    refine (hfew.out _ (hrB.below bel0)).mono ?_
    rintro e w0 ⟨⟨c', rfl, hmc, hcm', rdF⟩, rfl⟩
    go_wp2_with (at_builtin; (refine wpList_app _ rfl (.tmp 17) (.tmp 19) 24 rfl .u8 w.heap.size 5 i0 (.int .u8 0) 1 Try.underlying24 hi hz0 hz1 hz2 rfl _ (by rfl) _ own0 w.heap.size _ _ _ (by rfl) F rdF (by simp; omega) (by decide) hW0 ?_; intro v9 w6 own9 hg9 hb9; have a9 := (App.refl own0).app own9 hg9 hb9; clear own9 hg9 hb9))
    rw [eL.out] at a9
    have bel8 := a9.bel0 bel0 (Nat.le_refl _)
    have own8 := a9.own
    clear a9 rdF eL own0
    obtain ⟨g, c5, rfl, hc1, hc2, hg1, hg2⟩ := own8.formG hLl.out (by omega)
    have rd5 := own8.rd hLl.out
    have hSb := hSb (fun x hx => inr_u8 (own8.rng x hx))
    refine (hps.out _ c5 _ rd5).mono ?_
    rintro e w6' ⟨rfl, rfl⟩
    clear rd5
    have hgw : w.heap.size ≤ g := hg1
    have hSw : IntKind.u8.wrap (S) = (S) % 256 := IntKind.wrap_u8' _
    have own9 := (own8.set hLl.out 2 (x := (S) / 256) (u8_inr (by omega))).set (by rw [List.length_set]; exact hLl.out) (2 + 1) (x := (S) % 256) (u8_inr (by omega))
    have up9 := (Upd.one w6 g 2 (.int .u8 ((S) / 256))).trans (Upd.one _ g (2 + 1) (.int .u8 ((S) % 256)))
    obtain ⟨c0, f0, _⟩ := own8.at_ hLl.out (j := 2) (by omega)
    obtain ⟨c1, f1, _⟩ := own8.at_ hLl.out (j := 2 + 1) (by omega)
    go_wp2_with fail
    go_ret
    refine ⟨_, rfl, ?_, bel8.trans (up9.below bel8.size (fun x hx e => by omega))⟩
    rw [hset.out] at own9
    exact own9
  · subst hk
    go_enter Try.func25, Try.ntmps25
    go_wp2_with fail
    have own0 := Own.new .u8 w 5 w.heap.size (Nat.le_refl _) [8, 0, 0, 0, a / 256, a % 256, 0, 0] h8.out #[.int .u8 8, .int .u8 0, .int .u8 0, .int .u8 0, .int .u8 (a / 256), .int .u8 (a % 256), .int .u8 0, .int .u8 0] rfl 8 rfl (by show 8 ≤ maxLen; decide)
    have bel0 : Below w.heap.size w (w.alloc (.cells #[.int .u8 8, .int .u8 0, .int .u8 0, .int .u8 0, .int .u8 (a / 256), .int .u8 (a % 256), .int .u8 0, .int .u8 0] 5)) := bel_alloc _ _
    generalize w.alloc (.cells #[.int .u8 8, .int .u8 0, .int .u8 0, .int .u8 0, .int .u8 (a / 256), .int .u8 (a % 256), .int .u8 0, .int .u8 0] 5) = W0 at *
    have hW0 := bel0.size
    refine (hfew.out _ (hrB.below bel0)).mono ?_
    rintro e w0 ⟨⟨c', rfl, hmc, hcm', rdF⟩, rfl⟩
    go_wp2_with (at_builtin; (refine wpList_app _ rfl (.tmp 17) (.tmp 19) 24 rfl .u8 w.heap.size 5 i0 (.int .u8 0) 1 Try.underlying24 hi hz0 hz1 hz2 rfl _ (by rfl) _ own0 w.heap.size _ _ _ (by rfl) F rdF (by simp; omega) (by decide) hW0 ?_; intro v9 w6 own9 hg9 hb9; have a9 := (App.refl own0).app own9 hg9 hb9; clear own9 hg9 hb9))
    rw [eL.out] at a9
    have bel8 := a9.bel0 bel0 (Nat.le_refl _)
    have own8 := a9.own
    clear a9 rdF eL own0
    obtain ⟨g, c5, rfl, hc1, hc2, hg1, hg2⟩ := own8.formG hLl.out (by omega)
    have rd5 := own8.rd hLl.out
    have hSb := hSb (fun x hx => inr_u8 (own8.rng x hx))
    refine (hps.out _ c5 _ rd5).mono ?_
    rintro e w6' ⟨rfl, rfl⟩
    clear rd5
    have hgw : w.heap.size ≤ g := hg1
    have hSw : IntKind.u8.wrap (S) = (S) % 256 := IntKind.wrap_u8' _
    have own9 := (own8.set hLl.out 2 (x := (S) / 256) (u8_inr (by omega))).set (by rw [List.length_set]; exact hLl.out) (2 + 1) (x := (S) % 256) (u8_inr (by omega))
    have up9 := (Upd.one w6 g 2 (.int .u8 ((S) / 256))).trans (Upd.one _ g (2 + 1) (.int .u8 ((S) % 256)))
    obtain ⟨c0, f0, _⟩ := own8.at_ hLl.out (j := 2) (by omega)
    obtain ⟨c1, f1, _⟩ := own8.at_ hLl.out (j := 2 + 1) (by omega)
    go_wp2_with fail
    go_ret
    refine ⟨_, rfl, ?_, bel8.trans (up9.below bel8.size (fun x hx e => by omega))⟩
    rw [hset.out] at own9
    exact own9
set_option maxRecDepth 100000 in
set_option maxHeartbeats 1000000 in
theorem rFault_any (k a : Int) (l : List Int) (A : Option Addr) (len c B : Nat) (w : World) (hr : Rd .u8 w B A len l) (hB : B ≤ w.heap.size) (hlc : len ≤ c) (hcm : c ≤ 9223372036854775807) :
    Calls Try.prog 26 #[.int .i64 k, .int .i64 a, .slice A len c] w (Gives w (faultL k a l)) := by
  unfold faultL
  obtain ⟨i0, hi, hz0, hz1, hz2⟩ := info_parts info_u8_
  have hrB := hr.more hB
  have hfew := fun w' hr => rfew_any l A len c w.heap.size w' hr hlc hcm
  have hFl := fewL_len l
  have hFx : ∀ x, x ∈ fewL l → 0 ≤ x ∧ x ≤ 255 := fun x hx => inr_u8 (hr.rng x (fewL_mem hx))
  obtain ⟨F, hF⟩ : ∃ F, F = fewL l := ⟨_, rfl⟩
  rw [← hF] at hfew hFl hFx ⊢
  obtain ⟨m, hm⟩ : ∃ m, m = F.length := ⟨_, rfl⟩
  rw [← hm] at hfew hFl
  replace hfew := Lib.hid hfew
  replace hF := Lib.hid hF
  obtain ⟨L, hL⟩ : ∃ L, L = faultB k a F 0 := ⟨_, rfl⟩
  have hLl : L.length = 8 + m := by rw [hL, faultB_len, hm]
  rw [← hL]
  have hset := fun S => faultB_set k a F S
  rw [← hL] at hset
  have hps := fun (A' : Option Addr) (c' : Nat) (w' : World) (rd : Rd .u8 w' w'.heap.size A' (8 + m) L) => rOf_any L A' (8 + m) c' _ w' (by omega) rd
  have hSb : (∀ x, x ∈ L → 0 ≤ x ∧ x ≤ 255) → 0 ≤ sumOf L ∧ sumOf L ≤ 65535 := fun h => sumOf_bd h
  obtain ⟨S, hS⟩ : ∃ S, S = sumOf L := ⟨_, rfl⟩
  rw [← hS] at hps hSb ⊢
  replace hset := Lib.hid (hset S)
  replace hps := Lib.hid hps
  replace hLl := Lib.hid hLl
  replace hS := Lib.hid hS
  have eL : [k % 256, a % 256, 0, 0, 0, 0, 0, 0] ++ F = L := by rw [hL]; simp [faultB, be2]
  have h8 : ∀ y, y ∈ [k % 256, a % 256, 0, 0, 0, 0, 0, 0] → inr .u8 y := fun y hy => u8_inr (by simp at hy; omega)
  replace h8 := Lib.hid h8
  replace eL := Lib.hid eL
  replace hL := Lib.hid hL
  replace hm := Lib.hid hm
  have hkw : IntKind.u8.wrap k = k % 256 := IntKind.wrap_u8' k
  have haw : IntKind.u8.wrap a = a % 256 := IntKind.wrap_u8' a
  go_enter Try.func26, Try.ntmps26
  go_wp2_with fail
  have own0 := Own.new .u8 w 5 w.heap.size (Nat.le_refl _) [k % 256, a % 256, 0, 0, 0, 0, 0, 0] h8.out #[.int .u8 (k % 256), .int .u8 (a % 256), .int .u8 0, .int .u8 0, .int .u8 0, .int .u8 0, .int .u8 0, .int .u8 0] rfl 8 rfl (by show 8 ≤ maxLen; decide)
  have bel0 : Below w.heap.size w (w.alloc (.cells #[.int .u8 (k % 256), .int .u8 (a % 256), .int .u8 0, .int .u8 0, .int .u8 0, .int .u8 0, .int .u8 0, .int .u8 0] 5)) := bel_alloc _ _
  generalize w.alloc (.cells #[.int .u8 (k % 256), .int .u8 (a % 256), .int .u8 0, .int .u8 0, .int .u8 0, .int .u8 0, .int .u8 0, .int .u8 0] 5) = W0 at *
  have hW0 := bel0.size
  refine (hfew.out _ (hrB.below bel0)).mono ?_
  rintro e w0 ⟨⟨c', rfl, hmc, hcm', rdF⟩, rfl⟩
  go_wp2_with (at_builtin; (refine wpList_app _ rfl (.tmp 13) (.tmp 15) 24 rfl .u8 w.heap.size 5 i0 (.int .u8 0) 1 Try.underlying24 hi hz0 hz1 hz2 rfl _ (by rfl) _ own0 w.heap.size _ _ _ (by rfl) F rdF (by simp; omega) (by decide) hW0 ?_; intro v9 w6 own9 hg9 hb9; have a9 := (App.refl own0).app own9 hg9 hb9; clear own9 hg9 hb9))
  rw [eL.out] at a9
  have bel8 := a9.bel0 bel0 (Nat.le_refl _)
  have own8 := a9.own
  clear a9 rdF eL own0
  obtain ⟨g, c5, rfl, hc1, hc2, hg1, hg2⟩ := own8.formG hLl.out (by omega)
  have rd5 := own8.rd hLl.out
  have hSb := hSb (fun x hx => inr_u8 (own8.rng x hx))
  refine (hps.out _ c5 _ rd5).mono ?_
  rintro e w6' ⟨rfl, rfl⟩
  clear rd5
  have hgw : w.heap.size ≤ g := hg1
  have hSw : IntKind.u8.wrap (S) = (S) % 256 := IntKind.wrap_u8' _
  have own9 := (own8.set hLl.out 2 (x := (S) / 256) (u8_inr (by omega))).set (by rw [List.length_set]; exact hLl.out) (2 + 1) (x := (S) % 256) (u8_inr (by omega))
  have up9 := (Upd.one w6 g 2 (.int .u8 ((S) / 256))).trans (Upd.one _ g (2 + 1) (.int .u8 ((S) % 256)))
  obtain ⟨c0, f0, _⟩ := own8.at_ hLl.out (j := 2) (by omega)
  obtain ⟨c1, f1, _⟩ := own8.at_ hLl.out (j := 2 + 1) (by omega)
  go_wp2_with fail
  go_ret
  refine ⟨_, rfl, ?_, bel8.trans (up9.below bel8.size (fun x hx e => by omega))⟩
  rw [hset.out] at own9
  exact own9
end Go.Proofs.Ytgfjdnbejmmckaa
