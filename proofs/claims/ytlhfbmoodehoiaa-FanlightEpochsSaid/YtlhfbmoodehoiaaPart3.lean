/- The walks of package part: Udp, Tcp, Echo, Fault. -/
import Derived.Test.YtlhfbmoodehoiaaPart2
namespace Go.Proofs.Ytlhfbmoodehoiaa
set_option linter.unusedVariables false
set_option linter.unusedSimpArgs false
open Go.RowKit
theorem fewL_len (l : List Int) : (fewL l).length ≤ 1400 := by unfold fewL; rw [List.length_take]; omega
theorem fewL_mem {l : List Int} {x : Int} (h : x ∈ fewL l) : x ∈ l := List.mem_of_mem_take h
theorem udpB_len (a b : Int) (l : List Int) (S : Int) : (udpB a b l S).length = 8 + l.length := by simp [udpB, be2]; omega
theorem tcpB_len (a b f : Int) (l : List Int) (S : Int) : (tcpB a b f l S).length = 20 + l.length := by simp [tcpB, be2]; omega
theorem echoB_len (k a : Int) (l : List Int) (S : Int) : (echoB k a l S).length = 8 + l.length := by simp [echoB, be2]; omega
theorem faultB_len (k c : Int) (l : List Int) (S : Int) : (faultB k c l S).length = 8 + l.length := by simp [faultB, be2]; omega
theorem udpB_set (a b : Int) (l : List Int) (S : Int) : ((udpB a b l 0).set 6 (S / 256)).set (6 + 1) (S % 256) = udpB a b l S := by simp [udpB, be2]
theorem tcpB_set (a b f : Int) (l : List Int) (S : Int) : ((tcpB a b f l 0).set 16 (S / 256)).set (16 + 1) (S % 256) = tcpB a b f l S := by simp [tcpB, be2]
theorem echoB_set (k a : Int) (l : List Int) (S : Int) : ((echoB k a l 0).set 2 (S / 256)).set (2 + 1) (S % 256) = echoB k a l S := by simp [echoB, be2]
theorem faultB_set (k c : Int) (l : List Int) (S : Int) : ((faultB k c l 0).set 2 (S / 256)).set (2 + 1) (S % 256) = faultB k c l S := by simp [faultB, be2]
theorem lit2_own (w : World) (x y : Int) (hx : 0 ≤ x ∧ x ≤ 255) (hy : 0 ≤ y ∧ y ≤ 255) : Own .u8 5 (w.alloc (.cells #[.int .u8 x, .int .u8 y] 5)) w.heap.size (.slice (some ⟨w.heap.size, 0, none⟩) 2 2) [x, y] :=
  Own.new .u8 w 5 w.heap.size (Nat.le_refl _) [x, y] (by intro z hz; simp at hz; rcases hz with rfl | rfl <;> exact u8_inr (by omega)) #[.int .u8 x, .int .u8 y] rfl 2 rfl (by show 2 ≤ maxLen; decide)
theorem App.bel0 {w W0 w' : World} {g n c : Nat} {v' : Value} {l : List Int} (h : App W0 w' w.heap.size (.slice (some ⟨g, 0, none⟩) n c) v' l) (b : Below w.heap.size w W0) (hg : w.heap.size ≤ g) : Below w.heap.size w w' :=
  b.trans (h.below b.size (fun x hx => by simp [Value.ownBlock] at hx; omega))
set_option maxRecDepth 100000 in
set_option maxHeartbeats 1000000 in
theorem pUdp_any (s d a b : Int) (l : List Int) (A : Option Addr) (len c B : Nat) (w : World) (hr : Rd .u8 w B A len l) (hB : B ≤ w.heap.size) (hlc : len ≤ c) (hcm : c ≤ 9223372036854775807) (hs : 0 ≤ s ∧ s ≤ 4294967295) (hd : 0 ≤ d ∧ d ≤ 4294967295) (ha : 0 ≤ a ∧ a ≤ 65535) (hb : 0 ≤ b ∧ b ≤ 65535) :
    Calls Try.prog 23 #[.int .u32 s, .int .u32 d, .int .u16 a, .int .u16 b, .slice A len c] w (Gives w (udpL s d a b l)) := by
  unfold udpL
  obtain ⟨i0, hi, hz0, hz1, hz2⟩ := info_parts info_u8_
  have hrB := hr.more hB
  have hfew := fun w' hr => few_any l A len c w.heap.size w' hr hlc hcm
  have hFl := fewL_len l
  have hFx : ∀ x, x ∈ fewL l → 0 ≤ x ∧ x ≤ 255 := fun x hx => inr_u8 (hr.rng x (fewL_mem hx))
  obtain ⟨F, hF⟩ : ∃ F, F = fewL l := ⟨_, rfl⟩
  rw [← hF] at hfew hFl hFx ⊢
  obtain ⟨m, hm⟩ : ∃ m, m = F.length := ⟨_, rfl⟩
  rw [← hm] at hfew hFl
  replace hfew := Lib.hid hfew
  replace hF := Lib.hid hF
  obtain ⟨L, hL⟩ : ∃ L, L = udpB a b F 0 := ⟨_, rfl⟩
  have hLl : L.length = 8 + m := by rw [hL, udpB_len, hm]
  rw [← hL]
  have hset := fun S => udpB_set a b F S
  rw [← hL] at hset
  have hps := fun (A' : Option Addr) (c' : Nat) (w' : World) (rd : Rd .u8 w' w'.heap.size A' (8 + m) L) => pseudo_any s d 17 L A' (8 + m) c' _ w' rd (Nat.le_refl _) hs hd (by omega) (by omega)
  have hSb : (∀ x, x ∈ L → 0 ≤ x ∧ x ≤ 255) → 0 ≤ csum s d 17 L ∧ csum s d 17 L ≤ 65535 := fun h => csum_bd hs hd (by omega) (by omega) h
  obtain ⟨S, hS⟩ : ∃ S, S = csum s d 17 L := ⟨_, rfl⟩
  rw [← hS] at hps hSb ⊢
  obtain ⟨T, hT⟩ : ∃ T, T = nev S := ⟨_, rfl⟩
  rw [← hT]
  replace hset := Lib.hid (hset T)
  replace hT := Lib.hid hT
  replace hps := Lib.hid hps
  replace hLl := Lib.hid hLl
  replace hS := Lib.hid hS
  have eL : (([] ++ be2 a ++ be2 b) ++ be2 (8 + (m : Int)) ++ be2 0) ++ F = L := by rw [hL, hm]; simp [udpB]
  replace eL := Lib.hid eL
  replace hL := Lib.hid hL
  replace hm := Lib.hid hm
  go_enter Try.func23, Try.ntmps23
  go_wp2_with fail
  refine (hfew.out _ hrB).mono ?_
  rintro e w0 ⟨⟨c', rfl, hmc, hcm', rdF⟩, rfl⟩
  go_wp2_with fail
  refine (pput2_any a _ [] w.heap.size _ (own_none _) (by simp) ha (Nat.le_refl _)).mono ?_
  rintro e w1 ⟨v1, rfl, a1⟩
  go_wp2_with fail
  refine (pput2_any b _ _ w.heap.size _ a1.own (by simp [be2]) hb a1.upd.size).mono ?_
  rintro e w2 ⟨v2, rfl, a2⟩
  replace a2 := a1.trans a2
  clear a1
  go_wp2_with fail
  refine (pput2_any (8 + m) _ _ w.heap.size _ a2.own (by simp [be2]) (by omega) a2.upd.size).mono ?_
  rintro e w3 ⟨v3, rfl, a3⟩
  replace a3 := a2.trans a3
  clear a2
  go_wp2_with fail
  refine (pput2_any 0 _ _ w.heap.size _ a3.own (by simp [be2]) (by omega) a3.upd.size).mono ?_
  rintro e w4 ⟨v4, rfl, a4⟩
  replace a4 := a3.trans a4
  clear a3
  have rd4 := rdF.below a4.bel
  go_wp2_with (at_builtin; go_loud (refine wpList_app _ rfl (.tmp 28) (.tmp 29) 75 rfl .u8 w.heap.size 5 i0 (.int .u8 0) 1 Try.underlying75 hi hz0 hz1 hz2 rfl _ (by rfl) _ a4.own w.heap.size _ _ _ (by rfl) F rd4 (by simp [be2]; omega) (by decide) a4.upd.size ?_; intro v5 w5 own5 hg5 hb5; have a5 := a4.app own5 hg5 hb5; clear own5 hg5 hb5))
  rw [eL.out] at a5
  have bel5 := a5.bel
  have own5 := a5.own
  clear a4 a5 rd4 rdF eL
  obtain ⟨g, c5, rfl, hc1, hc2, hg1, hg2⟩ := own5.formG hLl.out (by omega)
  have rd5 := own5.rd hLl.out
  have hSb := hSb (fun x hx => inr_u8 (own5.rng x hx))
  refine (hps.out _ c5 _ rd5).mono ?_
  rintro e w6 ⟨rfl, bel6⟩
  have bel8 := bel_after bel5 bel6
  have own8 := own5.below bel6
  clear bel5 bel6 rd5 own5
  by_cases hz : S = 0
  · subst hz
    have hgw : w.heap.size ≤ g := hg1
    go_wp2_with fail
    refine (set_any g (8 + m) c5 6 w.heap.size _ L _ own8 hLl.out (by omega) (by omega) (show (0 : Int) ≤ 65535 ∧ (65535 : Int) ≤ 65535 by omega) (by omega)).mono ?_
    rintro e w9 ⟨rfl, own9, up9⟩
    go_wp2_with fail
    go_ret
    refine ⟨_, rfl, ?_, bel8.trans (up9.below bel8.size (fun x hx e => by omega))⟩
    rw [show (65535 : Int) = T from hT.out.symm] at own9
    rw [hset.out] at own9
    exact own9
  · have hz2 : (S == 0) = false := by simpa using hz
    have hTS : Hid (S = T) := by
      show S = T
      rw [hT.out]; unfold nev; rw [if_neg hz]
    have hgw : w.heap.size ≤ g := hg1
    go_wp2_with fail
    refine (set_any g (8 + m) c5 6 w.heap.size _ L _ own8 hLl.out (by omega) (by omega) hSb (by omega)).mono ?_
    rintro e w9 ⟨rfl, own9, up9⟩
    go_wp2_with fail
    go_ret
    refine ⟨_, rfl, ?_, bel8.trans (up9.below bel8.size (fun x hx e => by omega))⟩
    rw [hTS.out] at own9
    rw [hset.out] at own9
    exact own9
end Go.Proofs.Ytlhfbmoodehoiaa
