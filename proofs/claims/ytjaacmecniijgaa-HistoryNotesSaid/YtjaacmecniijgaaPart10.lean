/- The document's side of package part: word, wide, few, Pseudo. -/
import Derived.Test.YtjaacmecniijgaaPart9
import Derived.Test.YtjaacmecniijgaaHeadRef2
namespace Go.Proofs.Ytjaacmecniijgaa
set_option linter.unusedVariables false
set_option linter.unusedSimpArgs false
open Go.RowKit
set_option maxHeartbeats 400000 in
theorem word_any (n : Int) (w : World) (hn : 0 ≤ n ∧ n ≤ 65535) :
    Calls Try.prog 55 #[.int .i64 n] w fun e w' => e = .returned (.slice (some ⟨w.heap.size, 0, none⟩) 2 2) ∧ w' = w.alloc (.cells #[.int .u8 (n / 256), .int .u8 (n % 256)] 5) := by
  go_enter Try.func55, Try.ntmps55
  go_wp2
  go_ret
  exact ⟨rfl, rfl⟩
set_option maxHeartbeats 400000 in
theorem wide_any (n : Int) (w : World) (hn : 0 ≤ n ∧ n ≤ 4294967295) :
    Calls Try.prog 54 #[.int .u32 n] w fun e w' => e = .returned (.slice (some ⟨w.heap.size, 0, none⟩) 4 4) ∧ w' = w.alloc (.cells #[.int .u8 (n / 16777216), .int .u8 (n / 65536 % 256), .int .u8 (n / 256 % 256), .int .u8 (n % 256)] 5) := by
  go_enter Try.func54, Try.ntmps54
  go_wp2
  go_ret
  exact ⟨rfl, rfl⟩
theorem App.new_ (w : World) (base : Nat) (l : List Int) (hr : ∀ x, x ∈ l → inr .u8 x) (cs : Array Value) (hcs : cs = (l.map (Value.int .u8)).toArray) (n : Nat) (hn : n = l.length) (h0 : n ≤ 100000) (hb : base ≤ w.heap.size) :
    App w (w.alloc (.cells cs 5)) base (.slice none 0 0) (.slice (some ⟨w.heap.size, 0, none⟩) n n) l :=
  ⟨Own.new .u8 w 5 base hb l hr cs hcs n hn (by unfold maxLen; omega), (Upd.refl _ _).alloc _, fun g hg => by right; simp [Value.ownBlock] at hg; omega⟩
theorem be2_inr {n : Int} (h : 0 ≤ n ∧ n ≤ 65535) : ∀ x, x ∈ be2 n → inr .u8 x := fun x hx => u8_inr (be2_bd n h x hx)
theorem be4_inr {n : Int} (h : 0 ≤ n ∧ n ≤ 4294967295) : ∀ x, x ∈ be4 n → inr .u8 x := fun x hx => u8_inr (be4_bd n h x hx)
set_option maxRecDepth 100000 in
set_option maxHeartbeats 1000000 in
theorem Pseudo_any (s d p : Int) (l : List Int) (A : Option Addr) (len c B : Nat) (w : World) (hr : Rd .u8 w B A len l) (hB : B ≤ w.heap.size) (hs : 0 ≤ s ∧ s ≤ 4294967295) (hd : 0 ≤ d ∧ d ≤ 4294967295) (hp : 0 ≤ p ∧ p ≤ 255) (hl : len ≤ 60000) :
    Calls Try.prog 41 #[.int .u32 s, .int .u32 d, .int .i64 p, .slice A len c] w fun e w' => e = .returned (.int .u16 (csum s d p l)) ∧ Below w.heap.size w w' := by
  obtain ⟨i0, hi, hz0, hz1, hz2⟩ := info_parts info_u8_
  have hrB := hr.more hB
  have hcs : csum s d p l = sumOf ((be4 s ++ be4 d ++ [0, p] ++ be2 (len : Int)) ++ l) := by
    unfold csum ph; rw [hr.len]
  have hlen := Lib.hid hr.len
  rw [hcs]
  obtain ⟨S, hS⟩ : ∃ S, S = sumOf ((be4 s ++ be4 d ++ [0, p] ++ be2 (len : Int)) ++ l) := ⟨_, rfl⟩
  rw [← hS]
  replace hS := Lib.hid hS
  clear hcs
  have hlw : 0 ≤ (len : Int) ∧ (len : Int) ≤ 65535 := by omega
  go_enter Try.func41, Try.ntmps41
  go_wp2_with fail
  refine (wide_any s _ hs).mono ?_
  rintro e w1 ⟨rfl, hw1⟩
  have a1 := App.new_ w w.heap.size (be4 s) (be4_inr hs) #[.int .u8 (s / 16777216), .int .u8 (s / 65536 % 256), .int .u8 (s / 256 % 256), .int .u8 (s % 256)] rfl 4 rfl (by omega) (Nat.le_refl _)
  rw [← hw1] at a1
  replace hw1 := Lib.hid hw1
  go_wp2_with fail
  refine (wide_any d _ hd).mono ?_
  rintro e w2 ⟨rfl, hw2⟩
  have x2 := Rd.new .u8 w1 5 (be4 d) (be4_inr hd) #[.int .u8 (d / 16777216), .int .u8 (d / 65536 % 256), .int .u8 (d / 256 % 256), .int .u8 (d % 256)] rfl 4 rfl
  have a2 := a1.alloc (.cells #[.int .u8 (d / 16777216), .int .u8 (d / 65536 % 256), .int .u8 (d / 256 % 256), .int .u8 (d % 256)] 5)
  have hz : w2.heap.size = w1.heap.size + 1 := by rw [hw2]; simp
  rw [← hw2] at x2 a2
  replace hw2 := Lib.hid hw2
  have bel2 := a2.bel.size
  go_wp2_with (first
    | (at_builtin; (refine wpList_app _ rfl (.tmp 11) (.tmp 13) 24 rfl .u8 w.heap.size 5 i0 (.int .u8 0) 1 Try.underlying24 hi hz0 hz1 hz2 rfl _ (by rfl) _ a2.own (w1.heap.size + 1) _ 4 4 (by rfl) (be4 d) x2 (by simp [be4]) (by decide) bel2 ?_; intro v3 w3 own3 hg3 hb3; have a3 := a2.app own3 hg3 hb3; clear own3 hg3 hb3))
    | (at_builtin; (have hx := Rd.new .u8 w3 5 [0, p] (by intro y hy; simp at hy; rcases hy with rfl | rfl <;> exact u8_inr (by omega)) #[.int .u8 0, .int .u8 p] rfl 2 rfl; refine wpList_app _ rfl (.tmp 14) (.tmp 17) 24 rfl .u8 w.heap.size 5 i0 (.int .u8 0) 1 Try.underlying24 hi hz0 hz1 hz2 rfl _ (by rfl) _ (a3.own.alloc _) (w3.heap.size + 1) _ 2 2 rfl [0, p] hx (by simp [be4]) (by decide) (by have := a3.upd.size; simp; omega) ?_; intro v4 w4 own4 hg4 hb4; have a4 := (a3.alloc (.cells #[.int .u8 0, .int .u8 p] 5)).app own4 hg4 hb4; clear own4 hg4 hb4 hx)))
  refine (word_any len w4 hlw).mono ?_
  rintro e w5 ⟨rfl, hw5⟩
  have x5 := Rd.new .u8 w4 5 (be2 (len : Int)) (be2_inr hlw) #[.int .u8 ((len : Int) / 256), .int .u8 ((len : Int) % 256)] rfl 2 rfl
  have a5 := a4.alloc (.cells #[.int .u8 ((len : Int) / 256), .int .u8 ((len : Int) % 256)] 5)
  rw [← hw5] at x5 a5
  have hz5 : w5.heap.size = w4.heap.size + 1 := by rw [hw5]; simp
  replace hw5 := Lib.hid hw5
  have bel5 := a5.bel
  have bel5s := bel5.size
  have hrd5 := (hrB.below bel5).more bel5s
  go_wp2_with (first
    | (at_builtin; (refine wpList_app _ rfl (.tmp 18) (.tmp 21) 24 rfl .u8 w.heap.size 5 i0 (.int .u8 0) 1 Try.underlying24 hi hz0 hz1 hz2 rfl _ (by rfl) _ a5.own (w4.heap.size + 1) _ 2 2 (by rfl) (be2 (len : Int)) x5 (by simp [be4, be2]) (by decide) bel5s ?_; intro v6 w6 own6 hg6 hb6; have a6 := a5.app own6 hg6 hb6; clear own6 hg6 hb6; have hrd6 := hrB.below a6.bel))
    | (at_builtin; (refine wpList_app _ rfl (.tmp 23) (.tmp 24) 24 rfl .u8 w.heap.size 5 i0 (.int .u8 0) 1 Try.underlying24 hi hz0 hz1 hz2 rfl _ (by rfl) _ a6.own w.heap.size _ len c (by rfl) l hrd6 (by simp [be4, be2]; omega) (by decide) a6.bel.size ?_; intro v7 w7 own7 hg7 hb7; have a7 := a6.app own7 hg7 hb7; clear own7 hg7 hb7)))
  have hl7 : (be4 s ++ be4 d ++ [0, p] ++ be2 (len : Int) ++ l).length = 12 + len := by simp [be4, be2, hlen.out]; omega
  obtain ⟨A7, c7, rfl, _, _, rd7⟩ := a7.own.form hl7
  refine (rOf_any _ A7 (12 + len) c7 _ w7 (by omega) rd7).mono ?_
  rw [← hS.out]
  rintro e w8 ⟨rfl, rfl⟩
  have bel7 := a7.bel
  clear a7 rd7 hl7
  go_wp2
  go_ret
  exact ⟨rfl, bel7⟩
end Go.Proofs.Ytjaacmecniijgaa
