/- Contracts and plain facts. -/
import Derived.Test.YtbichbdcibchlaaGreatPf04
import Derived.Test.YtbichbdcibchlaaGreatPf03
namespace Go.Proofs.YtbichbdcibchlaaGreat
set_option linter.unusedVariables false
set_option linter.unusedSimpArgs false
set_option maxRecDepth 100000
set_option maxHeartbeats 16000000
open Go.RowKit
def rPutRes (w : World) (ttl proto src dst : Int) (l : List Int) (e : Ending) (w' : World) : Prop :=
 ∃ v', e = .returned (.tuple #[v', .bool true]) ∧ Own .u8 5 w' w.heap.size v' (putL ttl proto src dst l) ∧ Below w.heap.size w w'
theorem hd20_bd (ttl proto src dst n s : Int) (ht : 0 ≤ ttl ∧ ttl ≤ 255) (hp : 0 ≤ proto ∧ proto ≤ 255) (hs : 0 ≤ src ∧ src ≤ 4294967295) (hd : 0 ≤ dst ∧ dst ≤ 4294967295) (hn : 0 ≤ n ∧ n ≤ 65535) (hss : 0 ≤ s ∧ s ≤ 65535) : ∀ x, x ∈ hd20 ttl proto src dst n s → 0 ≤ x ∧ x ≤ 255 := by
 intro x hx
 simp only [hd20, List.mem_cons, List.not_mem_nil, or_false] at hx
 omega
theorem rPut_any (size len_ ttl proto src dst : Int) (l : List Int) (A : Option Addr) (len c B : Nat) (w : World) (hr : Rd .u8 w B A len l) (hB : B ≤ w.heap.size) (ht : 0 ≤ ttl ∧ ttl ≤ 255) (hp : 0 ≤ proto ∧ proto ≤ 255) (hs : 0 ≤ src ∧ src ≤ 4294967295) (hd : 0 ≤ dst ∧ dst ≤ 4294967295) (hl : len ≤ 1480) :
  Calls Tryz.prog 47 #[.agg (A4 size len_ ttl proto src dst), .slice A len c] w (rPutRes w ttl proto src dst l) := by
 obtain ⟨i0, hi, hz0, hz1, hz2⟩ := info_parts info_u8_
 have d1 : decide (ttl < 0) = false := by simp; omega
 have d2 : decide (255 < ttl) = false := by simp; omega
 have d3 : decide (proto < 0) = false := by simp; omega
 have d4 : decide (255 < proto) = false := by simp; omega
 have d5 : decide (1480 < (len : Int)) = false := by simp; omega
 have hlen := Lib.hid hr.len
 have hrB := hr.more hB
 obtain ⟨W, hW⟩ : ∃ W, W = w.alloc (.cells (A4 size len_ ttl proto src dst) 52) := ⟨_, rfl⟩
 have hbd := hd20_bd ttl proto src dst (20 + len) 0 ht hp hs hd (by omega) (by omega)
 have own0 := Own.new .u8 W 5 w.heap.size (by rw [hW]; simp) (hd20 ttl proto src dst (20 + len) 0) (fun x hx => u8_inr (hbd x hx)) ((hd20 ttl proto src dst (20 + len) 0).map (Value.int .u8)).toArray rfl 20 rfl (by show 20 ≤ maxLen; decide)
 have bel0 : Below w.heap.size w (W.alloc (.cells ((hd20 ttl proto src dst (20 + len) 0).map (Value.int .u8)).toArray 5)) := by rw [hW]; exact (bel_alloc _ _).alloc (by simp) _
 obtain ⟨L, hL⟩ : ∃ L, L = hd20 ttl proto src dst (20 + len) 0 := ⟨_, rfl⟩
 have hL20 : L.length = 20 := by rw [hL]; rfl
 obtain ⟨W2, hW2⟩ : ∃ W2, W2 = W.alloc (.cells ((hd20 ttl proto src dst (20 + len) 0).map (Value.int .u8)).toArray 5) := ⟨_, rfl⟩
 have hWs : W.heap.size = w.heap.size + 1 := by rw [hW]; simp
 rw [← hW2] at own0 bel0
 rw [← hL, hWs] at own0
 have rd7 := own0.rd hL20
 have hS0 := (sb_bd L (fun y hy => inr_u8 (own0.rng y hy)) true).1
 have hSb : 0 ≤ sumOf L ∧ sumOf L ≤ 65535 := by have := fo_bd hS0; unfold sumOf; omega
 obtain ⟨S, hS⟩ : ∃ S, S = sumOf L := ⟨_, rfl⟩
 rw [← hS] at hSb
 have hof := fun W' B' h => rOf_any L (some ⟨w.heap.size + 1, 0, none⟩) 20 20 B' W' (by omega) h
 rw [← hS] at hof
 obtain ⟨c10, f10, _⟩ := own0.at_ hL20 (j := 10) (by omega)
 obtain ⟨c11, f11, _⟩ := own0.at_ hL20 (j := 11) (by omega)
 have hSw : IntKind.u8.wrap S = S % 256 := IntKind.wrap_u8' S
 have own8 := (own0.set hL20 10 (x := S / 256) (u8_inr (by omega))).set (by rw [List.length_set]; exact hL20) 11 (x := S % 256) (u8_inr (by omega))
 have hgw : w.heap.size ≤ w.heap.size + 1 := by omega
 have hl8 : Hid (((L.set 10 (S / 256)).set 11 (S % 256)).length = 20) := by show _ = _; simp [hL20]
 have rd8 := hrB.below ((bel0.setCell (p := ⟨w.heap.size + 1, 10, none⟩) hgw (.int .u8 (S / 256))).setCell (p := ⟨w.heap.size + 1, 11, none⟩) hgw (.int .u8 (S % 256)))
 have bz8 : w.heap.size ≤ W2.heap.size := bel0.size
 have hZ : Hid (W2 = (w.alloc (.cells (A4 size len_ ttl proto src dst) 52)).alloc (.cells ((hd20 ttl proto src dst (20 + len) 0).map (Value.int .u8)).toArray 5)) := by show _ = _; rw [hW2, hW]
 clear hW2 hW hWs hbd
 replace hof := Lib.hid hof
 replace hS := Lib.hid hS
 replace hL := Lib.hid hL
 replace hL20 := Lib.hid hL20
 replace c10 := Lib.hid c10
 replace c11 := Lib.hid c11
 replace f10 := Lib.hid f10
 replace f11 := Lib.hid f11
 replace hSw := Lib.hid hSw
 go_enter Tryz.func47, Tryz.ntmps47
 go_wp2_with fail
 have e : (w.alloc (.cells (A4 size len_ ttl proto src dst) 52)).alloc (.cells (A18 69 0 ((20 + (len : Int)) / 256) ((20 + (len : Int)) % 256) 0 0 64 0 ttl proto 0 0 (src / 16777216) (src / 65536 % 256) (src / 256 % 256) (src % 256) (dst / 16777216) (dst / 65536 % 256) (dst / 256 % 256) (dst % 256)) 5) = W2 := hZ.out.symm
 rw [e]
 clear e hZ
 refine (hof.out _ _ rd7).mono ?_
 rintro e w' ⟨rfl, rfl⟩
 replace c10 := c10.out
 replace c11 := c11.out
 replace f10 := f10.out
 replace f11 := f11.out
 replace hSw := hSw.out
 go_wp2_with (at_builtin; go_loud (refine wpList_app _ rfl (.tmp 88) (.tmp 89) 36 rfl .u8 w.heap.size 5 i0 (.int .u8 0) 1 Tryz.underlying36 hi hz0 hz1 hz2 rfl _ (by rfl) _ own8 w.heap.size _ _ _ (by rfl) l rd8 (by rw [hl8.out]; omega) (by decide) (by simp; omega) ?_; intro v9 w9 own9 hg9 hb9))
 go_ret2
 refine ⟨v9, rfl, ?_, ?_⟩
 ·have e : (L.set 10 (S / 256)).set 11 (S % 256) ++ l = putL ttl proto src dst l := by
   unfold putL
   rw [hlen.out, ← hL.out, ← hS.out, hL.out]; rfl
  rw [← e]; exact own9
 ·exact ((bel0.setCell (p := ⟨w.heap.size + 1, 10, none⟩) hgw (.int .u8 (S / 256))).setCell (p := ⟨w.heap.size + 1, 11, none⟩) hgw (.int .u8 (S % 256))).grown hg9 (by simp; omega) (fun k h => by simp [Value.ownBlock] at h; omega)
end Go.Proofs.YtbichbdcibchlaaGreat
