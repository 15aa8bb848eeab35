/- Contracts and plain facts. -/
import Derived.Test.YtbichbdcibchlaaGreatPf01
namespace Go.Proofs.YtbichbdcibchlaaGreat
set_option linter.unusedVariables false
set_option linter.unusedSimpArgs false
set_option maxRecDepth 100000
set_option maxHeartbeats 16000000
open Go.RowKit
theorem Num_any (l : List Int) (A : Option Addr) (len c B : Nat) (w : World) (hl : len ≤ 4) (hr : Rd .u8 w B A len l) :
  Calls Tryz.prog 48 #[.slice A len c] w fun e w' => e = .returned (.int .i64 (numOf l)) ∧ w = w' := by
 have hlen := Lib.hid hr.len
 have hB := numOf_bd l (fun x hx => inr_u8 (hr.rng x hx))
 go_enter Tryz.func48, Tryz.ntmps48
 go_wp2
 go_loop [3, 4] (fun n i => ∃ k : Nat, k ≤ len ∧ i = .int .i64 k ∧ n = .int .i64 (numOf (l.take k))) (fun _ i => len - (intOf i).toNat)
 case atStart => exact ⟨0, by omega, rfl, by simp [numOf]⟩
 case round =>
  obtain ⟨k, hk, rfl, rfl⟩ := hrel
  by_cases hlt : k < len
  ·obtain ⟨b, o, rfl, hbl, hc, hx⟩ := hr.at_ hlt
   have hx := inr_u8 hx
   have hb := hB k (by rw [hlen.out]; omega)
   have hb2 : numOf (l.take k) < 16777216 := by
    have : (256 : Int) ^ k ≤ 256 ^ 3 := by
     have h4 : k = 0 ∨ k = 1 ∨ k = 2 ∨ k = 3 := by omega
     rcases h4 with rfl | rfl | rfl | rfl <;> decide
    omega
   have HS : Hid (numOf (l.take (k + 1)) = numOf (l.take k) * 256 + l.getD k 0) := by
    have : k < l.length := by rw [hlen.out]; exact hlt
    show _ = _
    rw [List.take_succ_eq_append_getElem this, numOf_snoc, List.getD_eq_getElem?_getD, List.getElem?_eq_getElem this]; rfl
   replace hb := hb.1
   obtain ⟨x, hxe⟩ : ∃ x, x = l.getD k 0 := ⟨_, rfl⟩
   rw [← hxe] at hc hx HS
   obtain ⟨N, hN⟩ : ∃ N, N = numOf (l.take k) := ⟨_, rfl⟩
   rw [← hN] at hb hb2 HS ⊢
   clear hxe hN hB hlen
   have hd : decide (k < len) = true := by simpa using hlt
   go_wp2
   exact ⟨⟨k + 1, by omega, by go_num, by rw [HS.out]⟩, by simp [intOf]; omega⟩
  ·have hke : k = len := by omega
   have hd : decide (k < len) = false := by simpa using hlt
   clear hB
   go_wp2
   go_ret
   exact ⟨by rw [List.take_of_length_le (by rw [hlen.out]; omega)]; rfl, rfl⟩
theorem i64_and3FFF (f : Int) (h : 0 ≤ f ∧ f ≤ 65535) : bits .and .i64 f 16383 = f % 16384 := by
 show IntKind.i64.wrap ((BitVec.ofInt 64 f &&& BitVec.ofInt 64 ((16383 : Nat) : Int)).toNat : Int) = _
 rw [BitVec.ofInt_natCast, BitVec.toNat_and, BitVec.toNat_ofNat, Nat.mod_eq_of_lt (by omega)]
 have hb : ((BitVec.ofInt 64 f).toNat : Int) = f % 18446744073709551616 := by rw [BitVec.toNat_ofInt]; omega
 have h2 : (BitVec.ofInt 64 f).toNat &&& 16383 = (BitVec.ofInt 64 f).toNat % 2 ^ 14 := Nat.and_two_pow_sub_one_eq_mod _ 14
 rw [h2]
 have h3 : (((BitVec.ofInt 64 f).toNat % 2 ^ 14 : Nat) : Int) = f % 16384 := by omega
 rw [h3]
 exact IntWalk.i64_in _ (by omega)
theorem Num_at {l : List Int} {A : Option Addr} {len c B : Nat} {w : World} {N : Int} (hN : Hid (N = numOf l)) (hl : len ≤ 4) (hr : Rd .u8 w B A len l) :
  Calls Tryz.prog 48 #[.slice A len c] w fun e w' => e = .returned (.int .i64 N) ∧ w = w' := hN.out ▸ Num_any l A len c B w hl hr
def getP (l : List Int) (part : Bool) : Int := if part then partE l else getE l
theorem getP_cases (l : List Int) (p : Bool) (hb : n2 l 2 ≤ 65535 ∨ l.length < 20) :
  (getP l p = 2 ∧ l.length < 20) ∨
  (getP l p = 3 ∧ 20 ≤ l.length ∧ (l.getD 0 0 / 16 == 4) = false ∧ (l.getD 0 0 / 16 != 4) = true) ∨
  (getP l p = 3 ∧ 20 ≤ l.length ∧ l.getD 0 0 / 16 = 4 ∧ l.getD 0 0 % 16 * 4 < 20) ∨
  (20 ≤ l.length ∧ l.getD 0 0 / 16 = 4 ∧ 20 ≤ l.getD 0 0 % 16 * 4 ∧
   ((getP l p = 2 ∧ (l.length : Int) < l.getD 0 0 % 16 * 4) ∨
    (l.getD 0 0 % 16 * 4 ≤ l.length ∧
    ((getP l p = 3 ∧ n2 l 2 < l.getD 0 0 % 16 * 4) ∨
     (l.getD 0 0 % 16 * 4 ≤ n2 l 2 ∧
     ((p = false ∧ getP l p = 3 ∧ 1500 < n2 l 2) ∨
      (p = false ∧ n2 l 2 ≤ 1500 ∧
       ((getP l p = 2 ∧ (l.length : Int) < n2 l 2) ∨
       (n2 l 2 ≤ l.length ∧
        ((getP l p = 4 ∧ (sumOf (l.take (l.getD 0 0 % 16 * 4).toNat) != 0) = true) ∨
        ((sumOf (l.take (l.getD 0 0 % 16 * 4).toNat) != 0) = false ∧ getP l p = wholeE l))))) ∨
      (p = true ∧ getP l p = wholeE l))))))) := by
 cases p
 ·have ep : getP l false = getE l := rfl
  rw [ep]
  rcases shape_cases l 1500 with ⟨h, h1⟩ | ⟨h, h1⟩ | ⟨h, h1⟩ | ⟨h, h1, h2, h3, h4⟩ | ⟨h, h1, h2, h3, h4, h5⟩ | ⟨h, h1, h2, h3, h4, h5, h6⟩ | ⟨h, h1, h2, h3, h4, h5, h6⟩
  ·have e : getE l = 2 := by unfold getE; rw [h]; rfl
   exact .inl ⟨e, h1⟩
  ·have e : getE l = 3 := by unfold getE; rw [h]; rfl
   exact .inr (.inl ⟨e, h1⟩)
  ·have e : getE l = 3 := by unfold getE; rw [h]; rfl
   exact .inr (.inr (.inl ⟨e, h1⟩))
  ·have e : getE l = 2 := by unfold getE; rw [h]; rfl
   exact .inr (.inr (.inr ⟨h1, h2, h3, .inl ⟨e, h4⟩⟩))
  ·have e : getE l = 3 := by unfold getE; rw [h]; rfl
   exact .inr (.inr (.inr ⟨h1, h2, h3, .inr ⟨h4, .inl ⟨e, h5⟩⟩⟩))
  ·have e : getE l = 3 := by unfold getE; rw [h]; rfl
   exact .inr (.inr (.inr ⟨h1, h2, h3, .inr ⟨h4, .inr ⟨h5, .inl ⟨rfl, e, h6⟩⟩⟩⟩))
  ·rcases getE_cases l with ⟨h', _⟩ | ⟨_, _, _, _, h7, e⟩ | ⟨_, _, _, _, h7, h8, e⟩ | ⟨_, _, _, _, h7, h8, e⟩
   ·omega
   ·exact .inr (.inr (.inr ⟨h1, h2, h3, .inr ⟨h4, .inr ⟨h5, .inr (.inl ⟨rfl, h6, .inl ⟨e, h7⟩⟩)⟩⟩⟩))
   ·exact .inr (.inr (.inr ⟨h1, h2, h3, .inr ⟨h4, .inr ⟨h5, .inr (.inl ⟨rfl, h6, .inr ⟨h7, .inl ⟨e, h8⟩⟩⟩)⟩⟩⟩))
   ·exact .inr (.inr (.inr ⟨h1, h2, h3, .inr ⟨h4, .inr ⟨h5, .inr (.inl ⟨rfl, h6, .inr ⟨h7, .inr ⟨h8, e⟩⟩⟩)⟩⟩⟩))
 ·have ep : getP l true = partE l := rfl
  rw [ep]
  rcases shape_cases l 65535 with ⟨h, h1⟩ | ⟨h, h1⟩ | ⟨h, h1⟩ | ⟨h, h1, h2, h3, h4⟩ | ⟨h, h1, h2, h3, h4, h5⟩ | ⟨h, h1, h2, h3, h4, h5, h6⟩ | ⟨h, h1, h2, h3, h4, h5, h6⟩
  ·have e : partE l = 2 := by unfold partE; rw [h]; rfl
   exact .inl ⟨e, h1⟩
  ·have e : partE l = 3 := by unfold partE; rw [h]; rfl
   exact .inr (.inl ⟨e, h1⟩)
  ·have e : partE l = 3 := by unfold partE; rw [h]; rfl
   exact .inr (.inr (.inl ⟨e, h1⟩))
  ·have e : partE l = 2 := by unfold partE; rw [h]; rfl
   exact .inr (.inr (.inr ⟨h1, h2, h3, .inl ⟨e, h4⟩⟩))
  ·have e : partE l = 3 := by unfold partE; rw [h]; rfl
   exact .inr (.inr (.inr ⟨h1, h2, h3, .inr ⟨h4, .inl ⟨e, h5⟩⟩⟩))
  ·omega
  ·have e : partE l = wholeE l := by unfold partE; rw [h]; rfl
   exact .inr (.inr (.inr ⟨h1, h2, h3, .inr ⟨h4, .inr ⟨h5, .inr (.inr ⟨rfl, e⟩)⟩⟩⟩))
theorem rGet_any (l : List Int) (p : Bool) (A : Option Addr) (len c B : Nat) (w : World) (hr : Rd .u8 w B A len l) (hB : B ≤ w.heap.size) (hlc : len ≤ c) (hcm : c ≤ 9223372036854775807) (hl : len ≤ 100000) :
  Calls Tryz.prog 20 #[.slice A len c, .bool p] w fun e w' => e = .returned (.tuple #[(hdIf l (getP l p)).val, .int .i64 (getP l p)]) ∧ Below w.heap.size w w' := by
 have hnb : 20 ≤ len → 0 ≤ n2 l 2 ∧ n2 l 2 ≤ 65535 := fun h => n2_bd (fun x hx => inr_u8 (hr.rng x hx)) (i := 2) (by rw [hr.len]; omega)
 have hcs := getP_cases l p (by rw [hr.len]; omega)
 rw [hr.len] at hcs
 obtain ⟨E, hE⟩ : ∃ E, E = getP l p := ⟨_, rfl⟩
 rw [← hE] at hcs ⊢
 clear hE
 by_cases h20 : len < 20
 ·have e : Hid (E = 2) := by rcases hcs with h | h | h | h <;> first | exact h.1 | (exact absurd h.2.1 (by omega)) | (exact absurd h.1 (by omega))
  clear hcs hnb
  go_enter Tryz.func20, Tryz.ntmps20
  go_wp2
  exact bodyPost_ret (v := .tuple #[.agg Z1, .int .i64 2]) (by simp [results, Tryz.results20, go_sem]) rfl ⟨by rw [e.out]; rfl, by (repeat (first | (with_reducible exact (bel_alloc _ _)) | (with_reducible refine Below.setCell ?_ ?_ _; rotate_left; · (first | omega | (simp; done) | (simp; omega) | (have hsz := Below.size (bel_alloc _ _); omega) | (have hsz := Below.size (bel_alloc _ _); simp; omega))) | (with_reducible refine Below.alloc ?_ ?_ _; rotate_left; · (first | omega | (simp; done) | (simp; omega) | (have hsz := Below.size (bel_alloc _ _); omega) | (have hsz := Below.size (bel_alloc _ _); simp; omega))) | (with_reducible refine below_drewN ?_ _) | (with_reducible refine Below.drew ?_)))⟩
 replace hcs := hcs.resolve_left (fun h => h20 h.2)
 replace h20 : 20 ≤ len := by omega
 replace hnb := hnb h20
 obtain ⟨b, o, rfl⟩ := hr.form (by omega)
 obtain ⟨c0, x0⟩ := hr.cell0 (by omega)
 replace x0 := inr_u8 x0
 have hrB := hr.more hB
 have rd2 := hrB.sub 2 2 (by omega)
 have rd6 := hrB.sub 6 2 (by omega)
 have hb6 := n2_bd (fun x hx => inr_u8 (hr.rng x hx)) (i := 6) (by rw [hr.len]; omega)
 have hwc := wholeE_cases l
 unfold n2 at hb6 hwc
 obtain ⟨f0, hf0⟩ : ∃ x, x = l.getD 0 0 := ⟨_, rfl⟩
 obtain ⟨N, hNe⟩ : ∃ x, x = n2 l 2 := ⟨_, rfl⟩
 obtain ⟨N6, hN6⟩ : ∃ x, x = numOf (seg l 6 2) := ⟨_, rfl⟩
 rw [← hN6] at hb6 hwc
 rw [← hf0] at hcs c0 x0
 rw [← hNe] at hcs hnb
 have hN2 : Hid (N = numOf (seg l 2 2)) := hNe
 replace hf0 := Lib.hid hf0
 replace hN6 := Lib.hid hN6
 have hb := cell_lt c0
 simp only at hb
 have hb0 : b ≠ w.heap.size := by omega
 obtain ⟨c8, x8⟩ := hr.cell 8 (by omega)
 obtain ⟨c9, x9⟩ := hr.cell 9 (by omega)
 replace x8 := inr_u8 x8
 replace x9 := inr_u8 x9
 obtain ⟨f8, hf8⟩ : ∃ x, x = l.getD 8 0 := ⟨_, rfl⟩
 obtain ⟨f9, hf9⟩ : ∃ x, x = l.getD 9 0 := ⟨_, rfl⟩
 rw [← hf8] at c8 x8
 rw [← hf9] at c9 x9
 replace hf8 := Lib.hid hf8
 replace hf9 := Lib.hid hf9
 have rd12 := hrB.sub 12 4 (by omega)
 have rd16 := hrB.sub 16 4 (by omega)
 have hb12 := n4_bd (fun x hx => inr_u8 (hr.rng x hx)) (i := 12) (by rw [hr.len]; omega)
 have hb16 := n4_bd (fun x hx => inr_u8 (hr.rng x hx)) (i := 16) (by rw [hr.len]; omega)
 unfold n4 at hb12 hb16
 obtain ⟨N12, hN12⟩ : ∃ x, x = numOf (seg l 12 4) := ⟨_, rfl⟩
 obtain ⟨N16, hN16⟩ : ∃ x, x = numOf (seg l 16 4) := ⟨_, rfl⟩
 rw [← hN12] at hb12
 rw [← hN16] at hb16
 replace hN12 := Lib.hid hN12
 replace hN16 := Lib.hid hN16
 obtain ⟨F, hF⟩ : ∃ F, F = four (w.alloc (Obj.cells Z1 52)) (w.alloc (Obj.cells (A4 (f0 % 16 * 4) N f8 f9 N12 N16) 52)) w w := ⟨_, rfl⟩
 have FR : ∀ t, Below w.heap.size w (F t) := fun t => by
  rw [hF]
  refine four_all (p := fun w' => Below w.heap.size w w') ?_ ?_ ?_ ?_ t <;> first | exact Below.refl _ _ | exact bel_alloc _ _
 have Fc : ∀ p : Addr, ∀ v, w.cell? p = some v → ∀ t, (F t).cell? p = some v := by
  intro p v hp t
  have := cell_lt hp
  rw [hF]
  refine four_all (p := fun w' => w'.cell? p = some v) ?_ ?_ ?_ ?_ t <;> simp [World.cell?_alloc_lt, this, hp, Nat.lt_succ_of_lt]
 have F8 := Fc _ _ c8
 have F9 := Fc _ _ c9
 clear Fc
 replace FR := Lib.hid FR
 replace hF := Lib.hid hF
 have hand := i64_and3FFF N6 hb6
 replace hcs := Lib.hid hcs
 replace hwc := Lib.hid hwc
 clear hNe
 go_enter Tryz.func20, Tryz.ntmps20
 go_wp2
 go_quiet ((go_at_call 48; exact quiet_l (Num_at hN2 (by omega) ((rd2.below (bel_alloc _ _)).drewN _))))
 trace "quiet"
 rcases hcs.out with ⟨e, _, h1, h2⟩ | ⟨e, _, h1, h2⟩ | ⟨_, h1, h2, hcs⟩
 ·replace e := Lib.hid e
  go_wp2
  exact bodyPost_ret (v := .tuple #[.agg Z1, .int .i64 3]) (by simp [results, Tryz.results20, go_sem]) rfl ⟨by rw [e.out]; rfl, by (repeat (first | (with_reducible exact (bel_alloc _ _)) | (with_reducible refine Below.setCell ?_ ?_ _; rotate_left; · (first | omega | (simp; done) | (simp; omega) | (have hsz := Below.size (bel_alloc _ _); omega) | (have hsz := Below.size (bel_alloc _ _); simp; omega))) | (with_reducible refine Below.alloc ?_ ?_ _; rotate_left; · (first | omega | (simp; done) | (simp; omega) | (have hsz := Below.size (bel_alloc _ _); omega) | (have hsz := Below.size (bel_alloc _ _); simp; omega))) | (with_reducible refine below_drewN ?_ _) | (with_reducible refine Below.drew ?_)))⟩
 ·replace e := Lib.hid e
  go_wp2
  exact bodyPost_ret (v := .tuple #[.agg Z1, .int .i64 3]) (by simp [results, Tryz.results20, go_sem]) rfl ⟨by rw [e.out]; rfl, by (repeat (first | (with_reducible exact (bel_alloc _ _)) | (with_reducible refine Below.setCell ?_ ?_ _; rotate_left; · (first | omega | (simp; done) | (simp; omega) | (have hsz := Below.size (bel_alloc _ _); omega) | (have hsz := Below.size (bel_alloc _ _); simp; omega))) | (with_reducible refine Below.alloc ?_ ?_ _; rotate_left; · (first | omega | (simp; done) | (simp; omega) | (have hsz := Below.size (bel_alloc _ _); omega) | (have hsz := Below.size (bel_alloc _ _); simp; omega))) | (with_reducible refine below_drewN ?_ _) | (with_reducible refine Below.drew ?_)))⟩
 rcases hcs with ⟨e, h3⟩ | ⟨h3, hcs⟩
 ·replace e := Lib.hid e
  go_wp2
  exact bodyPost_ret (v := .tuple #[.agg Z1, .int .i64 2]) (by simp [results, Tryz.results20, go_sem]) rfl ⟨by rw [e.out]; rfl, by (repeat (first | (with_reducible exact (bel_alloc _ _)) | (with_reducible refine Below.setCell ?_ ?_ _; rotate_left; · (first | omega | (simp; done) | (simp; omega) | (have hsz := Below.size (bel_alloc _ _); omega) | (have hsz := Below.size (bel_alloc _ _); simp; omega))) | (with_reducible refine Below.alloc ?_ ?_ _; rotate_left; · (first | omega | (simp; done) | (simp; omega) | (have hsz := Below.size (bel_alloc _ _); omega) | (have hsz := Below.size (bel_alloc _ _); simp; omega))) | (with_reducible refine below_drewN ?_ _) | (with_reducible refine Below.drew ?_)))⟩
 rcases hcs with ⟨e, h4⟩ | ⟨h4, hcs⟩
 ·replace e := Lib.hid e
  go_wp2
  exact bodyPost_ret (v := .tuple #[.agg Z1, .int .i64 3]) (by simp [results, Tryz.results20, go_sem]) rfl ⟨by rw [e.out]; rfl, by (repeat (first | (with_reducible exact (bel_alloc _ _)) | (with_reducible refine Below.setCell ?_ ?_ _; rotate_left; · (first | omega | (simp; done) | (simp; omega) | (have hsz := Below.size (bel_alloc _ _); omega) | (have hsz := Below.size (bel_alloc _ _); simp; omega))) | (with_reducible refine Below.alloc ?_ ?_ _; rotate_left; · (first | omega | (simp; done) | (simp; omega) | (have hsz := Below.size (bel_alloc _ _); omega) | (have hsz := Below.size (bel_alloc _ _); simp; omega))) | (with_reducible refine below_drewN ?_ _) | (with_reducible refine Below.drew ?_)))⟩
 rcases hcs with ⟨rfl, e, h5⟩ | ⟨rfl, h5, hcs⟩ | ⟨rfl, e⟩
 ·replace e := Lib.hid e
  go_wp2
  exact bodyPost_ret (v := .tuple #[.agg Z1, .int .i64 3]) (by simp [results, Tryz.results20, go_sem]) rfl ⟨by rw [e.out]; rfl, by (repeat (first | (with_reducible exact (bel_alloc _ _)) | (with_reducible refine Below.setCell ?_ ?_ _; rotate_left; · (first | omega | (simp; done) | (simp; omega) | (have hsz := Below.size (bel_alloc _ _); omega) | (have hsz := Below.size (bel_alloc _ _); simp; omega))) | (with_reducible refine Below.alloc ?_ ?_ _; rotate_left; · (first | omega | (simp; done) | (simp; omega) | (have hsz := Below.size (bel_alloc _ _); omega) | (have hsz := Below.size (bel_alloc _ _); simp; omega))) | (with_reducible refine below_drewN ?_ _) | (with_reducible refine Below.drew ?_)))⟩
 ·rcases hcs with ⟨e, h6⟩ | ⟨h6, hcs⟩
  ·replace e := Lib.hid e
   go_wp2
   exact bodyPost_ret (v := .tuple #[.agg Z1, .int .i64 2]) (by simp [results, Tryz.results20, go_sem]) rfl ⟨by rw [e.out]; rfl, by (repeat (first | (with_reducible exact (bel_alloc _ _)) | (with_reducible refine Below.setCell ?_ ?_ _; rotate_left; · (first | omega | (simp; done) | (simp; omega) | (have hsz := Below.size (bel_alloc _ _); omega) | (have hsz := Below.size (bel_alloc _ _); simp; omega))) | (with_reducible refine Below.alloc ?_ ?_ _; rotate_left; · (first | omega | (simp; done) | (simp; omega) | (have hsz := Below.size (bel_alloc _ _); omega) | (have hsz := Below.size (bel_alloc _ _); simp; omega))) | (with_reducible refine below_drewN ?_ _) | (with_reducible refine Below.drew ?_)))⟩
  obtain ⟨k, hk⟩ : ∃ k : Nat, f0 % 16 * 4 = (k : Int) := ⟨(f0 % 16 * 4).toNat, by omega⟩
  have hrk := hrB.take (m := k) (by omega)
  obtain ⟨S, hS⟩ : ∃ S, S = sumOf (l.take k) := ⟨_, rfl⟩
  rw [hk, Int.toNat_natCast, ← hS] at hcs
  have hof : ∀ W', Rd .u8 W' w.heap.size (some ⟨b, o, none⟩) k (l.take k) → Calls Tryz.prog 49 #[.slice (some ⟨b, o, none⟩) k c] W' fun e w' => e = .returned (.int .u16 S) ∧ W' = w' := fun W' hr => hS ▸ rOf_any (l.take k) _ k c _ W' (by omega) hr
  replace hF := hF.out
  rw [hk] at hF
  replace hF := Lib.hid hF
  replace hS := Lib.hid hS
  replace hof := Lib.hid hof
  rcases hcs with ⟨e, h7⟩ | ⟨h7, e⟩
  ·replace e := Lib.hid e
   go_wp2_with (go_at_call 49; refine (hof.out _ ((hrk.below (bel_alloc _ _)).drewN _)).mono ?_; rintro e w' ⟨rfl, rfl⟩)
   exact bodyPost_ret (v := .tuple #[.agg Z1, .int .i64 4]) (by simp [results, Tryz.results20, go_sem]) rfl ⟨by rw [e.out]; rfl, by (repeat (first | (with_reducible exact (bel_alloc _ _)) | (with_reducible refine Below.setCell ?_ ?_ _; rotate_left; · (first | omega | (simp; done) | (simp; omega) | (have hsz := Below.size (bel_alloc _ _); omega) | (have hsz := Below.size (bel_alloc _ _); simp; omega))) | (with_reducible refine Below.alloc ?_ ?_ _; rotate_left; · (first | omega | (simp; done) | (simp; omega) | (have hsz := Below.size (bel_alloc _ _); omega) | (have hsz := Below.size (bel_alloc _ _); simp; omega))) | (with_reducible refine below_drewN ?_ _) | (with_reducible refine Below.drew ?_)))⟩
  rcases hwc.out with ⟨ew, hw⟩ | ⟨ew, hw⟩
  case inr =>
   rw [ew] at e
   replace e := Lib.hid e
   clear ew
   go_wp2_with (first | (go_at_call 48; refine (Num_at hN6 (by omega) ((rd6.below (bel_alloc _ _)).drewN _)).mono ?_; rintro e w' ⟨rfl, rfl⟩) | (go_at_call 49; refine (hof.out _ ((hrk.below (bel_alloc _ _)).drewN _)).mono ?_; rintro e w' ⟨rfl, rfl⟩))
   exact bodyPost_ret (v := .tuple #[.agg Z1, .int .i64 5]) (by simp [results, Tryz.results20, go_sem]) rfl ⟨by rw [e.out]; rfl, by (repeat (first | (with_reducible exact (bel_alloc _ _)) | (with_reducible refine Below.setCell ?_ ?_ _; rotate_left; · (first | omega | (simp; done) | (simp; omega) | (have hsz := Below.size (bel_alloc _ _); omega) | (have hsz := Below.size (bel_alloc _ _); simp; omega))) | (with_reducible refine Below.alloc ?_ ?_ _; rotate_left; · (first | omega | (simp; done) | (simp; omega) | (have hsz := Below.size (bel_alloc _ _); omega) | (have hsz := Below.size (bel_alloc _ _); simp; omega))) | (with_reducible refine below_drewN ?_ _) | (with_reducible refine Below.drew ?_)))⟩
  rw [ew] at e
  replace e := Lib.hid e
  clear ew
  go_wp2_with (first | (go_at_call 48; refine (Num_at hN6 (by omega) ((rd6.below (bel_alloc _ _)).drewN _)).mono ?_; rintro e w' ⟨rfl, rfl⟩) | (go_at_call 49; refine (hof.out _ ((hrk.below (bel_alloc _ _)).drewN _)).mono ?_; rintro e w' ⟨rfl, rfl⟩))
  try replace hk := Lib.hid hk
  refine wp_region_E (cls1 19 F) (by kernel_rfl) (by kernel_rfl) ⟨nq + 1, by rw [hF.out]; rfl⟩ ?_
  refine wpE_qs (D := dom2 F) (fun _ _ h => h.dom) 12 _ _ _ (by kernel_rfl) (by simp) (fun i h1 h2 _ _ h => h.keep (by omega) (by omega)) ?_
  unfold dom2
  simp only [List.take_succ_cons, List.take_zero, List.drop_succ_cons, List.drop_zero]
  repeat (first
   | go_big_quiet_skip
   | (go_big_quiet_want; go_big_quiet_op; go_big_quiet_on))
  refine wpQuiet_nil ?_
  refine wpE_do (by kernel_rfl) (.int .i64 N12) (fun K hK => ⟨fun listed w' hrd hC => ?_, ?_⟩)
  ·obtain ⟨t, m, rfl⟩ := hC.form
   go_simp
   refine (Num_at hN12 (by omega) ((rd12.below (FR.out t)).drewN m)).mono ?_
   rintro e w' ⟨rfl, rfl⟩; exact ⟨rfl, hC.keep (by omega) (by omega)⟩
  go_simp; refine hK _ ?_; clear hK K
  refine wpE_qs (D := dom2 F) (fun _ _ h => h.dom) 3 _ _ _ (by kernel_rfl) (by simp) (fun i h1 h2 _ _ h => h.keep (by omega) (by omega)) ?_
  unfold dom2
  simp only [List.take_succ_cons, List.take_zero, List.drop_succ_cons, List.drop_zero]
  repeat (first
   | go_big_quiet_skip
   | (go_big_quiet_want; go_big_quiet_op; go_big_quiet_on))
  refine wpQuiet_nil ?_
  refine wpE_do (by kernel_rfl) (.int .i64 N16) (fun K hK => ⟨fun listed w' hrd hC => ?_, ?_⟩)
  ·obtain ⟨t, m, rfl⟩ := hC.form
   go_simp
   refine (Num_at hN16 (by omega) ((rd16.below (FR.out t)).drewN m)).mono ?_
   rintro e w' ⟨rfl, rfl⟩; exact ⟨rfl, hC.keep (by omega) (by omega)⟩
  go_simp; refine hK _ ?_; clear hK K
  refine wpE_qs (D := dom2 F) (fun _ _ h => h.dom) 2 _ _ _ (by kernel_rfl) (by simp) (fun i h1 h2 _ _ h => h.keep (by omega) (by omega)) ?_
  unfold dom2
  simp only [List.take_succ_cons, List.take_zero, List.drop_succ_cons, List.drop_zero]
  repeat (first
   | go_big_quiet_skip
   | (go_big_quiet_want; go_big_quiet_op; go_big_quiet_on))
  refine wpQuiet_nil ?_
  refine wpE_do (by kernel_rfl) (undef) (fun K hK => ⟨fun listed w' hrd hC => ?_, ?_⟩)
  ·obtain ⟨m, rfl⟩ := cls1.at1 (F := F) hC hrd.1
   have hnx := cls1.to1 (F := F) (i := 19) hrd.1 m
   replace hF := hF.out
   clear hC
   subst hF
   simp only [four] at hnx ⊢
   go_simp
   exact ⟨rfl, hnx⟩
  go_simp; refine hK _ ?_; clear hK K
  refine wpE_qs (D := dom2 F) (fun _ _ h => h.dom) 1 _ _ _ (by kernel_rfl) (by simp) (fun i h1 h2 _ _ h => h.keep (by omega) (by omega)) ?_
  unfold dom2
  simp only [List.take_succ_cons, List.take_zero, List.drop_succ_cons, List.drop_zero]
  repeat (first
   | go_big_quiet_skip
   | (go_big_quiet_want; go_big_quiet_op; go_big_quiet_on))
  refine wpQuiet_nil ?_
  intro w' hw'
  obtain ⟨m, rfl⟩ := cls1.end_ (F := F) hw' (by kernel_rfl)
  replace hF := hF.out
  clear hw'
  subst hF
  simp only [four]
  go_wp2
  exact bodyPost_ret (v := .tuple #[.agg (A4 (k : Int) N f8 f9 N12 N16), .int .i64 0]) (by simp [results, Tryz.results20, go_sem]) rfl
   ⟨by rw [e.out]; unfold hdIf hdOf Hd.val n4 n2; rw [if_pos rfl, hN12.out, hN16.out, hf8.out, hf9.out, ← hk.out, hf0.out, hN2.out], by (repeat (first | (with_reducible exact (bel_alloc _ _)) | (with_reducible refine Below.setCell ?_ ?_ _; rotate_left; · (first | omega | (simp; done) | (simp; omega) | (have hsz := Below.size (bel_alloc _ _); omega) | (have hsz := Below.size (bel_alloc _ _); simp; omega))) | (with_reducible refine Below.alloc ?_ ?_ _; rotate_left; · (first | omega | (simp; done) | (simp; omega) | (have hsz := Below.size (bel_alloc _ _); omega) | (have hsz := Below.size (bel_alloc _ _); simp; omega))) | (with_reducible refine below_drewN ?_ _) | (with_reducible refine Below.drew ?_)))⟩
 ·by_cases h15 : 1500 < N <;> by_cases hlN : (len : Int) < N
  all_goals
   rcases hwc.out with ⟨ew, hw⟩ | ⟨ew, hw⟩
   case inr =>
    rw [ew] at e
    replace e := Lib.hid e
    clear ew
    go_wp2_with (first | (go_at_call 48; refine (Num_at hN6 (by omega) ((rd6.below (bel_alloc _ _)).drewN _)).mono ?_; rintro e w' ⟨rfl, rfl⟩) | fail)
    exact bodyPost_ret (v := .tuple #[.agg Z1, .int .i64 5]) (by simp [results, Tryz.results20, go_sem]) rfl ⟨by rw [e.out]; rfl, by (repeat (first | (with_reducible exact (bel_alloc _ _)) | (with_reducible refine Below.setCell ?_ ?_ _; rotate_left; · (first | omega | (simp; done) | (simp; omega) | (have hsz := Below.size (bel_alloc _ _); omega) | (have hsz := Below.size (bel_alloc _ _); simp; omega))) | (with_reducible refine Below.alloc ?_ ?_ _; rotate_left; · (first | omega | (simp; done) | (simp; omega) | (have hsz := Below.size (bel_alloc _ _); omega) | (have hsz := Below.size (bel_alloc _ _); simp; omega))) | (with_reducible refine below_drewN ?_ _) | (with_reducible refine Below.drew ?_)))⟩
   rw [ew] at e
   replace e := Lib.hid e
   clear ew
   go_wp2_with (first | (go_at_call 48; refine (Num_at hN6 (by omega) ((rd6.below (bel_alloc _ _)).drewN _)).mono ?_; rintro e w' ⟨rfl, rfl⟩) | fail)
   try replace hk := Lib.hid hk
   refine wp_region_E (cls1 19 F) (by kernel_rfl) (by kernel_rfl) ⟨nq + 1, by rw [hF.out]; rfl⟩ ?_
   refine wpE_qs (D := dom2 F) (fun _ _ h => h.dom) 12 _ _ _ (by kernel_rfl) (by simp) (fun i h1 h2 _ _ h => h.keep (by omega) (by omega)) ?_
   unfold dom2
   simp only [List.take_succ_cons, List.take_zero, List.drop_succ_cons, List.drop_zero]
   repeat (first
    | go_big_quiet_skip
    | (go_big_quiet_want; go_big_quiet_op; go_big_quiet_on))
   refine wpQuiet_nil ?_
   refine wpE_do (by kernel_rfl) (.int .i64 N12) (fun K hK => ⟨fun listed w' hrd hC => ?_, ?_⟩)
   ·obtain ⟨t, m, rfl⟩ := hC.form
    go_simp
    refine (Num_at hN12 (by omega) ((rd12.below (FR.out t)).drewN m)).mono ?_
    rintro e w' ⟨rfl, rfl⟩; exact ⟨rfl, hC.keep (by omega) (by omega)⟩
   go_simp; refine hK _ ?_; clear hK K
   refine wpE_qs (D := dom2 F) (fun _ _ h => h.dom) 3 _ _ _ (by kernel_rfl) (by simp) (fun i h1 h2 _ _ h => h.keep (by omega) (by omega)) ?_
   unfold dom2
   simp only [List.take_succ_cons, List.take_zero, List.drop_succ_cons, List.drop_zero]
   repeat (first
    | go_big_quiet_skip
    | (go_big_quiet_want; go_big_quiet_op; go_big_quiet_on))
   refine wpQuiet_nil ?_
   refine wpE_do (by kernel_rfl) (.int .i64 N16) (fun K hK => ⟨fun listed w' hrd hC => ?_, ?_⟩)
   ·obtain ⟨t, m, rfl⟩ := hC.form
    go_simp
    refine (Num_at hN16 (by omega) ((rd16.below (FR.out t)).drewN m)).mono ?_
    rintro e w' ⟨rfl, rfl⟩; exact ⟨rfl, hC.keep (by omega) (by omega)⟩
   go_simp; refine hK _ ?_; clear hK K
   refine wpE_qs (D := dom2 F) (fun _ _ h => h.dom) 2 _ _ _ (by kernel_rfl) (by simp) (fun i h1 h2 _ _ h => h.keep (by omega) (by omega)) ?_
   unfold dom2
   simp only [List.take_succ_cons, List.take_zero, List.drop_succ_cons, List.drop_zero]
   repeat (first
    | go_big_quiet_skip
    | (go_big_quiet_want; go_big_quiet_op; go_big_quiet_on))
   refine wpQuiet_nil ?_
   refine wpE_do (by kernel_rfl) (undef) (fun K hK => ⟨fun listed w' hrd hC => ?_, ?_⟩)
   ·obtain ⟨m, rfl⟩ := cls1.at1 (F := F) hC hrd.1
    have hnx := cls1.to1 (F := F) (i := 19) hrd.1 m
    replace hF := hF.out
    clear hC
    subst hF
    simp only [four] at hnx ⊢
    go_simp
    exact ⟨rfl, hnx⟩
   go_simp; refine hK _ ?_; clear hK K
   refine wpE_qs (D := dom2 F) (fun _ _ h => h.dom) 1 _ _ _ (by kernel_rfl) (by simp) (fun i h1 h2 _ _ h => h.keep (by omega) (by omega)) ?_
   unfold dom2
   simp only [List.take_succ_cons, List.take_zero, List.drop_succ_cons, List.drop_zero]
   repeat (first
    | go_big_quiet_skip
    | (go_big_quiet_want; go_big_quiet_op; go_big_quiet_on))
   refine wpQuiet_nil ?_
   intro w' hw'
   obtain ⟨m, rfl⟩ := cls1.end_ (F := F) hw' (by kernel_rfl)
   replace hF := hF.out
   clear hw'
   subst hF
   simp only [four]
   go_wp2
   exact bodyPost_ret (v := .tuple #[.agg (A4 (f0 % 16 * 4) N f8 f9 N12 N16), .int .i64 0]) (by simp [results, Tryz.results20, go_sem]) rfl
    ⟨by rw [e.out]; unfold hdIf hdOf Hd.val n4 n2; rw [if_pos rfl, hN12.out, hN16.out, hf8.out, hf9.out, hf0.out, hN2.out], by (repeat (first | (with_reducible exact (bel_alloc _ _)) | (with_reducible refine Below.setCell ?_ ?_ _; rotate_left; · (first | omega | (simp; done) | (simp; omega) | (have hsz := Below.size (bel_alloc _ _); omega) | (have hsz := Below.size (bel_alloc _ _); simp; omega))) | (with_reducible refine Below.alloc ?_ ?_ _; rotate_left; · (first | omega | (simp; done) | (simp; omega) | (have hsz := Below.size (bel_alloc _ _); omega) | (have hsz := Below.size (bel_alloc _ _); simp; omega))) | (with_reducible refine below_drewN ?_ _) | (with_reducible refine Below.drew ?_)))⟩
section
variable {P : Program} {ops : Array Oper} {Q : Exit → Act → World → Prop} {S : World → Prop} {o0 : Obj} {B : Nat} {vf : Nat → Value}
theorem wp_putd {o oa : Oper} (hap : oa.apart ops o = true) (hso : ∀ cs b, o.op ≠ .select cs b) (hQ : ∀ c a w, ¬ Q (.panic c) a w) {K : Act → World → Prop} {a : Act} {w : World} (v : Value)
  (h : o.wp P a w (fun a' w' => K (a'.put oa.dst v) w') Q) : o.wp P (a.put oa.dst v) w K Q := by
 obtain ⟨h1, h2, h3⟩ := Oper.apart_spec hap
 unfold Oper.wp at *
 rw [execOp_put o hso a oa.dst v h1]
 generalize (execOp a.eval o).run P w = r at *
 cases r with
 | ok n w' =>
  cases n <;> simp only [Oper.upon] at h ⊢
  case value u => rw [Act.put_comm a v u h2]; exact h
  case skip => rw [Act.put_comm a v undef h2]; exact h
  case defer d =>
   have e : ({ (a.put oa.dst v) with defers := d :: (a.put oa.dst v).defers } : Act) = ({ a with defers := d :: a.defers } : Act).put oa.dst v := by cases oa.dst <;> rfl
   rw [e, Act.put_comm _ v undef h2]
   exact h
  case enter f args =>
   refine Calls.mono h fun e w'' he => ?_
   cases e with
   | returned u => show K ((a.put oa.dst v).put o.dst u) w''; rw [Act.put_comm a v u h2]; exact he
   | panicked c => exact absurd he (hQ _ _ _)
   | outgrown => exact he
  case row row args => exact Rows.mono h fun u w'' he => by rw [Act.put_comm a v u h2]; exact he
 | halt x w' =>
  cases x <;> simp only [Oper.upon] at h ⊢
  case panic u => exact absurd h (hQ _ _ _)
def KeepO (o0 : Obj) (w w' : World) : Prop := ∀ h : Nat, w.heap[h]? = some o0 → w'.heap[h]? = some o0
def planF (ops : Array Oper) (ia : Nat) (oa : Oper) (tl : List (Nat × Bool)) : List (Nat × Bool) → Array Bool → Bool
 | [], L => decide (Region.ready .any ops L = [ia]) && planB ops tl (L.setIfInBounds ia true)
 | (i, true) :: r, L => (match ops[i]? with | some o => isV o.op && oa.apart ops o | none => false) && i != ia && (Region.ready .any ops L).contains i && Region.free .any ops L i
   && (Region.ready .any ops (L.setIfInBounds ia true)).contains i && Region.free .any ops (L.setIfInBounds ia true) i && planF ops ia oa tl r (L.setIfInBounds i true)
 | (i, false) :: r, L => (match ops[i]? with | some o => oa.apart ops o | none => false) && i != ia && (Region.ready .any ops L).all (fun j => j == i || j == ia) && (Region.ready .any ops L).contains i
   && decide (Region.ready .any ops (L.setIfInBounds ia true) = [i]) && planF ops ia oa tl r (L.setIfInBounds i true)
def wpFl (P : Program) (ops : Array Oper) (Q : Exit → Act → World → Prop) (S : World → Prop) (o0 : Obj) (B : Nat) (vf : Nat → Value) (oa : Oper) (tl : List (Nat × Bool)) : List (Nat × Bool) → Act → World → Prop
 | [], a, w => ∃ J : World → Prop, J w ∧ (∀ w, J w → J (w.alloc o0)) ∧ ∀ (w : World) (h : Nat), J w → S w → B ≤ h → w.heap[h]? = some o0 → wpPl P ops Q S tl (a.put oa.dst (vf h)) w
 | (i, true) :: r, a, w => ∀ o, ops[i]? = some o → ∃ v, ((Region.wanted o (yielded ops a.tmps) = true ∧ ∀ w, S w → o.quietAt P a (clsS S) w v) ∨ (Region.wanted o (yielded ops a.tmps) = false ∧ v = undef)) ∧ wpFl P ops Q S o0 B vf oa tl r (a.put o.dst v) w
 | (i, false) :: r, a, w => ∀ o, ops[i]? = some o → ∃ J : World → Prop, J w ∧ (∀ w, J w → J (w.alloc o0)) ∧ Region.wanted o (yielded ops a.tmps) = true ∧
   ∀ w, J w → S w → ∀ K : Act → World → Prop, (∀ a' w', S w' → KeepO o0 w w' → wpFl P ops Q S o0 B vf oa tl r a' w' → K a' w') → o.wp P a w K Q
theorem wpFl_alloc {oa : Oper} {tl : List (Nat × Bool)} : ∀ (l : List (Nat × Bool)) (a : Act) (w : World), wpFl P ops Q S o0 B vf oa tl l a w → wpFl P ops Q S o0 B vf oa tl l a (w.alloc o0)
 | [], a, w, ⟨J, h1, h2, h3⟩ => ⟨J, h2 _ h1, h2, h3⟩
 | (i, true) :: r, a, w, h => fun o ho => by
  obtain ⟨v, h1, h2⟩ := h o ho
  exact ⟨v, h1, wpFl_alloc r _ _ h2⟩
 | (i, false) :: r, a, w, h => fun o ho => by
  obtain ⟨J, h1, h2, h3⟩ := h o ho
  exact ⟨J, h2 _ h1, h2, h3⟩
theorem yieldsIf_of {o : Oper} {v : Value} {a : Act} (hv : isV o.op = true) (h : (Region.wanted o (yielded ops a.tmps) = true ∧ ∀ w, S w → o.quietAt P a (clsS S) w v) ∨ (Region.wanted o (yielded ops a.tmps) = false ∧ v = undef)) : YieldsIf P ops S o v a := by
 rcases h with ⟨hw, hy⟩ | hy
 ·refine .inl ⟨hw, fun w' hS' => ?_⟩
  have h5 := hy w' hS'
  unfold Oper.quietAt at h5
  cases hr : (execOp a.eval o).run P w' with
  | ok nx w2 =>
   obtain ⟨u, rfl⟩ := isV_spec hv hr
   rw [hr] at h5
   simp only [Oper.quietUpon] at h5
   rw [h5.1, h5.2]
  | halt x w2 => rw [hr] at h5; simp only [Oper.quietUpon] at h5
 ·exact .inr hy
theorem wpAnyH_done_fl {ia : Nat} {oa : Oper} {tl : List (Nat × Bool)} (hs : Region.noSelect ops = true) (hQ : ∀ c a w, ¬ Q (.panic c) a w) : ∀ (l : List (Nat × Bool)) (L : Array Bool) (a : Act) (w : World) (h : Nat), S w → B ≤ h → w.heap[h]? = some o0 →
  planF ops ia oa tl l L = true → wpFl P ops Q S o0 B vf oa tl l a w → ∀ fuel, l.length + tl.length ≤ fuel → wpAnyH P .any ops Q S fuel (L.setIfInBounds ia true) (a.put oa.dst (vf h)) w
 | [], L, a, w, h, hS, hbB, hb, hB, ⟨J, h1, h2, h3⟩, fuel, hf => by
  simp only [planF, Bool.and_eq_true] at hB
  exact wpAnyH_of_plan hs hQ tl _ _ w hS hB.2 (h3 w h h1 hS hbB hb) fuel (by simpa using hf)
 | (i, true) :: r, L, a, w, h, hS, hbB, hb, hB, hx, 0, hf => by simp at hf
 | (i, false) :: r, L, a, w, h, hS, hbB, hb, hB, hx, 0, hf => by simp at hf
 | (i, true) :: r, L, a, w, h, hS, hbB, hb, hB, hx, fuel + 1, hf => by
  simp only [planF, Bool.and_eq_true, bne_iff_ne] at hB
  obtain ⟨⟨⟨⟨⟨⟨hm, hne⟩, _⟩, _⟩, hr⟩, hfr⟩, hB'⟩ := hB
  cases ho : ops[i]? with
  | none => rw [ho] at hm; cases hm
  | some o =>
   rw [ho] at hm
   simp only [Bool.and_eq_true] at hm
   obtain ⟨v, hy, hn⟩ := hx o ho
   obtain ⟨g1, g2, g3⟩ := Oper.apart_spec hm.2
   have hY := yieldsIf_of hm.1 hy
   have hY' : YieldsIf P ops S o v (a.put oa.dst (vf h)) := hY.of_same (execOp_put o (Region.noSelect_spec hs i o · · ho) a oa.dst _ g1) (wanted_put o a oa.dst _ g1)
   refine wpAnyH_take ho hs hfr hr (fun c a w hq => absurd hq (hQ _ _ _)) hY' hS ?_
   rw [Array.setIfInBounds_comm _ _ (Ne.symm hne), Act.put_comm a _ v g2]
   exact wpAnyH_done_fl hs hQ r _ _ w h hS hbB hb hB' hn fuel (by simp at hf; omega)
 | (i, false) :: r, L, a, w, h, hS, hbB, hb, hB, hx, fuel + 1, hf => by
  simp only [planF, Bool.and_eq_true, bne_iff_ne, decide_eq_true_eq] at hB
  obtain ⟨⟨⟨⟨⟨hm, hne⟩, _⟩, _⟩, hr⟩, hB'⟩ := hB
  cases ho : ops[i]? with
  | none => rw [ho] at hm; cases hm
  | some o =>
   rw [ho] at hm
   obtain ⟨g1, g2, g3⟩ := Oper.apart_spec hm
   obtain ⟨J, j1, j2, hw, j3⟩ := hx o ho
   refine wpAnyH_all hr (by simp) fun j hj => ?_
   obtain rfl : j = i := by simpa using hj
   unfold wpOp
   simp only [ho]
   rw [wanted_put o a oa.dst _ g1, if_pos hw]
   left
   refine wp_putd hm (Region.noSelect_spec hs j o · · ho) hQ _ ?_
   refine j3 w j1 hS _ fun a' w' hS' hk hn => ⟨hS', ?_⟩
   rw [Array.setIfInBounds_comm _ _ (Ne.symm hne)]
   exact wpAnyH_done_fl hs hQ r _ _ w' h hS' hbB (hk h hb) hB' hn fuel (by simp at hf; omega)
theorem wpAnyH_pend {ia : Nat} {oa : Oper} {tl : List (Nat × Bool)} (hs : Region.noSelect ops = true) (hQ : ∀ c a w, ¬ Q (.panic c) a w) (hoa : ops[ia]? = some oa) (hg : oa.guard = none)
  (hSa : ∀ w, S w → S (w.alloc o0)) (hSB : ∀ w, S w → B ≤ w.heap.size) (hrun : ∀ (a : Act) (w : World), (execOp a.eval oa).run P w = .ok (.value (vf w.heap.size)) (w.alloc o0)) : ∀ (l : List (Nat × Bool)) (L : Array Bool) (a : Act) (w : World), S w →
  planF ops ia oa tl l L = true → wpFl P ops Q S o0 B vf oa tl l a w → ∀ fuel, l.length + 1 + tl.length ≤ fuel → wpAnyH P .any ops Q S fuel L a w := by
 have hal : ∀ (l : List (Nat × Bool)) (L : Array Bool) (a : Act) (w : World) (fuel : Nat), S w → planF ops ia oa tl l L = true → wpFl P ops Q S o0 B vf oa tl l a w → l.length + tl.length ≤ fuel →
   wpOp P ops Q ia (fun a' w' => S w' ∧ wpAnyH P .any ops Q S fuel (L.setIfInBounds ia true) a' w') a w := fun l L a w fuel hS hB hx hf => by
  unfold wpOp
  have hw : Region.wanted oa (yielded ops a.tmps) = true := by unfold Region.wanted; rw [hg]
  simp only [hoa]
  rw [if_pos hw]
  left
  unfold Oper.wp
  rw [hrun]
  exact ⟨hSa _ hS, wpAnyH_done_fl hs hQ l L a _ _ (hSa _ hS) (hSB _ hS) (heap_alloc_new w o0) hB (wpFl_alloc l a w hx) fuel hf⟩
 intro l
 induction l with
 | nil =>
  intro L a w hS hB hx fuel hf
  cases fuel with
  | zero => simp at hf
  | succ fuel =>
   have hB0 := hB
   simp only [planF, Bool.and_eq_true, decide_eq_true_eq] at hB
   refine wpAnyH_all hB.1 (by simp) fun j hj => ?_
   obtain rfl : j = ia := by simpa using hj
   exact hal [] L a w fuel hS hB0 hx (by simp at hf ⊢; omega)
 | cons x r ih =>
  obtain ⟨i, b⟩ := x
  intro L a w hS hB hx fuel hf
  cases fuel with
  | zero => simp at hf
  | succ fuel =>
   have hB0 := hB
   cases b
   ·simp only [planF, Bool.and_eq_true, bne_iff_ne, decide_eq_true_eq] at hB
    obtain ⟨⟨⟨⟨⟨hm, hne⟩, hall⟩, hc⟩, hr⟩, hB'⟩ := hB
    refine wpAnyH_all rfl (fun h0 => by rw [h0] at hc; simp at hc) fun j hj => ?_
    have := List.all_eq_true.1 hall j hj
    simp only [Bool.or_eq_true, beq_iff_eq] at this
    rcases this with rfl | rfl
    ·cases ho : ops[j]? with
     | none => rw [ho] at hm; cases hm
     | some o =>
      obtain ⟨J, j1, j2, hw, j3⟩ := hx o ho
      unfold wpOp
      simp only [ho]
      rw [if_pos hw]
      left
      exact j3 w j1 hS _ fun a' w' hS' hk hn => ⟨hS', ih _ a' w' hS' hB' hn fuel (by simp at hf; omega)⟩
    ·exact hal _ L a w fuel hS hB0 hx (by simp at hf ⊢; omega)
   ·simp only [planF, Bool.and_eq_true, bne_iff_ne] at hB
    obtain ⟨⟨⟨⟨⟨⟨hm, hne⟩, hr⟩, hfr⟩, _⟩, _⟩, hB'⟩ := hB
    cases ho : ops[i]? with
    | none => rw [ho] at hm; cases hm
    | some o =>
     rw [ho] at hm
     simp only [Bool.and_eq_true] at hm
     obtain ⟨v, hy, hn⟩ := hx o ho
     exact wpAnyH_take ho hs hfr hr (fun c a w hq => absurd hq (hQ _ _ _)) (yieldsIf_of hm.1 hy) hS (ih _ _ w hS hB' hn fuel (by simp at hf; omega))
theorem wp_region_float {id : Nat} {a : Act} {w : World} {l : List Oper} (S : World → Prop) (o0 : Obj) (B : Nat) (vf : Nat → Value) (ia : Nat) (oa : Oper) (pl tl : List (Nat × Bool)) (hm : P.follows .mixedOrders = true) (hs : Region.noSelect l.toArray = true) (hoa : l.toArray[ia]? = some oa) (hg : oa.guard = none)
  (hB : planF l.toArray ia oa tl pl (Array.replicate l.length false) = true) (hl : pl.length + 1 + tl.length = l.length) (hS : S w.drew) (hSa : ∀ w, S w → S (w.alloc o0)) (hSB : ∀ w, S w → B ≤ w.heap.size)
  (hrun : ∀ (a : Act) (w : World), (execOp a.eval oa).run P w = .ok (.value (vf w.heap.size)) (w.alloc o0))
  (h : wpFl P l.toArray (NoPanic Q) S o0 B vf oa tl pl a w.drew) : (Code.region id l.toArray true).wp P Q a w := by
 refine wp_region_noPanic (wp_region_held (S := S) hm ?_)
 have := wpAnyH_pend (P := P) (Q := NoPanic Q) (S := S) hs (fun c a w h => h) hoa hg hSa hSB hrun pl (Array.replicate l.length false) a w.drew hS hB h l.length (by omega)
 simpa using this
theorem wpFl_qs {oa : Oper} {tl : List (Nat × Bool)} : ∀ (n : Nat) (l : List (Nat × Bool)) (a : Act) (w : World), ((l.take n).all fun x => x.2) = true → ((l.take n).all fun x => (ops[x.1]?).isSome) = true → n ≤ l.length →
  wpQuiet P ops (clsS S) (fun a' => wpFl P ops Q S o0 B vf oa tl (l.drop n) a' w) ((l.take n).filterMap fun x => ops[x.1]?) a → wpFl P ops Q S o0 B vf oa tl l a w
 | 0, l, a, w, _, _, _, h => h
 | n + 1, [], a, w, _, _, hn, _ => by simp at hn
 | n + 1, (i, false) :: l, a, w, h1, _, _, _ => by simp at h1
 | n + 1, (i, true) :: l, a, w, h1, h2, hn, h => by
  simp only [List.take_succ_cons, List.all_cons, Bool.and_eq_true] at h1 h2
  intro o ho
  simp only [List.take_succ_cons, List.drop_succ_cons, List.filterMap_cons, ho, wpQuiet] at h
  by_cases hw : Region.wanted o (yielded ops a.tmps) = true
  ·rw [if_pos hw] at h
   obtain ⟨v, h3, h4⟩ := h
   exact ⟨v, .inl ⟨hw, fun w' hS => h3 w' ⟨⟨w', hS⟩, rfl⟩⟩, wpFl_qs n l _ w h1.2 h2.2 (by simpa using hn) h4⟩
  ·rw [if_neg hw] at h
   exact ⟨undef, .inr ⟨by simpa using hw, rfl⟩, wpFl_qs n l _ w h1.2 h2.2 (by simpa using hn) h⟩
theorem wpFl_e {oa : Oper} {tl : List (Nat × Bool)} {i : Nat} {r : List (Nat × Bool)} {a : Act} {w : World} (J : World → Prop) (o : Oper) (ho : ops[i]? = some o) (hw : Region.wanted o (yielded ops a.tmps) = true) (hj : J w) (hja : ∀ w, J w → J (w.alloc o0))
  (h : ∀ w, J w → S w → ∀ K : Act → World → Prop, (∀ a' w', S w' → KeepO o0 w w' → wpFl P ops Q S o0 B vf oa tl r a' w' → K a' w') → o.wp P a w K Q) : wpFl P ops Q S o0 B vf oa tl ((i, false) :: r) a w :=
 fun o' ho' => by
  obtain rfl : o = o' := Option.some.inj (ho.symm.trans ho')
  exact ⟨J, hj, hja, hw, h⟩
end
end Go.Proofs.YtbichbdcibchlaaGreat
