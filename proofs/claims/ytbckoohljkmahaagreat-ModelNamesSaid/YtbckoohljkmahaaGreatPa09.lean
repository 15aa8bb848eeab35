/- What the laws' proofs lean on: plain facts and contracts of the program's functions, laid together (9). -/
import Derived.Test.YtbckoohljkmahaaGreatPa02
import Derived.Test.YtbckoohljkmahaaGreatPa05
namespace Go.Proofs.YtbckoohljkmahaaGreat
set_option linter.unusedVariables false
set_option linter.unusedSimpArgs false
open Go.RowKit
set_option maxHeartbeats 400000 in
theorem Num_any (l : List Int) (A : Option Addr) (len c B : Nat) (w : World) (hl : len ≤ 4) (hr : Rd .u8 w B A len l) :
    Calls Tryz.prog 55 #[.slice A len c] w fun e w' => e = .returned (.int .i64 (numOf l)) ∧ w = w' := by
  have hlen := Lib.hid hr.len
  have hB := numOf_bd l (fun x hx => inr_u8 (hr.rng x hx))
  go_enter Tryz.func55, Tryz.ntmps55
  go_wp2
  go_loop [3, 4] (fun n i => ∃ k : Nat, k ≤ len ∧ i = .int .i64 k ∧ n = .int .i64 (numOf (l.take k))) (fun _ i => len - (intOf i).toNat)
  case atStart => exact ⟨0, by omega, rfl, by simp [numOf]⟩
  case round =>
    obtain ⟨k, hk, rfl, rfl⟩ := hrel
    by_cases hlt : k < len
    · obtain ⟨b, o, rfl, hbl, hc, hx⟩ := hr.at_ hlt
      have hx := inr_u8 hx
      have hb := hB k (by rw [hlen.out]; omega)
      have hb2 : numOf (l.take k) < 16777216 := by
        have : (256 : Int) ^ k ≤ 256 ^ 3 := by
          have h4 : k = 0 ∨ k = 1 ∨ k = 2 ∨ k = 3 := by omega
          rcases h4 with rfl | rfl | rfl | rfl <;> decide
        omega
      have HS : Hid (numOf (l.take (k + 1)) = numOf (l.take k) * 256 + l.getD k 0) := by
        have : k < l.length := by rw [hlen.out]; exact hlt
        show _ = _
        rw [List.take_succ_eq_append_getElem this, numOf_snoc, List.getD_eq_getElem?_getD, List.getElem?_eq_getElem this]; rfl
      replace hb := hb.1
      obtain ⟨x, hxe⟩ : ∃ x, x = l.getD k 0 := ⟨_, rfl⟩
      rw [← hxe] at hc hx HS
      obtain ⟨N, hN⟩ : ∃ N, N = numOf (l.take k) := ⟨_, rfl⟩
      rw [← hN] at hb hb2 HS ⊢
      clear hxe hN hB hlen
      have hd : decide (k < len) = true := by simpa using hlt
      go_wp2
      exact ⟨⟨k + 1, by omega, by go_num, by rw [HS.out]⟩, by simp [intOf]; omega⟩
    · have hke : k = len := by omega
      have hd : decide (k < len) = false := by simpa using hlt
      clear hB
      go_wp2
      go_ret
      exact ⟨by rw [List.take_of_length_le (by rw [hlen.out]; omega)]; rfl, rfl⟩
theorem i64_and3FFF (f : Int) (h : 0 ≤ f ∧ f ≤ 65535) : bits .and .i64 f 16383 = f % 16384 := by
  show IntKind.i64.wrap ((BitVec.ofInt 64 f &&& BitVec.ofInt 64 ((16383 : Nat) : Int)).toNat : Int) = _
  rw [BitVec.ofInt_natCast, BitVec.toNat_and, BitVec.toNat_ofNat, Nat.mod_eq_of_lt (by omega)]
  have hb : ((BitVec.ofInt 64 f).toNat : Int) = f % 18446744073709551616 := by rw [BitVec.toNat_ofInt]; omega
  have h2 : (BitVec.ofInt 64 f).toNat &&& 16383 = (BitVec.ofInt 64 f).toNat % 2 ^ 14 := Nat.and_two_pow_sub_one_eq_mod _ 14
  rw [h2]
  have h3 : (((BitVec.ofInt 64 f).toNat % 2 ^ 14 : Nat) : Int) = f % 16384 := by omega
  rw [h3]
  exact IntWalk.i64_in _ (by omega)
theorem Num_at {l : List Int} {A : Option Addr} {len c B : Nat} {w : World} {N : Int} (hN : Hid (N = numOf l)) (hl : len ≤ 4) (hr : Rd .u8 w B A len l) :
    Calls Tryz.prog 55 #[.slice A len c] w fun e w' => e = .returned (.int .i64 N) ∧ w = w' := hN.out ▸ Num_any l A len c B w hl hr
def getP (l : List Int) (part : Bool) : Int := if part then partE l else getE l
theorem getP_cases (l : List Int) (p : Bool) (hb : n2 l 2 ≤ 65535 ∨ l.length < 20) :
    (getP l p = 2 ∧ l.length < 20) ∨
    (getP l p = 3 ∧ 20 ≤ l.length ∧ (l.getD 0 0 / 16 == 4) = false ∧ (l.getD 0 0 / 16 != 4) = true) ∨
    (getP l p = 3 ∧ 20 ≤ l.length ∧ l.getD 0 0 / 16 = 4 ∧ l.getD 0 0 % 16 * 4 < 20) ∨
    (20 ≤ l.length ∧ l.getD 0 0 / 16 = 4 ∧ 20 ≤ l.getD 0 0 % 16 * 4 ∧
      ((getP l p = 2 ∧ (l.length : Int) < l.getD 0 0 % 16 * 4) ∨
       (l.getD 0 0 % 16 * 4 ≤ l.length ∧
        ((getP l p = 3 ∧ n2 l 2 < l.getD 0 0 % 16 * 4) ∨
         (l.getD 0 0 % 16 * 4 ≤ n2 l 2 ∧
          ((p = false ∧ getP l p = 3 ∧ 1500 < n2 l 2) ∨
           (p = false ∧ n2 l 2 ≤ 1500 ∧
             ((getP l p = 2 ∧ (l.length : Int) < n2 l 2) ∨
              (n2 l 2 ≤ l.length ∧
               ((getP l p = 4 ∧ (sumOf (l.take (l.getD 0 0 % 16 * 4).toNat) != 0) = true) ∨
                ((sumOf (l.take (l.getD 0 0 % 16 * 4).toNat) != 0) = false ∧ getP l p = wholeE l))))) ∨
           (p = true ∧ getP l p = wholeE l))))))) := by
  cases p
  · have ep : getP l false = getE l := rfl
    rw [ep]
    rcases shape_cases l 1500 with ⟨h, h1⟩ | ⟨h, h1⟩ | ⟨h, h1⟩ | ⟨h, h1, h2, h3, h4⟩ | ⟨h, h1, h2, h3, h4, h5⟩ | ⟨h, h1, h2, h3, h4, h5, h6⟩ | ⟨h, h1, h2, h3, h4, h5, h6⟩
    · have e : getE l = 2 := by unfold getE; rw [h]; rfl
      exact .inl ⟨e, h1⟩
    · have e : getE l = 3 := by unfold getE; rw [h]; rfl
      exact .inr (.inl ⟨e, h1⟩)
    · have e : getE l = 3 := by unfold getE; rw [h]; rfl
      exact .inr (.inr (.inl ⟨e, h1⟩))
    · have e : getE l = 2 := by unfold getE; rw [h]; rfl
      exact .inr (.inr (.inr ⟨h1, h2, h3, .inl ⟨e, h4⟩⟩))
    · have e : getE l = 3 := by unfold getE; rw [h]; rfl
      exact .inr (.inr (.inr ⟨h1, h2, h3, .inr ⟨h4, .inl ⟨e, h5⟩⟩⟩))
    · have e : getE l = 3 := by unfold getE; rw [h]; rfl
      exact .inr (.inr (.inr ⟨h1, h2, h3, .inr ⟨h4, .inr ⟨h5, .inl ⟨rfl, e, h6⟩⟩⟩⟩))
    · rcases getE_cases l with ⟨h', _⟩ | ⟨_, _, _, _, h7, e⟩ | ⟨_, _, _, _, h7, h8, e⟩ | ⟨_, _, _, _, h7, h8, e⟩
      · omega
      · exact .inr (.inr (.inr ⟨h1, h2, h3, .inr ⟨h4, .inr ⟨h5, .inr (.inl ⟨rfl, h6, .inl ⟨e, h7⟩⟩)⟩⟩⟩))
      · exact .inr (.inr (.inr ⟨h1, h2, h3, .inr ⟨h4, .inr ⟨h5, .inr (.inl ⟨rfl, h6, .inr ⟨h7, .inl ⟨e, h8⟩⟩⟩)⟩⟩⟩))
      · exact .inr (.inr (.inr ⟨h1, h2, h3, .inr ⟨h4, .inr ⟨h5, .inr (.inl ⟨rfl, h6, .inr ⟨h7, .inr ⟨h8, e⟩⟩⟩)⟩⟩⟩))
  · have ep : getP l true = partE l := rfl
    rw [ep]
    rcases shape_cases l 65535 with ⟨h, h1⟩ | ⟨h, h1⟩ | ⟨h, h1⟩ | ⟨h, h1, h2, h3, h4⟩ | ⟨h, h1, h2, h3, h4, h5⟩ | ⟨h, h1, h2, h3, h4, h5, h6⟩ | ⟨h, h1, h2, h3, h4, h5, h6⟩
    · have e : partE l = 2 := by unfold partE; rw [h]; rfl
      exact .inl ⟨e, h1⟩
    · have e : partE l = 3 := by unfold partE; rw [h]; rfl
      exact .inr (.inl ⟨e, h1⟩)
    · have e : partE l = 3 := by unfold partE; rw [h]; rfl
      exact .inr (.inr (.inl ⟨e, h1⟩))
    · have e : partE l = 2 := by unfold partE; rw [h]; rfl
      exact .inr (.inr (.inr ⟨h1, h2, h3, .inl ⟨e, h4⟩⟩))
    · have e : partE l = 3 := by unfold partE; rw [h]; rfl
      exact .inr (.inr (.inr ⟨h1, h2, h3, .inr ⟨h4, .inl ⟨e, h5⟩⟩⟩))
    · omega
    · have e : partE l = wholeE l := by unfold partE; rw [h]; rfl
      exact .inr (.inr (.inr ⟨h1, h2, h3, .inr ⟨h4, .inr ⟨h5, .inr (.inr ⟨rfl, e⟩)⟩⟩⟩))
set_option maxRecDepth 100000 in
set_option maxHeartbeats 4000000 in
theorem rGet_any (l : List Int) (p : Bool) (A : Option Addr) (len c B : Nat) (w : World) (hr : Rd .u8 w B A len l) (hB : B ≤ w.heap.size) (hlc : len ≤ c) (hcm : c ≤ 9223372036854775807) (hl : len ≤ 100000) :
    Calls Tryz.prog 26 #[.slice A len c, .bool p] w fun e w' => e = .returned (.tuple #[(hdIf l (getP l p)).val, .int .i64 (getP l p)]) ∧ Below w.heap.size w w' := by
  have hnb : 20 ≤ len → 0 ≤ n2 l 2 ∧ n2 l 2 ≤ 65535 := fun h => n2_bd (fun x hx => inr_u8 (hr.rng x hx)) (i := 2) (by rw [hr.len]; omega)
  have hcs := getP_cases l p (by rw [hr.len]; omega)
  rw [hr.len] at hcs
  obtain ⟨E, hE⟩ : ∃ E, E = getP l p := ⟨_, rfl⟩
  rw [← hE] at hcs ⊢
  clear hE
  by_cases h20 : len < 20
  · have e : Hid (E = 2) := by rcases hcs with h | h | h | h <;> first | exact h.1 | (exact absurd h.2.1 (by omega)) | (exact absurd h.1 (by omega))
    clear hcs hnb
    go_enter Tryz.func26, Tryz.ntmps26
    go_wp2
    exact bodyPost_ret (v := .tuple #[.agg #[.int .i64 0, .int .i64 0, .int .i64 0, .int .i64 0, .int .u32 0, .int .u32 0], .int .i64 2]) (by simp [results, Tryz.results26, go_sem]) rfl ⟨by rw [e.out]; rfl, by (repeat (first | (with_reducible exact (bel_alloc _ _)) | (with_reducible refine Below.setCell ?_ ?_ _; rotate_left; · (first | omega | (simp; done) | (simp; omega) | (have hsz := Below.size (bel_alloc _ _); omega) | (have hsz := Below.size (bel_alloc _ _); simp; omega))) | (with_reducible refine Below.alloc ?_ ?_ _; rotate_left; · (first | omega | (simp; done) | (simp; omega) | (have hsz := Below.size (bel_alloc _ _); omega) | (have hsz := Below.size (bel_alloc _ _); simp; omega))) | (with_reducible refine below_drewN ?_ _) | (with_reducible refine Below.drew ?_)))⟩
  replace hcs := hcs.resolve_left (fun h => h20 h.2)
  replace h20 : 20 ≤ len := by omega
  replace hnb := hnb h20
  obtain ⟨b, o, rfl⟩ := hr.form (by omega)
  obtain ⟨c0, x0⟩ := hr.cell0 (by omega)
  replace x0 := inr_u8 x0
  have hrB := hr.more hB
  have rd2 := hrB.sub 2 2 (by omega)
  have rd6 := hrB.sub 6 2 (by omega)
  have hb6 := n2_bd (fun x hx => inr_u8 (hr.rng x hx)) (i := 6) (by rw [hr.len]; omega)
  have hwc := wholeE_cases l
  unfold n2 at hb6 hwc
  obtain ⟨f0, hf0⟩ : ∃ x, x = l.getD 0 0 := ⟨_, rfl⟩
  obtain ⟨N, hNe⟩ : ∃ x, x = n2 l 2 := ⟨_, rfl⟩
  obtain ⟨N6, hN6⟩ : ∃ x, x = numOf (seg l 6 2) := ⟨_, rfl⟩
  rw [← hN6] at hb6 hwc
  rw [← hf0] at hcs c0 x0
  rw [← hNe] at hcs hnb
  have hN2 : Hid (N = numOf (seg l 2 2)) := hNe
  replace hf0 := Lib.hid hf0
  replace hN6 := Lib.hid hN6
  have hb := cell_lt c0
  simp only at hb
  have hb0 : b ≠ w.heap.size := by omega
  obtain ⟨c8, x8⟩ := hr.cell 8 (by omega)
  obtain ⟨c9, x9⟩ := hr.cell 9 (by omega)
  replace x8 := inr_u8 x8
  replace x9 := inr_u8 x9
  obtain ⟨f8, hf8⟩ : ∃ x, x = l.getD 8 0 := ⟨_, rfl⟩
  obtain ⟨f9, hf9⟩ : ∃ x, x = l.getD 9 0 := ⟨_, rfl⟩
  rw [← hf8] at c8 x8
  rw [← hf9] at c9 x9
  replace hf8 := Lib.hid hf8
  replace hf9 := Lib.hid hf9
  have rd12 := hrB.sub 12 4 (by omega)
  have rd16 := hrB.sub 16 4 (by omega)
  have hb12 := n4_bd (fun x hx => inr_u8 (hr.rng x hx)) (i := 12) (by rw [hr.len]; omega)
  have hb16 := n4_bd (fun x hx => inr_u8 (hr.rng x hx)) (i := 16) (by rw [hr.len]; omega)
  unfold n4 at hb12 hb16
  obtain ⟨N12, hN12⟩ : ∃ x, x = numOf (seg l 12 4) := ⟨_, rfl⟩
  obtain ⟨N16, hN16⟩ : ∃ x, x = numOf (seg l 16 4) := ⟨_, rfl⟩
  rw [← hN12] at hb12
  rw [← hN16] at hb16
  replace hN12 := Lib.hid hN12
  replace hN16 := Lib.hid hN16
  obtain ⟨F, hF⟩ : ∃ F, F = four (w.alloc (Obj.cells #[.int .i64 0, .int .i64 0, .int .i64 0, .int .i64 0, .int .u32 0, .int .u32 0] 67)) (w.alloc (Obj.cells #[.int .i64 (f0 % 16 * 4), .int .i64 N, .int .i64 f8, .int .i64 f9, .int .u32 N12, .int .u32 N16] 67)) w w := ⟨_, rfl⟩
  have FR : ∀ t, Below w.heap.size w (F t) := fun t => by
    rw [hF]
    refine four_all (p := fun w' => Below w.heap.size w w') ?_ ?_ ?_ ?_ t <;> first | exact Below.refl _ _ | exact bel_alloc _ _
  have Fc : ∀ p : Addr, ∀ v, w.cell? p = some v → ∀ t, (F t).cell? p = some v := by
    intro p v hp t
    have := cell_lt hp
    rw [hF]
    refine four_all (p := fun w' => w'.cell? p = some v) ?_ ?_ ?_ ?_ t <;> simp [World.cell?_alloc_lt, this, hp, Nat.lt_succ_of_lt]
  have F8 := Fc _ _ c8
  have F9 := Fc _ _ c9
  clear Fc
  replace FR := Lib.hid FR
  replace hF := Lib.hid hF
  have hand := i64_and3FFF N6 hb6
  replace hcs := Lib.hid hcs
  replace hwc := Lib.hid hwc
  clear hNe
  go_enter Tryz.func26, Tryz.ntmps26
  go_wp2
  go_quiet ((go_at_call 55; exact quiet_l (Num_at hN2 (by omega) ((rd2.below (bel_alloc _ _)).drewN _))))
  trace "quiet"
  rcases hcs.out with ⟨e, _, h1, h2⟩ | ⟨e, _, h1, h2⟩ | ⟨_, h1, h2, hcs⟩
  · replace e := Lib.hid e
    go_wp2
    exact bodyPost_ret (v := .tuple #[.agg #[.int .i64 0, .int .i64 0, .int .i64 0, .int .i64 0, .int .u32 0, .int .u32 0], .int .i64 3]) (by simp [results, Tryz.results26, go_sem]) rfl ⟨by rw [e.out]; rfl, by (repeat (first | (with_reducible exact (bel_alloc _ _)) | (with_reducible refine Below.setCell ?_ ?_ _; rotate_left; · (first | omega | (simp; done) | (simp; omega) | (have hsz := Below.size (bel_alloc _ _); omega) | (have hsz := Below.size (bel_alloc _ _); simp; omega))) | (with_reducible refine Below.alloc ?_ ?_ _; rotate_left; · (first | omega | (simp; done) | (simp; omega) | (have hsz := Below.size (bel_alloc _ _); omega) | (have hsz := Below.size (bel_alloc _ _); simp; omega))) | (with_reducible refine below_drewN ?_ _) | (with_reducible refine Below.drew ?_)))⟩
  · replace e := Lib.hid e
    go_wp2
    exact bodyPost_ret (v := .tuple #[.agg #[.int .i64 0, .int .i64 0, .int .i64 0, .int .i64 0, .int .u32 0, .int .u32 0], .int .i64 3]) (by simp [results, Tryz.results26, go_sem]) rfl ⟨by rw [e.out]; rfl, by (repeat (first | (with_reducible exact (bel_alloc _ _)) | (with_reducible refine Below.setCell ?_ ?_ _; rotate_left; · (first | omega | (simp; done) | (simp; omega) | (have hsz := Below.size (bel_alloc _ _); omega) | (have hsz := Below.size (bel_alloc _ _); simp; omega))) | (with_reducible refine Below.alloc ?_ ?_ _; rotate_left; · (first | omega | (simp; done) | (simp; omega) | (have hsz := Below.size (bel_alloc _ _); omega) | (have hsz := Below.size (bel_alloc _ _); simp; omega))) | (with_reducible refine below_drewN ?_ _) | (with_reducible refine Below.drew ?_)))⟩
  rcases hcs with ⟨e, h3⟩ | ⟨h3, hcs⟩
  · replace e := Lib.hid e
    go_wp2
    exact bodyPost_ret (v := .tuple #[.agg #[.int .i64 0, .int .i64 0, .int .i64 0, .int .i64 0, .int .u32 0, .int .u32 0], .int .i64 2]) (by simp [results, Tryz.results26, go_sem]) rfl ⟨by rw [e.out]; rfl, by (repeat (first | (with_reducible exact (bel_alloc _ _)) | (with_reducible refine Below.setCell ?_ ?_ _; rotate_left; · (first | omega | (simp; done) | (simp; omega) | (have hsz := Below.size (bel_alloc _ _); omega) | (have hsz := Below.size (bel_alloc _ _); simp; omega))) | (with_reducible refine Below.alloc ?_ ?_ _; rotate_left; · (first | omega | (simp; done) | (simp; omega) | (have hsz := Below.size (bel_alloc _ _); omega) | (have hsz := Below.size (bel_alloc _ _); simp; omega))) | (with_reducible refine below_drewN ?_ _) | (with_reducible refine Below.drew ?_)))⟩
  rcases hcs with ⟨e, h4⟩ | ⟨h4, hcs⟩
  · replace e := Lib.hid e
    go_wp2
    exact bodyPost_ret (v := .tuple #[.agg #[.int .i64 0, .int .i64 0, .int .i64 0, .int .i64 0, .int .u32 0, .int .u32 0], .int .i64 3]) (by simp [results, Tryz.results26, go_sem]) rfl ⟨by rw [e.out]; rfl, by (repeat (first | (with_reducible exact (bel_alloc _ _)) | (with_reducible refine Below.setCell ?_ ?_ _; rotate_left; · (first | omega | (simp; done) | (simp; omega) | (have hsz := Below.size (bel_alloc _ _); omega) | (have hsz := Below.size (bel_alloc _ _); simp; omega))) | (with_reducible refine Below.alloc ?_ ?_ _; rotate_left; · (first | omega | (simp; done) | (simp; omega) | (have hsz := Below.size (bel_alloc _ _); omega) | (have hsz := Below.size (bel_alloc _ _); simp; omega))) | (with_reducible refine below_drewN ?_ _) | (with_reducible refine Below.drew ?_)))⟩
  rcases hcs with ⟨rfl, e, h5⟩ | ⟨rfl, h5, hcs⟩ | ⟨rfl, e⟩
  · replace e := Lib.hid e
    go_wp2
    exact bodyPost_ret (v := .tuple #[.agg #[.int .i64 0, .int .i64 0, .int .i64 0, .int .i64 0, .int .u32 0, .int .u32 0], .int .i64 3]) (by simp [results, Tryz.results26, go_sem]) rfl ⟨by rw [e.out]; rfl, by (repeat (first | (with_reducible exact (bel_alloc _ _)) | (with_reducible refine Below.setCell ?_ ?_ _; rotate_left; · (first | omega | (simp; done) | (simp; omega) | (have hsz := Below.size (bel_alloc _ _); omega) | (have hsz := Below.size (bel_alloc _ _); simp; omega))) | (with_reducible refine Below.alloc ?_ ?_ _; rotate_left; · (first | omega | (simp; done) | (simp; omega) | (have hsz := Below.size (bel_alloc _ _); omega) | (have hsz := Below.size (bel_alloc _ _); simp; omega))) | (with_reducible refine below_drewN ?_ _) | (with_reducible refine Below.drew ?_)))⟩
  · rcases hcs with ⟨e, h6⟩ | ⟨h6, hcs⟩
    · replace e := Lib.hid e
      go_wp2
      exact bodyPost_ret (v := .tuple #[.agg #[.int .i64 0, .int .i64 0, .int .i64 0, .int .i64 0, .int .u32 0, .int .u32 0], .int .i64 2]) (by simp [results, Tryz.results26, go_sem]) rfl ⟨by rw [e.out]; rfl, by (repeat (first | (with_reducible exact (bel_alloc _ _)) | (with_reducible refine Below.setCell ?_ ?_ _; rotate_left; · (first | omega | (simp; done) | (simp; omega) | (have hsz := Below.size (bel_alloc _ _); omega) | (have hsz := Below.size (bel_alloc _ _); simp; omega))) | (with_reducible refine Below.alloc ?_ ?_ _; rotate_left; · (first | omega | (simp; done) | (simp; omega) | (have hsz := Below.size (bel_alloc _ _); omega) | (have hsz := Below.size (bel_alloc _ _); simp; omega))) | (with_reducible refine below_drewN ?_ _) | (with_reducible refine Below.drew ?_)))⟩
    obtain ⟨k, hk⟩ : ∃ k : Nat, f0 % 16 * 4 = (k : Int) := ⟨(f0 % 16 * 4).toNat, by omega⟩
    have hrk := hrB.take (m := k) (by omega)
    obtain ⟨S, hS⟩ : ∃ S, S = sumOf (l.take k) := ⟨_, rfl⟩
    rw [hk, Int.toNat_natCast, ← hS] at hcs
    have hof : ∀ W', Rd .u8 W' w.heap.size (some ⟨b, o, none⟩) k (l.take k) → Calls Tryz.prog 56 #[.slice (some ⟨b, o, none⟩) k c] W' fun e w' => e = .returned (.int .u16 S) ∧ W' = w' := fun W' hr => hS ▸ rOf_any (l.take k) _ k c _ W' (by omega) hr
    replace hF := hF.out
    rw [hk] at hF
    replace hF := Lib.hid hF
    replace hS := Lib.hid hS
    replace hof := Lib.hid hof
    rcases hcs with ⟨e, h7⟩ | ⟨h7, e⟩
    · replace e := Lib.hid e
      go_wp2_with (go_at_call 56; refine (hof.out _ ((hrk.below (bel_alloc _ _)).drewN _)).mono ?_; rintro e w' ⟨rfl, rfl⟩)
      exact bodyPost_ret (v := .tuple #[.agg #[.int .i64 0, .int .i64 0, .int .i64 0, .int .i64 0, .int .u32 0, .int .u32 0], .int .i64 4]) (by simp [results, Tryz.results26, go_sem]) rfl ⟨by rw [e.out]; rfl, by (repeat (first | (with_reducible exact (bel_alloc _ _)) | (with_reducible refine Below.setCell ?_ ?_ _; rotate_left; · (first | omega | (simp; done) | (simp; omega) | (have hsz := Below.size (bel_alloc _ _); omega) | (have hsz := Below.size (bel_alloc _ _); simp; omega))) | (with_reducible refine Below.alloc ?_ ?_ _; rotate_left; · (first | omega | (simp; done) | (simp; omega) | (have hsz := Below.size (bel_alloc _ _); omega) | (have hsz := Below.size (bel_alloc _ _); simp; omega))) | (with_reducible refine below_drewN ?_ _) | (with_reducible refine Below.drew ?_)))⟩
    rcases hwc.out with ⟨ew, hw⟩ | ⟨ew, hw⟩
    case inr =>
      rw [ew] at e
      replace e := Lib.hid e
      clear ew
      go_wp2_with (first | (go_at_call 55; refine (Num_at hN6 (by omega) ((rd6.below (bel_alloc _ _)).drewN _)).mono ?_; rintro e w' ⟨rfl, rfl⟩) | (go_at_call 56; refine (hof.out _ ((hrk.below (bel_alloc _ _)).drewN _)).mono ?_; rintro e w' ⟨rfl, rfl⟩))
      exact bodyPost_ret (v := .tuple #[.agg #[.int .i64 0, .int .i64 0, .int .i64 0, .int .i64 0, .int .u32 0, .int .u32 0], .int .i64 5]) (by simp [results, Tryz.results26, go_sem]) rfl ⟨by rw [e.out]; rfl, by (repeat (first | (with_reducible exact (bel_alloc _ _)) | (with_reducible refine Below.setCell ?_ ?_ _; rotate_left; · (first | omega | (simp; done) | (simp; omega) | (have hsz := Below.size (bel_alloc _ _); omega) | (have hsz := Below.size (bel_alloc _ _); simp; omega))) | (with_reducible refine Below.alloc ?_ ?_ _; rotate_left; · (first | omega | (simp; done) | (simp; omega) | (have hsz := Below.size (bel_alloc _ _); omega) | (have hsz := Below.size (bel_alloc _ _); simp; omega))) | (with_reducible refine below_drewN ?_ _) | (with_reducible refine Below.drew ?_)))⟩
    rw [ew] at e
    replace e := Lib.hid e
    clear ew
    go_wp2_with (first | (go_at_call 55; refine (Num_at hN6 (by omega) ((rd6.below (bel_alloc _ _)).drewN _)).mono ?_; rintro e w' ⟨rfl, rfl⟩) | (go_at_call 56; refine (hof.out _ ((hrk.below (bel_alloc _ _)).drewN _)).mono ?_; rintro e w' ⟨rfl, rfl⟩))
    try replace hk := Lib.hid hk
    refine wp_region_E (cls1 19 F) (by kernel_rfl) (by kernel_rfl) ⟨nq + 1, by rw [hF.out]; rfl⟩ ?_
    refine wpE_qs (D := dom2 F) (fun _ _ h => h.dom) 12 _ _ _ (by kernel_rfl) (by simp) (fun i h1 h2 _ _ h => h.keep (by omega) (by omega)) ?_
    unfold dom2
    simp only [List.take_succ_cons, List.take_zero, List.drop_succ_cons, List.drop_zero]
    repeat (first
      | go_big_quiet_skip
      | (go_big_quiet_want; go_big_quiet_op; go_big_quiet_on))
    refine wpQuiet_nil ?_
    refine wpE_do (by kernel_rfl) (.int .i64 N12) (fun K hK => ⟨fun listed w' hrd hC => ?_, ?_⟩)
    · obtain ⟨t, m, rfl⟩ := hC.form
      go_simp
      refine (Num_at hN12 (by omega) ((rd12.below (FR.out t)).drewN m)).mono ?_
      rintro e w' ⟨rfl, rfl⟩; exact ⟨rfl, hC.keep (by omega) (by omega)⟩
    go_simp; refine hK _ ?_; clear hK K
    refine wpE_qs (D := dom2 F) (fun _ _ h => h.dom) 3 _ _ _ (by kernel_rfl) (by simp) (fun i h1 h2 _ _ h => h.keep (by omega) (by omega)) ?_
    unfold dom2
    simp only [List.take_succ_cons, List.take_zero, List.drop_succ_cons, List.drop_zero]
    repeat (first
      | go_big_quiet_skip
      | (go_big_quiet_want; go_big_quiet_op; go_big_quiet_on))
    refine wpQuiet_nil ?_
    refine wpE_do (by kernel_rfl) (.int .i64 N16) (fun K hK => ⟨fun listed w' hrd hC => ?_, ?_⟩)
    · obtain ⟨t, m, rfl⟩ := hC.form
      go_simp
      refine (Num_at hN16 (by omega) ((rd16.below (FR.out t)).drewN m)).mono ?_
      rintro e w' ⟨rfl, rfl⟩; exact ⟨rfl, hC.keep (by omega) (by omega)⟩
    go_simp; refine hK _ ?_; clear hK K
    refine wpE_qs (D := dom2 F) (fun _ _ h => h.dom) 2 _ _ _ (by kernel_rfl) (by simp) (fun i h1 h2 _ _ h => h.keep (by omega) (by omega)) ?_
    unfold dom2
    simp only [List.take_succ_cons, List.take_zero, List.drop_succ_cons, List.drop_zero]
    repeat (first
      | go_big_quiet_skip
      | (go_big_quiet_want; go_big_quiet_op; go_big_quiet_on))
    refine wpQuiet_nil ?_
    refine wpE_do (by kernel_rfl) (undef) (fun K hK => ⟨fun listed w' hrd hC => ?_, ?_⟩)
    · obtain ⟨m, rfl⟩ := cls1.at1 (F := F) hC hrd.1
      have hnx := cls1.to1 (F := F) (i := 19) hrd.1 m
      replace hF := hF.out
      clear hC
      subst hF
      simp only [four] at hnx ⊢
      go_simp
      exact ⟨rfl, hnx⟩
    go_simp; refine hK _ ?_; clear hK K
    refine wpE_qs (D := dom2 F) (fun _ _ h => h.dom) 1 _ _ _ (by kernel_rfl) (by simp) (fun i h1 h2 _ _ h => h.keep (by omega) (by omega)) ?_
    unfold dom2
    simp only [List.take_succ_cons, List.take_zero, List.drop_succ_cons, List.drop_zero]
    repeat (first
      | go_big_quiet_skip
      | (go_big_quiet_want; go_big_quiet_op; go_big_quiet_on))
    refine wpQuiet_nil ?_
    intro w' hw'
    obtain ⟨m, rfl⟩ := cls1.end_ (F := F) hw' (by kernel_rfl)
    replace hF := hF.out
    clear hw'
    subst hF
    simp only [four]
    go_wp2
    exact bodyPost_ret (v := .tuple #[.agg #[.int .i64 (k : Int), .int .i64 N, .int .i64 f8, .int .i64 f9, .int .u32 N12, .int .u32 N16], .int .i64 0]) (by simp [results, Tryz.results26, go_sem]) rfl
      ⟨by rw [e.out]; unfold hdIf hdOf Hd.val n4 n2; rw [if_pos rfl, hN12.out, hN16.out, hf8.out, hf9.out, ← hk.out, hf0.out, hN2.out], by (repeat (first | (with_reducible exact (bel_alloc _ _)) | (with_reducible refine Below.setCell ?_ ?_ _; rotate_left; · (first | omega | (simp; done) | (simp; omega) | (have hsz := Below.size (bel_alloc _ _); omega) | (have hsz := Below.size (bel_alloc _ _); simp; omega))) | (with_reducible refine Below.alloc ?_ ?_ _; rotate_left; · (first | omega | (simp; done) | (simp; omega) | (have hsz := Below.size (bel_alloc _ _); omega) | (have hsz := Below.size (bel_alloc _ _); simp; omega))) | (with_reducible refine below_drewN ?_ _) | (with_reducible refine Below.drew ?_)))⟩
  · by_cases h15 : 1500 < N <;> by_cases hlN : (len : Int) < N
    all_goals
      rcases hwc.out with ⟨ew, hw⟩ | ⟨ew, hw⟩
      case inr =>
        rw [ew] at e
        replace e := Lib.hid e
        clear ew
        go_wp2_with (first | (go_at_call 55; refine (Num_at hN6 (by omega) ((rd6.below (bel_alloc _ _)).drewN _)).mono ?_; rintro e w' ⟨rfl, rfl⟩) | fail)
        exact bodyPost_ret (v := .tuple #[.agg #[.int .i64 0, .int .i64 0, .int .i64 0, .int .i64 0, .int .u32 0, .int .u32 0], .int .i64 5]) (by simp [results, Tryz.results26, go_sem]) rfl ⟨by rw [e.out]; rfl, by (repeat (first | (with_reducible exact (bel_alloc _ _)) | (with_reducible refine Below.setCell ?_ ?_ _; rotate_left; · (first | omega | (simp; done) | (simp; omega) | (have hsz := Below.size (bel_alloc _ _); omega) | (have hsz := Below.size (bel_alloc _ _); simp; omega))) | (with_reducible refine Below.alloc ?_ ?_ _; rotate_left; · (first | omega | (simp; done) | (simp; omega) | (have hsz := Below.size (bel_alloc _ _); omega) | (have hsz := Below.size (bel_alloc _ _); simp; omega))) | (with_reducible refine below_drewN ?_ _) | (with_reducible refine Below.drew ?_)))⟩
      rw [ew] at e
      replace e := Lib.hid e
      clear ew
      go_wp2_with (first | (go_at_call 55; refine (Num_at hN6 (by omega) ((rd6.below (bel_alloc _ _)).drewN _)).mono ?_; rintro e w' ⟨rfl, rfl⟩) | fail)
      try replace hk := Lib.hid hk
      refine wp_region_E (cls1 19 F) (by kernel_rfl) (by kernel_rfl) ⟨nq + 1, by rw [hF.out]; rfl⟩ ?_
      refine wpE_qs (D := dom2 F) (fun _ _ h => h.dom) 12 _ _ _ (by kernel_rfl) (by simp) (fun i h1 h2 _ _ h => h.keep (by omega) (by omega)) ?_
      unfold dom2
      simp only [List.take_succ_cons, List.take_zero, List.drop_succ_cons, List.drop_zero]
      repeat (first
        | go_big_quiet_skip
        | (go_big_quiet_want; go_big_quiet_op; go_big_quiet_on))
      refine wpQuiet_nil ?_
      refine wpE_do (by kernel_rfl) (.int .i64 N12) (fun K hK => ⟨fun listed w' hrd hC => ?_, ?_⟩)
      · obtain ⟨t, m, rfl⟩ := hC.form
        go_simp
        refine (Num_at hN12 (by omega) ((rd12.below (FR.out t)).drewN m)).mono ?_
        rintro e w' ⟨rfl, rfl⟩; exact ⟨rfl, hC.keep (by omega) (by omega)⟩
      go_simp; refine hK _ ?_; clear hK K
      refine wpE_qs (D := dom2 F) (fun _ _ h => h.dom) 3 _ _ _ (by kernel_rfl) (by simp) (fun i h1 h2 _ _ h => h.keep (by omega) (by omega)) ?_
      unfold dom2
      simp only [List.take_succ_cons, List.take_zero, List.drop_succ_cons, List.drop_zero]
      repeat (first
        | go_big_quiet_skip
        | (go_big_quiet_want; go_big_quiet_op; go_big_quiet_on))
      refine wpQuiet_nil ?_
      refine wpE_do (by kernel_rfl) (.int .i64 N16) (fun K hK => ⟨fun listed w' hrd hC => ?_, ?_⟩)
      · obtain ⟨t, m, rfl⟩ := hC.form
        go_simp
        refine (Num_at hN16 (by omega) ((rd16.below (FR.out t)).drewN m)).mono ?_
        rintro e w' ⟨rfl, rfl⟩; exact ⟨rfl, hC.keep (by omega) (by omega)⟩
      go_simp; refine hK _ ?_; clear hK K
      refine wpE_qs (D := dom2 F) (fun _ _ h => h.dom) 2 _ _ _ (by kernel_rfl) (by simp) (fun i h1 h2 _ _ h => h.keep (by omega) (by omega)) ?_
      unfold dom2
      simp only [List.take_succ_cons, List.take_zero, List.drop_succ_cons, List.drop_zero]
      repeat (first
        | go_big_quiet_skip
        | (go_big_quiet_want; go_big_quiet_op; go_big_quiet_on))
      refine wpQuiet_nil ?_
      refine wpE_do (by kernel_rfl) (undef) (fun K hK => ⟨fun listed w' hrd hC => ?_, ?_⟩)
      · obtain ⟨m, rfl⟩ := cls1.at1 (F := F) hC hrd.1
        have hnx := cls1.to1 (F := F) (i := 19) hrd.1 m
        replace hF := hF.out
        clear hC
        subst hF
        simp only [four] at hnx ⊢
        go_simp
        exact ⟨rfl, hnx⟩
      go_simp; refine hK _ ?_; clear hK K
      refine wpE_qs (D := dom2 F) (fun _ _ h => h.dom) 1 _ _ _ (by kernel_rfl) (by simp) (fun i h1 h2 _ _ h => h.keep (by omega) (by omega)) ?_
      unfold dom2
      simp only [List.take_succ_cons, List.take_zero, List.drop_succ_cons, List.drop_zero]
      repeat (first
        | go_big_quiet_skip
        | (go_big_quiet_want; go_big_quiet_op; go_big_quiet_on))
      refine wpQuiet_nil ?_
      intro w' hw'
      obtain ⟨m, rfl⟩ := cls1.end_ (F := F) hw' (by kernel_rfl)
      replace hF := hF.out
      clear hw'
      subst hF
      simp only [four]
      go_wp2
      exact bodyPost_ret (v := .tuple #[.agg #[.int .i64 (f0 % 16 * 4), .int .i64 N, .int .i64 f8, .int .i64 f9, .int .u32 N12, .int .u32 N16], .int .i64 0]) (by simp [results, Tryz.results26, go_sem]) rfl
        ⟨by rw [e.out]; unfold hdIf hdOf Hd.val n4 n2; rw [if_pos rfl, hN12.out, hN16.out, hf8.out, hf9.out, hf0.out, hN2.out], by (repeat (first | (with_reducible exact (bel_alloc _ _)) | (with_reducible refine Below.setCell ?_ ?_ _; rotate_left; · (first | omega | (simp; done) | (simp; omega) | (have hsz := Below.size (bel_alloc _ _); omega) | (have hsz := Below.size (bel_alloc _ _); simp; omega))) | (with_reducible refine Below.alloc ?_ ?_ _; rotate_left; · (first | omega | (simp; done) | (simp; omega) | (have hsz := Below.size (bel_alloc _ _); omega) | (have hsz := Below.size (bel_alloc _ _); simp; omega))) | (with_reducible refine below_drewN ?_ _) | (with_reducible refine Below.drew ?_)))⟩
end Go.Proofs.YtbckoohljkmahaaGreat
namespace Go.Proofs.YtbckoohljkmahaaGreat
set_option linter.unusedVariables false
set_option linter.unusedSimpArgs false
open Go.RowKit
end Go.Proofs.YtbckoohljkmahaaGreat
namespace Go.Proofs.YtbckoohljkmahaaGreat
set_option linter.unusedVariables false
set_option linter.unusedSimpArgs false
open Go.RowKit
def rPutRes (w : World) (ttl proto src dst : Int) (l : List Int) (e : Ending) (w' : World) : Prop :=
  ∃ v', e = .returned (.tuple #[v', .bool true]) ∧ Own .u8 5 w' w.heap.size v' (putL ttl proto src dst l) ∧ Below w.heap.size w w'
theorem hd20_bd (ttl proto src dst n s : Int) (ht : 0 ≤ ttl ∧ ttl ≤ 255) (hp : 0 ≤ proto ∧ proto ≤ 255) (hs : 0 ≤ src ∧ src ≤ 4294967295) (hd : 0 ≤ dst ∧ dst ≤ 4294967295) (hn : 0 ≤ n ∧ n ≤ 65535) (hss : 0 ≤ s ∧ s ≤ 65535) : ∀ x, x ∈ hd20 ttl proto src dst n s → 0 ≤ x ∧ x ≤ 255 := by
  intro x hx
  simp only [hd20, List.mem_cons, List.not_mem_nil, or_false] at hx
  omega
set_option maxRecDepth 100000 in
set_option maxHeartbeats 2000000 in
theorem rPut_any (size len_ ttl proto src dst : Int) (l : List Int) (A : Option Addr) (len c B : Nat) (w : World) (hr : Rd .u8 w B A len l) (hB : B ≤ w.heap.size) (ht : 0 ≤ ttl ∧ ttl ≤ 255) (hp : 0 ≤ proto ∧ proto ≤ 255) (hs : 0 ≤ src ∧ src ≤ 4294967295) (hd : 0 ≤ dst ∧ dst ≤ 4294967295) (hl : len ≤ 1480) :
    Calls Tryz.prog 30 #[.agg #[.int .i64 size, .int .i64 len_, .int .i64 ttl, .int .i64 proto, .int .u32 src, .int .u32 dst], .slice A len c] w (rPutRes w ttl proto src dst l) := by
  obtain ⟨i0, hi, hz0, hz1, hz2⟩ := info_parts info_u8_
  have d1 : decide (ttl < 0) = false := by simp; omega
  have d2 : decide (255 < ttl) = false := by simp; omega
  have d3 : decide (proto < 0) = false := by simp; omega
  have d4 : decide (255 < proto) = false := by simp; omega
  have d5 : decide (1480 < (len : Int)) = false := by simp; omega
  have hlen := Lib.hid hr.len
  have hrB := hr.more hB
  obtain ⟨W, hW⟩ : ∃ W, W = w.alloc (.cells #[.int .i64 size, .int .i64 len_, .int .i64 ttl, .int .i64 proto, .int .u32 src, .int .u32 dst] 67) := ⟨_, rfl⟩
  have hbd := hd20_bd ttl proto src dst (20 + len) 0 ht hp hs hd (by omega) (by omega)
  have own0 := Own.new .u8 W 5 w.heap.size (by rw [hW]; simp) (hd20 ttl proto src dst (20 + len) 0) (fun x hx => u8_inr (hbd x hx)) ((hd20 ttl proto src dst (20 + len) 0).map (Value.int .u8)).toArray rfl 20 rfl (by show 20 ≤ maxLen; decide)
  have bel0 : Below w.heap.size w (W.alloc (.cells ((hd20 ttl proto src dst (20 + len) 0).map (Value.int .u8)).toArray 5)) := by rw [hW]; exact (bel_alloc _ _).alloc (by simp) _
  obtain ⟨L, hL⟩ : ∃ L, L = hd20 ttl proto src dst (20 + len) 0 := ⟨_, rfl⟩
  have hL20 : L.length = 20 := by rw [hL]; rfl
  obtain ⟨W2, hW2⟩ : ∃ W2, W2 = W.alloc (.cells ((hd20 ttl proto src dst (20 + len) 0).map (Value.int .u8)).toArray 5) := ⟨_, rfl⟩
  have hWs : W.heap.size = w.heap.size + 1 := by rw [hW]; simp
  rw [← hW2] at own0 bel0
  rw [← hL, hWs] at own0
  have rd7 := own0.rd hL20
  have hS0 := (sb_bd L (fun y hy => inr_u8 (own0.rng y hy)) true).1
  have hSb : 0 ≤ sumOf L ∧ sumOf L ≤ 65535 := by have := fo_bd hS0; unfold sumOf; omega
  obtain ⟨S, hS⟩ : ∃ S, S = sumOf L := ⟨_, rfl⟩
  rw [← hS] at hSb
  have hof := fun W' B' h => rOf_any L (some ⟨w.heap.size + 1, 0, none⟩) 20 20 B' W' (by omega) h
  rw [← hS] at hof
  obtain ⟨c10, f10, _⟩ := own0.at_ hL20 (j := 10) (by omega)
  obtain ⟨c11, f11, _⟩ := own0.at_ hL20 (j := 11) (by omega)
  have hSw : IntKind.u8.wrap S = S % 256 := IntKind.wrap_u8' S
  have own8 := (own0.set hL20 10 (x := S / 256) (u8_inr (by omega))).set (by rw [List.length_set]; exact hL20) 11 (x := S % 256) (u8_inr (by omega))
  have hgw : w.heap.size ≤ w.heap.size + 1 := by omega
  have hl8 : Hid (((L.set 10 (S / 256)).set 11 (S % 256)).length = 20) := by show _ = _; simp [hL20]
  have rd8 := hrB.below ((bel0.setCell (p := ⟨w.heap.size + 1, 10, none⟩) hgw (.int .u8 (S / 256))).setCell (p := ⟨w.heap.size + 1, 11, none⟩) hgw (.int .u8 (S % 256)))
  have bz8 : w.heap.size ≤ W2.heap.size := bel0.size
  have hZ : Hid (W2 = (w.alloc (.cells #[.int .i64 size, .int .i64 len_, .int .i64 ttl, .int .i64 proto, .int .u32 src, .int .u32 dst] 67)).alloc (.cells ((hd20 ttl proto src dst (20 + len) 0).map (Value.int .u8)).toArray 5)) := by show _ = _; rw [hW2, hW]
  clear hW2 hW hWs hbd
  replace hof := Lib.hid hof
  replace hS := Lib.hid hS
  replace hL := Lib.hid hL
  replace hL20 := Lib.hid hL20
  replace c10 := Lib.hid c10
  replace c11 := Lib.hid c11
  replace f10 := Lib.hid f10
  replace f11 := Lib.hid f11
  replace hSw := Lib.hid hSw
  go_enter Tryz.func30, Tryz.ntmps30
  go_wp2_with fail
  have e : (w.alloc (.cells #[.int .i64 size, .int .i64 len_, .int .i64 ttl, .int .i64 proto, .int .u32 src, .int .u32 dst] 67)).alloc (.cells #[.int .u8 69, .int .u8 0, .int .u8 ((20 + (len : Int)) / 256), .int .u8 ((20 + (len : Int)) % 256), .int .u8 0, .int .u8 0, .int .u8 64, .int .u8 0, .int .u8 ttl, .int .u8 proto, .int .u8 0, .int .u8 0, .int .u8 (src / 16777216), .int .u8 (src / 65536 % 256), .int .u8 (src / 256 % 256), .int .u8 (src % 256), .int .u8 (dst / 16777216), .int .u8 (dst / 65536 % 256), .int .u8 (dst / 256 % 256), .int .u8 (dst % 256)] 5) = W2 := hZ.out.symm
  rw [e]
  clear e hZ
  refine (hof.out _ _ rd7).mono ?_
  rintro e w' ⟨rfl, rfl⟩
  replace c10 := c10.out
  replace c11 := c11.out
  replace f10 := f10.out
  replace f11 := f11.out
  replace hSw := hSw.out
  go_wp2_with (at_builtin; go_loud (refine wpList_app _ rfl (.tmp 88) (.tmp 89) 22 rfl .u8 w.heap.size 5 i0 (.int .u8 0) 1 Tryz.underlying22 hi hz0 hz1 hz2 rfl _ (by rfl) _ own8 w.heap.size _ _ _ (by rfl) l rd8 (by rw [hl8.out]; omega) (by decide) (by simp; omega) ?_; intro v9 w9 own9 hg9 hb9))
  go_ret2
  refine ⟨v9, rfl, ?_, ?_⟩
  · have e : (L.set 10 (S / 256)).set 11 (S % 256) ++ l = putL ttl proto src dst l := by
      unfold putL
      rw [hlen.out, ← hL.out, ← hS.out, hL.out]; rfl
    rw [← e]; exact own9
  · exact ((bel0.setCell (p := ⟨w.heap.size + 1, 10, none⟩) hgw (.int .u8 (S / 256))).setCell (p := ⟨w.heap.size + 1, 11, none⟩) hgw (.int .u8 (S % 256))).grown hg9 (by simp; omega) (fun k h => by simp [Value.ownBlock] at h; omega)
end Go.Proofs.YtbckoohljkmahaaGreat
namespace Go.Proofs.YtbckoohljkmahaaGreat
set_option linter.unusedVariables false
set_option linter.unusedSimpArgs false
open Go.RowKit
set_option maxHeartbeats 400000 in
theorem word_any (n : Int) (w : World) (hn : 0 ≤ n ∧ n ≤ 65535) :
    Calls Tryz.prog 94 #[.int .i64 n] w fun e w' => e = .returned (.slice (some ⟨w.heap.size, 0, none⟩) 2 2) ∧ w' = w.alloc (.cells #[.int .u8 (n / 256), .int .u8 (n % 256)] 5) := by
  go_enter Tryz.func94, Tryz.ntmps94
  go_wp2
  go_ret
  exact ⟨rfl, rfl⟩
set_option maxHeartbeats 400000 in
theorem wide_any (n : Int) (w : World) (hn : 0 ≤ n ∧ n ≤ 4294967295) :
    Calls Tryz.prog 93 #[.int .u32 n] w fun e w' => e = .returned (.slice (some ⟨w.heap.size, 0, none⟩) 4 4) ∧ w' = w.alloc (.cells #[.int .u8 (n / 16777216), .int .u8 (n / 65536 % 256), .int .u8 (n / 256 % 256), .int .u8 (n % 256)] 5) := by
  go_enter Tryz.func93, Tryz.ntmps93
  go_wp2
  go_ret
  exact ⟨rfl, rfl⟩
theorem App.new_ (w : World) (base : Nat) (l : List Int) (hr : ∀ x, x ∈ l → inr .u8 x) (cs : Array Value) (hcs : cs = (l.map (Value.int .u8)).toArray) (n : Nat) (hn : n = l.length) (h0 : n ≤ 100000) (hb : base ≤ w.heap.size) :
    App w (w.alloc (.cells cs 5)) base (.slice none 0 0) (.slice (some ⟨w.heap.size, 0, none⟩) n n) l :=
  ⟨Own.new .u8 w 5 base hb l hr cs hcs n hn (by unfold maxLen; omega), (Upd.refl _ _).alloc _, fun g hg => by right; simp [Value.ownBlock] at hg; omega⟩
theorem be2_inr {n : Int} (h : 0 ≤ n ∧ n ≤ 65535) : ∀ x, x ∈ be2 n → inr .u8 x := fun x hx => u8_inr (be2_bd n h x hx)
theorem be4_inr {n : Int} (h : 0 ≤ n ∧ n ≤ 4294967295) : ∀ x, x ∈ be4 n → inr .u8 x := fun x hx => u8_inr (be4_bd n h x hx)
set_option maxRecDepth 100000 in
set_option maxHeartbeats 1000000 in
theorem Pseudo_any (s d p : Int) (l : List Int) (A : Option Addr) (len c B : Nat) (w : World) (hr : Rd .u8 w B A len l) (hB : B ≤ w.heap.size) (hs : 0 ≤ s ∧ s ≤ 4294967295) (hd : 0 ≤ d ∧ d ≤ 4294967295) (hp : 0 ≤ p ∧ p ≤ 255) (hl : len ≤ 60000) :
    Calls Tryz.prog 67 #[.int .u32 s, .int .u32 d, .int .i64 p, .slice A len c] w fun e w' => e = .returned (.int .u16 (csum s d p l)) ∧ Below w.heap.size w w' := by
  obtain ⟨i0, hi, hz0, hz1, hz2⟩ := info_parts info_u8_
  have hrB := hr.more hB
  have hcs : csum s d p l = sumOf ((be4 s ++ be4 d ++ [0, p] ++ be2 (len : Int)) ++ l) := by
    unfold csum ph; rw [hr.len]
  have hlen := Lib.hid hr.len
  rw [hcs]
  obtain ⟨S, hS⟩ : ∃ S, S = sumOf ((be4 s ++ be4 d ++ [0, p] ++ be2 (len : Int)) ++ l) := ⟨_, rfl⟩
  rw [← hS]
  replace hS := Lib.hid hS
  clear hcs
  have hlw : 0 ≤ (len : Int) ∧ (len : Int) ≤ 65535 := by omega
  go_enter Tryz.func67, Tryz.ntmps67
  go_wp2_with fail
  refine (wide_any s _ hs).mono ?_
  rintro e w1 ⟨rfl, hw1⟩
  have a1 := App.new_ w w.heap.size (be4 s) (be4_inr hs) #[.int .u8 (s / 16777216), .int .u8 (s / 65536 % 256), .int .u8 (s / 256 % 256), .int .u8 (s % 256)] rfl 4 rfl (by omega) (Nat.le_refl _)
  rw [← hw1] at a1
  replace hw1 := Lib.hid hw1
  go_wp2_with fail
  refine (wide_any d _ hd).mono ?_
  rintro e w2 ⟨rfl, hw2⟩
  have x2 := Rd.new .u8 w1 5 (be4 d) (be4_inr hd) #[.int .u8 (d / 16777216), .int .u8 (d / 65536 % 256), .int .u8 (d / 256 % 256), .int .u8 (d % 256)] rfl 4 rfl
  have a2 := a1.alloc (.cells #[.int .u8 (d / 16777216), .int .u8 (d / 65536 % 256), .int .u8 (d / 256 % 256), .int .u8 (d % 256)] 5)
  have hz : w2.heap.size = w1.heap.size + 1 := by rw [hw2]; simp
  rw [← hw2] at x2 a2
  replace hw2 := Lib.hid hw2
  have bel2 := a2.bel.size
  go_wp2_with (first
    | (at_builtin; (refine wpList_app _ rfl (.tmp 11) (.tmp 13) 22 rfl .u8 w.heap.size 5 i0 (.int .u8 0) 1 Tryz.underlying22 hi hz0 hz1 hz2 rfl _ (by rfl) _ a2.own (w1.heap.size + 1) _ 4 4 (by rfl) (be4 d) x2 (by simp [be4]) (by decide) bel2 ?_; intro v3 w3 own3 hg3 hb3; have a3 := a2.app own3 hg3 hb3; clear own3 hg3 hb3))
    | (at_builtin; (have hx := Rd.new .u8 w3 5 [0, p] (by intro y hy; simp at hy; rcases hy with rfl | rfl <;> exact u8_inr (by omega)) #[.int .u8 0, .int .u8 p] rfl 2 rfl; refine wpList_app _ rfl (.tmp 14) (.tmp 17) 22 rfl .u8 w.heap.size 5 i0 (.int .u8 0) 1 Tryz.underlying22 hi hz0 hz1 hz2 rfl _ (by rfl) _ (a3.own.alloc _) (w3.heap.size + 1) _ 2 2 rfl [0, p] hx (by simp [be4]) (by decide) (by have := a3.upd.size; simp; omega) ?_; intro v4 w4 own4 hg4 hb4; have a4 := (a3.alloc (.cells #[.int .u8 0, .int .u8 p] 5)).app own4 hg4 hb4; clear own4 hg4 hb4 hx)))
  refine (word_any len w4 hlw).mono ?_
  rintro e w5 ⟨rfl, hw5⟩
  have x5 := Rd.new .u8 w4 5 (be2 (len : Int)) (be2_inr hlw) #[.int .u8 ((len : Int) / 256), .int .u8 ((len : Int) % 256)] rfl 2 rfl
  have a5 := a4.alloc (.cells #[.int .u8 ((len : Int) / 256), .int .u8 ((len : Int) % 256)] 5)
  rw [← hw5] at x5 a5
  have hz5 : w5.heap.size = w4.heap.size + 1 := by rw [hw5]; simp
  replace hw5 := Lib.hid hw5
  have bel5 := a5.bel
  have bel5s := bel5.size
  have hrd5 := (hrB.below bel5).more bel5s
  go_wp2_with (first
    | (at_builtin; (refine wpList_app _ rfl (.tmp 18) (.tmp 21) 22 rfl .u8 w.heap.size 5 i0 (.int .u8 0) 1 Tryz.underlying22 hi hz0 hz1 hz2 rfl _ (by rfl) _ a5.own (w4.heap.size + 1) _ 2 2 (by rfl) (be2 (len : Int)) x5 (by simp [be4, be2]) (by decide) bel5s ?_; intro v6 w6 own6 hg6 hb6; have a6 := a5.app own6 hg6 hb6; clear own6 hg6 hb6; have hrd6 := hrB.below a6.bel))
    | (at_builtin; (refine wpList_app _ rfl (.tmp 23) (.tmp 24) 22 rfl .u8 w.heap.size 5 i0 (.int .u8 0) 1 Tryz.underlying22 hi hz0 hz1 hz2 rfl _ (by rfl) _ a6.own w.heap.size _ len c (by rfl) l hrd6 (by simp [be4, be2]; omega) (by decide) a6.bel.size ?_; intro v7 w7 own7 hg7 hb7; have a7 := a6.app own7 hg7 hb7; clear own7 hg7 hb7)))
  have hl7 : (be4 s ++ be4 d ++ [0, p] ++ be2 (len : Int) ++ l).length = 12 + len := by simp [be4, be2, hlen.out]; omega
  obtain ⟨A7, c7, rfl, _, _, rd7⟩ := a7.own.form hl7
  refine (rOf_any _ A7 (12 + len) c7 _ w7 (by omega) rd7).mono ?_
  rw [← hS.out]
  rintro e w8 ⟨rfl, rfl⟩
  have bel7 := a7.bel
  clear a7 rd7 hl7
  go_wp2
  go_ret
  exact ⟨rfl, bel7⟩
end Go.Proofs.YtbckoohljkmahaaGreat
namespace Go.Proofs.YtbckoohljkmahaaGreat
set_option linter.unusedVariables false
set_option linter.unusedSimpArgs false
open Go.RowKit
theorem rpt_size : (Tryz.prog.info? 69).map (·.size) = some 15 := by kernel_rfl
theorem rhd_size : (Tryz.prog.info? 67).map (·.size) = some 6 := by kernel_rfl
set_option maxRecDepth 100000 in
set_option maxHeartbeats 2000000 in
theorem ricmp_plain (h : Hd) (l : List Int) (A : Option Addr) (len c B : Nat) (w : World) (hr : Rd .u8 w B A len l) (hB : B ≤ w.heap.size) (hlc : len ≤ c) (hcm : c ≤ 9223372036854775807) (hl : len ≤ 100000) (hh : 0 ≤ h.size ∧ h.size ≤ 1000) (hnf : 8 ≤ l.length → sumOf l = 0 → ¬ (l.getD 0 0 = 3 ∨ l.getD 0 0 = 11 ∨ l.getD 0 0 = 12)) :
    Calls Tryz.prog 70 #[.agg #[.int .i64 1, .int .u16 0, .int .u16 0, .int .i64 0, .int .i64 0, .int .i64 0, .bool false, .int .i64 0, .int .i64 0, .int .i64 0, .int .i64 0, .int .u32 0, .int .u32 0, .int .i64 0, .bool false], h.val, .slice A len c] w (Tells w (icmpR h l)) := by
  have hcs := icmpR_cases h l rfl
  rw [hr.len] at hcs hnf
  have hrB := hr.more hB
  have hsm := fun w' (hb : Below w.heap.size w w') => rOf_any l A len c _ w' hl (hrB.below hb)
  obtain ⟨h0, h1, h2, h3, h4, h5⟩ := h
  unfold Hd.val Tells
  simp only at hh hcs ⊢
  generalize icmpR ⟨h0, h1, h2, h3, h4, h5⟩ l = R at *
  generalize hf0 : l.getD 0 0 = f0 at *
  generalize hf1 : l.getD 1 0 = f1 at *
  obtain ⟨S, hS⟩ : ∃ S, S = sumOf l := ⟨_, rfl⟩
  rw [← hS] at hsm hcs hnf
  replace hsm := Lib.hid hsm
  clear hS
  rcases hcs with ⟨hlt, rfl⟩ | ⟨h8, ⟨hne, rfl⟩ | ⟨rfl, hcs⟩⟩
  · clear hf0 hf1 hnf
    have d1 : decide (len < 8) = true := by simpa using hlt
    have d2 : decide ((len : Int) < 8) = true := by simp; omega
    go_enter Tryz.func70, Tryz.ntmps70
    go_upto_region 1 with fail
    have bp := ((Blk.new w 69 #[.int .i64 1, .int .u16 0, .int .u16 0, .int .i64 0, .int .i64 0, .int .i64 0, .bool false, .int .i64 0, .int .i64 0, .int .i64 0, .int .i64 0, .int .u32 0, .int .u32 0, .int .i64 0, .bool false]).alloc (.cells #[.int .i64 h0, .int .i64 h1, .int .i64 h2, .int .i64 h3, .int .u32 h4, .int .u32 h5] 67)).alloc (.cells #[.int .i64 0, .int .u16 0, .int .u16 0, .int .i64 0, .int .i64 0, .int .i64 0, .bool false, .int .i64 0, .int .i64 0, .int .i64 0, .int .i64 0, .int .u32 0, .int .u32 0, .int .i64 0, .bool false] 69)
    have bh := (Blk.new (w.alloc (.cells #[.int .i64 1, .int .u16 0, .int .u16 0, .int .i64 0, .int .i64 0, .int .i64 0, .bool false, .int .i64 0, .int .i64 0, .int .i64 0, .int .i64 0, .int .u32 0, .int .u32 0, .int .i64 0, .bool false] 69)) 67 #[.int .i64 h0, .int .i64 h1, .int .i64 h2, .int .i64 h3, .int .u32 h4, .int .u32 h5]).alloc (.cells #[.int .i64 0, .int .u16 0, .int .u16 0, .int .i64 0, .int .i64 0, .int .i64 0, .bool false, .int .i64 0, .int .i64 0, .int .i64 0, .int .i64 0, .int .u32 0, .int .u32 0, .int .i64 0, .bool false] 69)
    have bk := Blk.new ((w.alloc (.cells #[.int .i64 1, .int .u16 0, .int .u16 0, .int .i64 0, .int .i64 0, .int .i64 0, .bool false, .int .i64 0, .int .i64 0, .int .i64 0, .int .i64 0, .int .u32 0, .int .u32 0, .int .i64 0, .bool false] 69)).alloc (.cells #[.int .i64 h0, .int .i64 h1, .int .i64 h2, .int .i64 h3, .int .u32 h4, .int .u32 h5] 67)) 69 #[.int .i64 0, .int .u16 0, .int .u16 0, .int .i64 0, .int .i64 0, .int .i64 0, .bool false, .int .i64 0, .int .i64 0, .int .i64 0, .int .i64 0, .int .u32 0, .int .u32 0, .int .i64 0, .bool false]
    rw [show (w.alloc (.cells #[.int .i64 1, .int .u16 0, .int .u16 0, .int .i64 0, .int .i64 0, .int .i64 0, .bool false, .int .i64 0, .int .i64 0, .int .i64 0, .int .i64 0, .int .u32 0, .int .u32 0, .int .i64 0, .bool false] 69)).heap.size = w.heap.size + 1 by simp] at bh
    rw [show ((w.alloc (.cells #[.int .i64 1, .int .u16 0, .int .u16 0, .int .i64 0, .int .i64 0, .int .i64 0, .bool false, .int .i64 0, .int .i64 0, .int .i64 0, .int .i64 0, .int .u32 0, .int .u32 0, .int .i64 0, .bool false] 69)).alloc (.cells #[.int .i64 h0, .int .i64 h1, .int .i64 h2, .int .i64 h3, .int .u32 h4, .int .u32 h5] 67)).heap.size = w.heap.size + 2 by simp] at bk
    have bel : Below w.heap.size w (((w.alloc (.cells #[.int .i64 1, .int .u16 0, .int .u16 0, .int .i64 0, .int .i64 0, .int .i64 0, .bool false, .int .i64 0, .int .i64 0, .int .i64 0, .int .i64 0, .int .u32 0, .int .u32 0, .int .i64 0, .bool false] 69)).alloc (.cells #[.int .i64 h0, .int .i64 h1, .int .i64 h2, .int .i64 h3, .int .u32 h4, .int .u32 h5] 67)).alloc (.cells #[.int .i64 0, .int .u16 0, .int .u16 0, .int .i64 0, .int .i64 0, .int .i64 0, .bool false, .int .i64 0, .int .i64 0, .int .i64 0, .int .i64 0, .int .u32 0, .int .u32 0, .int .i64 0, .bool false] 69)) := ((bel_alloc _ _).alloc (by simp) _).alloc (by simp; omega) _
    generalize (((w.alloc (.cells #[.int .i64 1, .int .u16 0, .int .u16 0, .int .i64 0, .int .i64 0, .int .i64 0, .bool false, .int .i64 0, .int .i64 0, .int .i64 0, .int .i64 0, .int .u32 0, .int .u32 0, .int .i64 0, .bool false] 69)).alloc (.cells #[.int .i64 h0, .int .i64 h1, .int .i64 h2, .int .i64 h3, .int .u32 h4, .int .u32 h5] 67)).alloc (.cells #[.int .i64 0, .int .u16 0, .int .u16 0, .int .i64 0, .int .i64 0, .int .i64 0, .bool false, .int .i64 0, .int .i64 0, .int .i64 0, .int .i64 0, .int .u32 0, .int .u32 0, .int .i64 0, .bool false] 69)) = W at *
    go_wp2_with (refine wpList_stRow rfl rfl rfl rfl rfl bk rpt_size rfl (by simp [Value.oneCell', Pt.z, Hd.z, portsP]) ?_)
    exact bodyPost_ret (results_row2 rfl _ rfl (bk.setRow _) Tryz.underlying69 rpt_size) rfl ⟨rfl, below_setRow bel (by omega) _⟩
  · clear hf0 hf1 hnf
    have d1 : decide (len < 8) = false := by simp; omega
    have d2 : decide ((len : Int) < 8) = false := by simp; omega
    have e1 : (S != 0) = true := by simpa using hne
    go_enter Tryz.func70, Tryz.ntmps70
    go_upto_region 1 with fail
    have bp := ((Blk.new w 69 #[.int .i64 1, .int .u16 0, .int .u16 0, .int .i64 0, .int .i64 0, .int .i64 0, .bool false, .int .i64 0, .int .i64 0, .int .i64 0, .int .i64 0, .int .u32 0, .int .u32 0, .int .i64 0, .bool false]).alloc (.cells #[.int .i64 h0, .int .i64 h1, .int .i64 h2, .int .i64 h3, .int .u32 h4, .int .u32 h5] 67)).alloc (.cells #[.int .i64 0, .int .u16 0, .int .u16 0, .int .i64 0, .int .i64 0, .int .i64 0, .bool false, .int .i64 0, .int .i64 0, .int .i64 0, .int .i64 0, .int .u32 0, .int .u32 0, .int .i64 0, .bool false] 69)
    have bh := (Blk.new (w.alloc (.cells #[.int .i64 1, .int .u16 0, .int .u16 0, .int .i64 0, .int .i64 0, .int .i64 0, .bool false, .int .i64 0, .int .i64 0, .int .i64 0, .int .i64 0, .int .u32 0, .int .u32 0, .int .i64 0, .bool false] 69)) 67 #[.int .i64 h0, .int .i64 h1, .int .i64 h2, .int .i64 h3, .int .u32 h4, .int .u32 h5]).alloc (.cells #[.int .i64 0, .int .u16 0, .int .u16 0, .int .i64 0, .int .i64 0, .int .i64 0, .bool false, .int .i64 0, .int .i64 0, .int .i64 0, .int .i64 0, .int .u32 0, .int .u32 0, .int .i64 0, .bool false] 69)
    have bk := Blk.new ((w.alloc (.cells #[.int .i64 1, .int .u16 0, .int .u16 0, .int .i64 0, .int .i64 0, .int .i64 0, .bool false, .int .i64 0, .int .i64 0, .int .i64 0, .int .i64 0, .int .u32 0, .int .u32 0, .int .i64 0, .bool false] 69)).alloc (.cells #[.int .i64 h0, .int .i64 h1, .int .i64 h2, .int .i64 h3, .int .u32 h4, .int .u32 h5] 67)) 69 #[.int .i64 0, .int .u16 0, .int .u16 0, .int .i64 0, .int .i64 0, .int .i64 0, .bool false, .int .i64 0, .int .i64 0, .int .i64 0, .int .i64 0, .int .u32 0, .int .u32 0, .int .i64 0, .bool false]
    rw [show (w.alloc (.cells #[.int .i64 1, .int .u16 0, .int .u16 0, .int .i64 0, .int .i64 0, .int .i64 0, .bool false, .int .i64 0, .int .i64 0, .int .i64 0, .int .i64 0, .int .u32 0, .int .u32 0, .int .i64 0, .bool false] 69)).heap.size = w.heap.size + 1 by simp] at bh
    rw [show ((w.alloc (.cells #[.int .i64 1, .int .u16 0, .int .u16 0, .int .i64 0, .int .i64 0, .int .i64 0, .bool false, .int .i64 0, .int .i64 0, .int .i64 0, .int .i64 0, .int .u32 0, .int .u32 0, .int .i64 0, .bool false] 69)).alloc (.cells #[.int .i64 h0, .int .i64 h1, .int .i64 h2, .int .i64 h3, .int .u32 h4, .int .u32 h5] 67)).heap.size = w.heap.size + 2 by simp] at bk
    have bel : Below w.heap.size w (((w.alloc (.cells #[.int .i64 1, .int .u16 0, .int .u16 0, .int .i64 0, .int .i64 0, .int .i64 0, .bool false, .int .i64 0, .int .i64 0, .int .i64 0, .int .i64 0, .int .u32 0, .int .u32 0, .int .i64 0, .bool false] 69)).alloc (.cells #[.int .i64 h0, .int .i64 h1, .int .i64 h2, .int .i64 h3, .int .u32 h4, .int .u32 h5] 67)).alloc (.cells #[.int .i64 0, .int .u16 0, .int .u16 0, .int .i64 0, .int .i64 0, .int .i64 0, .bool false, .int .i64 0, .int .i64 0, .int .i64 0, .int .i64 0, .int .u32 0, .int .u32 0, .int .i64 0, .bool false] 69)) := ((bel_alloc _ _).alloc (by simp) _).alloc (by simp; omega) _
    generalize (((w.alloc (.cells #[.int .i64 1, .int .u16 0, .int .u16 0, .int .i64 0, .int .i64 0, .int .i64 0, .bool false, .int .i64 0, .int .i64 0, .int .i64 0, .int .i64 0, .int .u32 0, .int .u32 0, .int .i64 0, .bool false] 69)).alloc (.cells #[.int .i64 h0, .int .i64 h1, .int .i64 h2, .int .i64 h3, .int .u32 h4, .int .u32 h5] 67)).alloc (.cells #[.int .i64 0, .int .u16 0, .int .u16 0, .int .i64 0, .int .i64 0, .int .i64 0, .bool false, .int .i64 0, .int .i64 0, .int .i64 0, .int .i64 0, .int .u32 0, .int .u32 0, .int .i64 0, .bool false] 69)) = W at *
    go_wp2_with fail
    refine (hsm.out _ bel).mono ?_
    rintro e w' ⟨rfl, rfl⟩
    go_wp2_with (refine wpList_stRow rfl rfl rfl rfl rfl bk rpt_size rfl (by simp [Value.oneCell', Pt.z, Hd.z, portsP]) ?_)
    exact bodyPost_ret (results_row2 rfl _ rfl (bk.setRow _) Tryz.underlying69 rpt_size) rfl ⟨rfl, below_setRow bel (by omega) _⟩
  replace hnf := Lib.hid (hnf h8 rfl)
  have d1 : decide (len < 8) = false := by simp; omega
  have d2 : decide ((len : Int) < 8) = false := by simp; omega
  obtain ⟨b, o, rfl⟩ := hr.form (by omega)
  obtain ⟨c0, x0⟩ := hrB.cell0 (by omega)
  obtain ⟨c1, x1⟩ := hrB.cell 1 (by omega)
  replace x0 := inr_u8 x0
  replace x1 := inr_u8 x1
  rw [hf0] at c0 x0
  rw [hf1] at c1 x1
  clear hf0 hf1
  have y0 := cell_lt c0
  simp only at y0
  have z0 : ∀ t : Tw (fun w' => Below w.heap.size w w'), t.w.cell? ⟨b, o, none⟩ = some (.int .u8 f0) := fun t => (t.h.cell (p := ⟨b, o, none⟩) (cell_lt c0)).trans c0
  have z1 : ∀ t : Tw (fun w' => Below w.heap.size w w'), t.w.cell? ⟨b, o + 1, none⟩ = some (.int .u8 f1) := fun t => (t.h.cell (p := ⟨b, o + 1, none⟩) (cell_lt c1)).trans c1
  clear c0 c1
  replace hcs := Lib.hid hcs
  go_enter Tryz.func70, Tryz.ntmps70
  go_upto_region 1 with fail
  have bp := ((Blk.new w 69 #[.int .i64 1, .int .u16 0, .int .u16 0, .int .i64 0, .int .i64 0, .int .i64 0, .bool false, .int .i64 0, .int .i64 0, .int .i64 0, .int .i64 0, .int .u32 0, .int .u32 0, .int .i64 0, .bool false]).alloc (.cells #[.int .i64 h0, .int .i64 h1, .int .i64 h2, .int .i64 h3, .int .u32 h4, .int .u32 h5] 67)).alloc (.cells #[.int .i64 0, .int .u16 0, .int .u16 0, .int .i64 0, .int .i64 0, .int .i64 0, .bool false, .int .i64 0, .int .i64 0, .int .i64 0, .int .i64 0, .int .u32 0, .int .u32 0, .int .i64 0, .bool false] 69)
  have bh := (Blk.new (w.alloc (.cells #[.int .i64 1, .int .u16 0, .int .u16 0, .int .i64 0, .int .i64 0, .int .i64 0, .bool false, .int .i64 0, .int .i64 0, .int .i64 0, .int .i64 0, .int .u32 0, .int .u32 0, .int .i64 0, .bool false] 69)) 67 #[.int .i64 h0, .int .i64 h1, .int .i64 h2, .int .i64 h3, .int .u32 h4, .int .u32 h5]).alloc (.cells #[.int .i64 0, .int .u16 0, .int .u16 0, .int .i64 0, .int .i64 0, .int .i64 0, .bool false, .int .i64 0, .int .i64 0, .int .i64 0, .int .i64 0, .int .u32 0, .int .u32 0, .int .i64 0, .bool false] 69)
  have bk := Blk.new ((w.alloc (.cells #[.int .i64 1, .int .u16 0, .int .u16 0, .int .i64 0, .int .i64 0, .int .i64 0, .bool false, .int .i64 0, .int .i64 0, .int .i64 0, .int .i64 0, .int .u32 0, .int .u32 0, .int .i64 0, .bool false] 69)).alloc (.cells #[.int .i64 h0, .int .i64 h1, .int .i64 h2, .int .i64 h3, .int .u32 h4, .int .u32 h5] 67)) 69 #[.int .i64 0, .int .u16 0, .int .u16 0, .int .i64 0, .int .i64 0, .int .i64 0, .bool false, .int .i64 0, .int .i64 0, .int .i64 0, .int .i64 0, .int .u32 0, .int .u32 0, .int .i64 0, .bool false]
  rw [show (w.alloc (.cells #[.int .i64 1, .int .u16 0, .int .u16 0, .int .i64 0, .int .i64 0, .int .i64 0, .bool false, .int .i64 0, .int .i64 0, .int .i64 0, .int .i64 0, .int .u32 0, .int .u32 0, .int .i64 0, .bool false] 69)).heap.size = w.heap.size + 1 by simp] at bh
  rw [show ((w.alloc (.cells #[.int .i64 1, .int .u16 0, .int .u16 0, .int .i64 0, .int .i64 0, .int .i64 0, .bool false, .int .i64 0, .int .i64 0, .int .i64 0, .int .i64 0, .int .u32 0, .int .u32 0, .int .i64 0, .bool false] 69)).alloc (.cells #[.int .i64 h0, .int .i64 h1, .int .i64 h2, .int .i64 h3, .int .u32 h4, .int .u32 h5] 67)).heap.size = w.heap.size + 2 by simp] at bk
  have bel : Below w.heap.size w (((w.alloc (.cells #[.int .i64 1, .int .u16 0, .int .u16 0, .int .i64 0, .int .i64 0, .int .i64 0, .bool false, .int .i64 0, .int .i64 0, .int .i64 0, .int .i64 0, .int .u32 0, .int .u32 0, .int .i64 0, .bool false] 69)).alloc (.cells #[.int .i64 h0, .int .i64 h1, .int .i64 h2, .int .i64 h3, .int .u32 h4, .int .u32 h5] 67)).alloc (.cells #[.int .i64 0, .int .u16 0, .int .u16 0, .int .i64 0, .int .i64 0, .int .i64 0, .bool false, .int .i64 0, .int .i64 0, .int .i64 0, .int .i64 0, .int .u32 0, .int .u32 0, .int .i64 0, .bool false] 69)) := ((bel_alloc _ _).alloc (by simp) _).alloc (by simp; omega) _
  generalize (((w.alloc (.cells #[.int .i64 1, .int .u16 0, .int .u16 0, .int .i64 0, .int .i64 0, .int .i64 0, .bool false, .int .i64 0, .int .i64 0, .int .i64 0, .int .i64 0, .int .u32 0, .int .u32 0, .int .i64 0, .bool false] 69)).alloc (.cells #[.int .i64 h0, .int .i64 h1, .int .i64 h2, .int .i64 h3, .int .u32 h4, .int .u32 h5] 67)).alloc (.cells #[.int .i64 0, .int .u16 0, .int .u16 0, .int .i64 0, .int .i64 0, .int .i64 0, .bool false, .int .i64 0, .int .i64 0, .int .i64 0, .int .i64 0, .int .u32 0, .int .u32 0, .int .i64 0, .bool false] 69)) = W at *
  go_wp2_with fail
  refine (hsm.out _ bel).mono ?_
  rintro e w' ⟨rfl, rfl⟩
  go_upto_region 5 with fail
  have : Nonempty (Tw (fun w' => Below w.heap.size w w')) := ⟨⟨_, bel⟩⟩
  refine wp_region_plan (fun w' => Below w.heap.size w w') [(0, true), (1, true), (2, true), (3, true), (4, true), (5, true), (6, true), (7, true), (8, true), (9, false), (10, true), (11, false)] (by kernel_rfl) (by kernel_rfl) (by kernel_rfl) (by kernel_rfl) bel.drew ?_
  replace bp := bp.drew
  replace bh := bh.drew
  replace bk := bk.drew
  replace bel := bel.drew
  generalize W.drew = W1 at *
  refine wpPl_qs 9 _ _ _ (by kernel_rfl) (by kernel_rfl) (by simp) ?_
  unfold clsS
  simp only [List.take_succ_cons, List.take_zero, List.drop_succ_cons, List.drop_zero, List.filterMap_cons, List.filterMap_nil, List.getElem?_toArray, List.getElem?_cons_zero, List.getElem?_cons_succ]
  repeat (first
    | go_big_quiet_skip
    | (go_big_quiet_want; go_big_quiet_op; go_big_quiet_on)
    | (refine id (?_ : wpQuiet _ _ _ _ (_ :: _) _); first | go_big_quiet_skip | (go_big_quiet_want; go_big_quiet_op; go_big_quiet_on)))
  refine wpQuiet_nil ?_
  have q4 := bp.cell 4
  have r4 := bp.frozen 4
  refine wpPl_e _ (by rfl) (by kernel_rfl) (fun K hK => ?_)
  go_simp
  replace bh := bh.far (p := ⟨w.heap.size, 4, none⟩) (by show w.heap.size + 1 ≠ w.heap.size; omega) (.int .i64 f0)
  replace bk := bk.far (p := ⟨w.heap.size, 4, none⟩) (by show w.heap.size + 2 ≠ w.heap.size; omega) (.int .i64 f0)
  replace bel := bel.setCell (p := ⟨w.heap.size, 4, none⟩) (Nat.le_refl _) (.int .i64 f0)
  replace bp := bp.set_ 4 (.int .i64 f0)
  clear q4 r4
  refine hK _ _ bel ?_
  clear hK K
  refine wpPl_qs 1 _ _ _ (by kernel_rfl) (by kernel_rfl) (by simp) ?_
  unfold clsS
  simp only [List.take_succ_cons, List.take_zero, List.drop_succ_cons, List.drop_zero, List.filterMap_cons, List.filterMap_nil, List.getElem?_toArray, List.getElem?_cons_zero, List.getElem?_cons_succ]
  repeat (first
    | go_big_quiet_skip
    | (go_big_quiet_want; go_big_quiet_op; go_big_quiet_on)
    | (refine id (?_ : wpQuiet _ _ _ _ (_ :: _) _); first | go_big_quiet_skip | (go_big_quiet_want; go_big_quiet_op; go_big_quiet_on)))
  refine wpQuiet_nil ?_
  have q5 := bp.cell 5
  have r5 := bp.frozen 5
  refine wpPl_e _ (by rfl) (by kernel_rfl) (fun K hK => ?_)
  go_simp
  replace bh := bh.far (p := ⟨w.heap.size, 5, none⟩) (by show w.heap.size + 1 ≠ w.heap.size; omega) (.int .i64 f1)
  replace bk := bk.far (p := ⟨w.heap.size, 5, none⟩) (by show w.heap.size + 2 ≠ w.heap.size; omega) (.int .i64 f1)
  replace bel := bel.setCell (p := ⟨w.heap.size, 5, none⟩) (Nat.le_refl _) (.int .i64 f1)
  replace bp := bp.set_ 5 (.int .i64 f1)
  clear q5 r5
  refine hK _ _ bel ?_
  clear hK K
  unfold wpPl
  refine NoPanic.normal ?_
  simp only [List.setIfInBounds_toArray, List.set_cons_succ, List.set_cons_zero] at bp
  generalize ((W1.setCell ⟨w.heap.size, 4, none⟩ (.int .i64 f0)).setCell ⟨w.heap.size, 5, none⟩ (.int .i64 f1)) = W2 at *
  replace hcs := hcs.out
  clear z0 z1
  have q4 := bp.cell 4
  have q5 := bp.cell 5
  have hN4b := n2_bd (l := l) (fun x hx => inr_u8 (hr.rng x hx)) (i := 4) (by rw [hr.len]; omega)
  have hPv : ∀ k, (portsP { Pt.z with proto := 1, kind := k, code := 0 } l 4 4).val = .agg #[.int .i64 1, .int .u16 (n2 l 4), .int .u16 (n2 l 4), .int .i64 0, .int .i64 k, .int .i64 0, .bool false, .int .i64 0, .int .i64 0, .int .i64 0, .int .i64 0, .int .u32 0, .int .u32 0, .int .i64 0, .bool false] := fun k => rfl
  go_wp2_with fail
  refine (Num_any (seg l 4 2) _ 2 (c - 4) _ W2 (by omega) ((hrB.below bel).sub 4 2 (by omega))).mono ?_
  rw [show numOf (seg l 4 2) = n2 l 4 from rfl]
  obtain ⟨N4, hN4⟩ : ∃ N, N = n2 l 4 := ⟨_, rfl⟩
  rw [← hN4] at hN4b ⊢
  simp only [← hN4] at hPv
  replace hN4 := Lib.hid hN4
  replace hPv := Lib.hid hPv
  rintro e w' ⟨rfl, rfl⟩
  rcases hcs with ⟨rfl | rfl, ⟨hne, rfl⟩ | ⟨rfl, rfl⟩⟩ | ⟨hf, hR⟩ | ⟨n0, n8, n3, n11, n12, rfl⟩
  · have e1 : (f1 != 0) = true := by simpa using hne
    go_wp2_with (refine wpList_stRow rfl rfl rfl rfl rfl bk rpt_size rfl (by simp [Value.oneCell', Pt.z, Hd.z, portsP]) ?_)
    exact bodyPost_ret (results_row2 rfl _ rfl (bk.setRow _) Tryz.underlying69 rpt_size) rfl ⟨rfl, below_setRow bel (by omega) _⟩
  · have q1 := bp.cell 1
    have q2 := bp.cell 2
    have r := bp.frozen
    go_upto_region 13 with fail
    clear q1 q2 q4 q5 r
    replace bk := (bk.far (p := ⟨w.heap.size, 1, none⟩) (by show w.heap.size + 2 ≠ w.heap.size; omega) (.int .u16 N4)).far (p := ⟨w.heap.size, 2, none⟩) (by show w.heap.size + 2 ≠ w.heap.size; omega) (.int .u16 N4)
    replace bel := (bel.setCell (p := ⟨w.heap.size, 1, none⟩) (Nat.le_refl _) (.int .u16 N4)).setCell (p := ⟨w.heap.size, 2, none⟩) (Nat.le_refl _) (.int .u16 N4)
    replace bp := (bp.set_ 1 (.int .u16 N4)).set_ 2 (.int .u16 N4)
    simp only [List.setIfInBounds_toArray, List.set_cons_succ, List.set_cons_zero] at bp
    generalize ((W2.setCell ⟨w.heap.size, 1, none⟩ (.int .u16 N4)).setCell ⟨w.heap.size, 2, none⟩ (.int .u16 N4)) = W3 at *
    go_wp2_with (first
      | (refine wpList_ldRow rfl rfl rfl bp Tryz.underlying69 rpt_size ?_)
      | (refine wpList_stRow rfl rfl rfl rfl rfl bk rpt_size rfl (by simp [Value.oneCell']) ?_))
    refine bodyPost_ret (results_row2 rfl _ rfl (bk.setRow _) Tryz.underlying69 rpt_size) rfl ⟨?_, below_setRow bel (by omega) _⟩
    exact congrArg (fun x => Ending.returned (.tuple #[x, .int .i64 0])) (hPv.out 0).symm
  · have e1 : (f1 != 0) = true := by simpa using hne
    go_wp2_with (refine wpList_stRow rfl rfl rfl rfl rfl bk rpt_size rfl (by simp [Value.oneCell', Pt.z, Hd.z, portsP]) ?_)
    exact bodyPost_ret (results_row2 rfl _ rfl (bk.setRow _) Tryz.underlying69 rpt_size) rfl ⟨rfl, below_setRow bel (by omega) _⟩
  · have q1 := bp.cell 1
    have q2 := bp.cell 2
    have r := bp.frozen
    go_upto_region 13 with fail
    clear q1 q2 q4 q5 r
    replace bk := (bk.far (p := ⟨w.heap.size, 1, none⟩) (by show w.heap.size + 2 ≠ w.heap.size; omega) (.int .u16 N4)).far (p := ⟨w.heap.size, 2, none⟩) (by show w.heap.size + 2 ≠ w.heap.size; omega) (.int .u16 N4)
    replace bel := (bel.setCell (p := ⟨w.heap.size, 1, none⟩) (Nat.le_refl _) (.int .u16 N4)).setCell (p := ⟨w.heap.size, 2, none⟩) (Nat.le_refl _) (.int .u16 N4)
    replace bp := (bp.set_ 1 (.int .u16 N4)).set_ 2 (.int .u16 N4)
    simp only [List.setIfInBounds_toArray, List.set_cons_succ, List.set_cons_zero] at bp
    generalize ((W2.setCell ⟨w.heap.size, 1, none⟩ (.int .u16 N4)).setCell ⟨w.heap.size, 2, none⟩ (.int .u16 N4)) = W3 at *
    go_wp2_with (first
      | (refine wpList_ldRow rfl rfl rfl bp Tryz.underlying69 rpt_size ?_)
      | (refine wpList_stRow rfl rfl rfl rfl rfl bk rpt_size rfl (by simp [Value.oneCell']) ?_))
    refine bodyPost_ret (results_row2 rfl _ rfl (bk.setRow _) Tryz.underlying69 rpt_size) rfl ⟨?_, below_setRow bel (by omega) _⟩
    exact congrArg (fun x => Ending.returned (.tuple #[x, .int .i64 0])) (hPv.out 8).symm
  · exact absurd hf hnf.out
  · have e1 : (f0 == 0) = false := by simpa using n0
    have e2 : (f0 == 8) = false := by simpa using n8
    have e3 : (f0 == 3) = false := by simpa using n3
    have e4 : (f0 == 11) = false := by simpa using n11
    have e5 : (f0 == 12) = false := by simpa using n12
    go_wp2_with (refine wpList_stRow rfl rfl rfl rfl rfl bk rpt_size rfl (by simp [Value.oneCell', Pt.z, Hd.z, portsP]) ?_)
    exact bodyPost_ret (results_row2 rfl _ rfl (bk.setRow _) Tryz.underlying69 rpt_size) rfl ⟨rfl, below_setRow bel (by omega) _⟩
end Go.Proofs.YtbckoohljkmahaaGreat
namespace Go.Proofs.YtbckoohljkmahaaGreat
set_option linter.unusedVariables false
set_option linter.unusedSimpArgs false
open Go.RowKit
set_option maxRecDepth 100000 in
set_option maxHeartbeats 4000000 in
theorem ricmp_bad (h : Hd) (l : List Int) (A : Option Addr) (len c B : Nat) (w : World) (hr : Rd .u8 w B A len l) (hB : B ≤ w.heap.size) (hlc : len ≤ c) (hcm : c ≤ 9223372036854775807) (hl : len ≤ 100000) (hh : 0 ≤ h.size ∧ h.size ≤ 1000)
    (h8 : 8 ≤ l.length) (hS : sumOf l = 0) (hf : l.getD 0 0 = 3 ∨ l.getD 0 0 = 11 ∨ l.getD 0 0 = 12) (hbad : ¬ (partE (l.drop 8) = 0 ∧ 8 ≤ ((l.drop 8).length : Int) - (hdOf (l.drop 8)).size ∧ (hdOf (l.drop 8)).size + 8 ≤ (hdOf (l.drop 8)).len)) :
    Calls Tryz.prog 70 #[.agg #[.int .i64 1, .int .u16 0, .int .u16 0, .int .i64 0, .int .i64 0, .int .i64 0, .bool false, .int .i64 0, .int .i64 0, .int .i64 0, .int .i64 0, .int .u32 0, .int .u32 0, .int .i64 0, .bool false], h.val, .slice A len c] w (Tells w (faultR { Pt.z with proto := 1, kind := l.getD 0 0, code := l.getD 1 0 } (h.size + 8) (l.drop 8))) := by
  rw [hr.len] at h8
  have hrB := hr.more hB
  have hsm := fun w' (hb : Below w.heap.size w w') => rOf_any l A len c _ w' hl (hrB.below hb)
  rw [hS] at hsm
  have hcs := faultR_cases { Pt.z with proto := 1, kind := l.getD 0 0, code := l.getD 1 0 } (h.size + 8) (l.drop 8) rfl
  have hok := fun h => partE_ok (l := l.drop 8) h
  rw [List.length_drop, hr.len] at hcs hok hbad
  replace hbad := Lib.hid hbad
  obtain ⟨h0, h1, h2, h3, h4, h5⟩ := h
  unfold Hd.val Tells
  simp only at hh hcs ⊢
  generalize hf0 : l.getD 0 0 = f0 at *
  generalize hf1 : l.getD 1 0 = f1 at *
  obtain ⟨R, hR⟩ : ∃ R, R = faultR { Pt.z with proto := 1, kind := f0, code := f1 } (h0 + 8) (l.drop 8) := ⟨_, rfl⟩
  rw [← hR] at hcs ⊢
  replace hsm := Lib.hid hsm
  clear hR hS
  have d1 : decide (len < 8) = false := by simp; omega
  have d2 : decide ((len : Int) < 8) = false := by simp; omega
  obtain ⟨b, o, rfl⟩ := hr.form (by omega)
  obtain ⟨c0, x0⟩ := hrB.cell0 (by omega)
  obtain ⟨c1, x1⟩ := hrB.cell 1 (by omega)
  replace x0 := inr_u8 x0
  replace x1 := inr_u8 x1
  rw [hf0] at c0 x0
  rw [hf1] at c1 x1
  clear hf0 hf1
  have y0 := cell_lt c0
  simp only at y0
  have z0 : ∀ t : Tw (fun w' => Below w.heap.size w w'), t.w.cell? ⟨b, o, none⟩ = some (.int .u8 f0) := fun t => (t.h.cell (p := ⟨b, o, none⟩) (cell_lt c0)).trans c0
  have z1 : ∀ t : Tw (fun w' => Below w.heap.size w w'), t.w.cell? ⟨b, o + 1, none⟩ = some (.int .u8 f1) := fun t => (t.h.cell (p := ⟨b, o + 1, none⟩) (cell_lt c1)).trans c1
  clear c0 c1
  have hf1 : (f0 == 0) = false := by simp; omega
  have hf2 : (f0 == 8) = false := by simp; omega
  replace hf := Lib.hid hf
  replace hcs := Lib.hid hcs
  obtain ⟨A2, hA2, hr2⟩ := hrB.cut (m := 8) (cap := c) (by omega) (by omega)
  replace hA2 : (if c = 8 then some ⟨b, o, none⟩ else some ⟨b, o + 8, none⟩) = A2 := by rw [← hA2]; simp [Addr.add]
  replace hA2 := Lib.hid hA2
  have hgt := fun w' (hb : Below w.heap.size w w') => rGet_any (l.drop 8) true A2 (len - 8) (c - 8) _ w' ((hr2.below hb).more hb.size) (Nat.le_refl _) (by omega) (by omega) (by omega)
  simp only [getP, if_true, hdIf] at hgt
  clear hr2
  go_enter Tryz.func70, Tryz.ntmps70
  go_upto_region 1 with fail
  have bp := ((Blk.new w 69 #[.int .i64 1, .int .u16 0, .int .u16 0, .int .i64 0, .int .i64 0, .int .i64 0, .bool false, .int .i64 0, .int .i64 0, .int .i64 0, .int .i64 0, .int .u32 0, .int .u32 0, .int .i64 0, .bool false]).alloc (.cells #[.int .i64 h0, .int .i64 h1, .int .i64 h2, .int .i64 h3, .int .u32 h4, .int .u32 h5] 67)).alloc (.cells #[.int .i64 0, .int .u16 0, .int .u16 0, .int .i64 0, .int .i64 0, .int .i64 0, .bool false, .int .i64 0, .int .i64 0, .int .i64 0, .int .i64 0, .int .u32 0, .int .u32 0, .int .i64 0, .bool false] 69)
  have bh := (Blk.new (w.alloc (.cells #[.int .i64 1, .int .u16 0, .int .u16 0, .int .i64 0, .int .i64 0, .int .i64 0, .bool false, .int .i64 0, .int .i64 0, .int .i64 0, .int .i64 0, .int .u32 0, .int .u32 0, .int .i64 0, .bool false] 69)) 67 #[.int .i64 h0, .int .i64 h1, .int .i64 h2, .int .i64 h3, .int .u32 h4, .int .u32 h5]).alloc (.cells #[.int .i64 0, .int .u16 0, .int .u16 0, .int .i64 0, .int .i64 0, .int .i64 0, .bool false, .int .i64 0, .int .i64 0, .int .i64 0, .int .i64 0, .int .u32 0, .int .u32 0, .int .i64 0, .bool false] 69)
  have bk := Blk.new ((w.alloc (.cells #[.int .i64 1, .int .u16 0, .int .u16 0, .int .i64 0, .int .i64 0, .int .i64 0, .bool false, .int .i64 0, .int .i64 0, .int .i64 0, .int .i64 0, .int .u32 0, .int .u32 0, .int .i64 0, .bool false] 69)).alloc (.cells #[.int .i64 h0, .int .i64 h1, .int .i64 h2, .int .i64 h3, .int .u32 h4, .int .u32 h5] 67)) 69 #[.int .i64 0, .int .u16 0, .int .u16 0, .int .i64 0, .int .i64 0, .int .i64 0, .bool false, .int .i64 0, .int .i64 0, .int .i64 0, .int .i64 0, .int .u32 0, .int .u32 0, .int .i64 0, .bool false]
  rw [show (w.alloc (.cells #[.int .i64 1, .int .u16 0, .int .u16 0, .int .i64 0, .int .i64 0, .int .i64 0, .bool false, .int .i64 0, .int .i64 0, .int .i64 0, .int .i64 0, .int .u32 0, .int .u32 0, .int .i64 0, .bool false] 69)).heap.size = w.heap.size + 1 by simp] at bh
  rw [show ((w.alloc (.cells #[.int .i64 1, .int .u16 0, .int .u16 0, .int .i64 0, .int .i64 0, .int .i64 0, .bool false, .int .i64 0, .int .i64 0, .int .i64 0, .int .i64 0, .int .u32 0, .int .u32 0, .int .i64 0, .bool false] 69)).alloc (.cells #[.int .i64 h0, .int .i64 h1, .int .i64 h2, .int .i64 h3, .int .u32 h4, .int .u32 h5] 67)).heap.size = w.heap.size + 2 by simp] at bk
  have bel : Below w.heap.size w (((w.alloc (.cells #[.int .i64 1, .int .u16 0, .int .u16 0, .int .i64 0, .int .i64 0, .int .i64 0, .bool false, .int .i64 0, .int .i64 0, .int .i64 0, .int .i64 0, .int .u32 0, .int .u32 0, .int .i64 0, .bool false] 69)).alloc (.cells #[.int .i64 h0, .int .i64 h1, .int .i64 h2, .int .i64 h3, .int .u32 h4, .int .u32 h5] 67)).alloc (.cells #[.int .i64 0, .int .u16 0, .int .u16 0, .int .i64 0, .int .i64 0, .int .i64 0, .bool false, .int .i64 0, .int .i64 0, .int .i64 0, .int .i64 0, .int .u32 0, .int .u32 0, .int .i64 0, .bool false] 69)) := ((bel_alloc _ _).alloc (by simp) _).alloc (by simp; omega) _
  generalize (((w.alloc (.cells #[.int .i64 1, .int .u16 0, .int .u16 0, .int .i64 0, .int .i64 0, .int .i64 0, .bool false, .int .i64 0, .int .i64 0, .int .i64 0, .int .i64 0, .int .u32 0, .int .u32 0, .int .i64 0, .bool false] 69)).alloc (.cells #[.int .i64 h0, .int .i64 h1, .int .i64 h2, .int .i64 h3, .int .u32 h4, .int .u32 h5] 67)).alloc (.cells #[.int .i64 0, .int .u16 0, .int .u16 0, .int .i64 0, .int .i64 0, .int .i64 0, .bool false, .int .i64 0, .int .i64 0, .int .i64 0, .int .i64 0, .int .u32 0, .int .u32 0, .int .i64 0, .bool false] 69)) = W at *
  go_wp2_with fail
  refine (hsm.out _ bel).mono ?_
  rintro e w' ⟨rfl, rfl⟩
  go_upto_region 5 with fail
  have : Nonempty (Tw (fun w' => Below w.heap.size w w')) := ⟨⟨_, bel⟩⟩
  refine wp_region_plan (fun w' => Below w.heap.size w w') [(0, true), (1, true), (2, true), (3, true), (4, true), (5, true), (6, true), (7, true), (8, true), (9, false), (10, true), (11, false)] (by kernel_rfl) (by kernel_rfl) (by kernel_rfl) (by kernel_rfl) bel.drew ?_
  replace bp := bp.drew
  replace bh := bh.drew
  replace bk := bk.drew
  replace bel := bel.drew
  generalize W.drew = W1 at *
  refine wpPl_qs 9 _ _ _ (by kernel_rfl) (by kernel_rfl) (by simp) ?_
  unfold clsS
  simp only [List.take_succ_cons, List.take_zero, List.drop_succ_cons, List.drop_zero, List.filterMap_cons, List.filterMap_nil, List.getElem?_toArray, List.getElem?_cons_zero, List.getElem?_cons_succ]
  repeat (first
    | go_big_quiet_skip
    | (go_big_quiet_want; go_big_quiet_op; go_big_quiet_on)
    | (refine id (?_ : wpQuiet _ _ _ _ (_ :: _) _); first | go_big_quiet_skip | (go_big_quiet_want; go_big_quiet_op; go_big_quiet_on)))
  refine wpQuiet_nil ?_
  have q4 := bp.cell 4
  have r4 := bp.frozen 4
  refine wpPl_e _ (by rfl) (by kernel_rfl) (fun K hK => ?_)
  go_simp
  replace bh := bh.far (p := ⟨w.heap.size, 4, none⟩) (by show w.heap.size + 1 ≠ w.heap.size; omega) (.int .i64 f0)
  replace bk := bk.far (p := ⟨w.heap.size, 4, none⟩) (by show w.heap.size + 2 ≠ w.heap.size; omega) (.int .i64 f0)
  replace bel := bel.setCell (p := ⟨w.heap.size, 4, none⟩) (Nat.le_refl _) (.int .i64 f0)
  replace bp := bp.set_ 4 (.int .i64 f0)
  clear q4 r4
  refine hK _ _ bel ?_
  clear hK K
  refine wpPl_qs 1 _ _ _ (by kernel_rfl) (by kernel_rfl) (by simp) ?_
  unfold clsS
  simp only [List.take_succ_cons, List.take_zero, List.drop_succ_cons, List.drop_zero, List.filterMap_cons, List.filterMap_nil, List.getElem?_toArray, List.getElem?_cons_zero, List.getElem?_cons_succ]
  repeat (first
    | go_big_quiet_skip
    | (go_big_quiet_want; go_big_quiet_op; go_big_quiet_on)
    | (refine id (?_ : wpQuiet _ _ _ _ (_ :: _) _); first | go_big_quiet_skip | (go_big_quiet_want; go_big_quiet_op; go_big_quiet_on)))
  refine wpQuiet_nil ?_
  have q5 := bp.cell 5
  have r5 := bp.frozen 5
  refine wpPl_e _ (by rfl) (by kernel_rfl) (fun K hK => ?_)
  go_simp
  replace bh := bh.far (p := ⟨w.heap.size, 5, none⟩) (by show w.heap.size + 1 ≠ w.heap.size; omega) (.int .i64 f1)
  replace bk := bk.far (p := ⟨w.heap.size, 5, none⟩) (by show w.heap.size + 2 ≠ w.heap.size; omega) (.int .i64 f1)
  replace bel := bel.setCell (p := ⟨w.heap.size, 5, none⟩) (Nat.le_refl _) (.int .i64 f1)
  replace bp := bp.set_ 5 (.int .i64 f1)
  clear q5 r5
  refine hK _ _ bel ?_
  clear hK K
  unfold wpPl
  refine NoPanic.normal ?_
  simp only [List.setIfInBounds_toArray, List.set_cons_succ, List.set_cons_zero] at bp
  generalize ((W1.setCell ⟨w.heap.size, 4, none⟩ (.int .i64 f0)).setCell ⟨w.heap.size, 5, none⟩ (.int .i64 f1)) = W2 at *
  replace hf := hf.out
  clear z0 z1
  have q4 := bp.cell 4
  have q5 := bp.cell 5
  have hN4b := n2_bd (l := l) (fun x hx => inr_u8 (hr.rng x hx)) (i := 4) (by rw [hr.len]; omega)
  go_wp2_with fail
  refine (Num_any (seg l 4 2) _ 2 (c - 4) _ W2 (by omega) ((hrB.below bel).sub 4 2 (by omega))).mono ?_
  rw [show numOf (seg l 4 2) = n2 l 4 from rfl]
  generalize n2 l 4 = N4 at *
  rintro e w' ⟨rfl, rfl⟩
  go_upto_if 48 with fail
  go_cut [48] (fun s48 wx => s48 = .bool true ∧ W2 = wx)
  case first =>
    rcases hf with rfl | rfl | rfl
    · go_wp2_with fail
      go_meet
      exact ⟨rfl, rfl⟩
    · go_wp2_with fail
      go_meet
      exact ⟨rfl, rfl⟩
    · go_wp2_with fail
      go_meet
      exact ⟨rfl, rfl⟩
  case rest =>
    obtain ⟨rfl, rfl⟩ := hcut
    clear hf hf1 hf2 q4 q5 hsm hr hN4b
    replace hcs := hcs.out
    replace hA2 := hA2.out
    rcases hcs with ⟨he, hR⟩ | ⟨he, hcs⟩
    · rw [if_neg he] at hgt
      clear hok hbad
      generalize partE (l.drop 8) = E at *
      replace hR := Lib.hid hR
      have e1 : (E != 0) = true := by simpa using he
      have hz : Hd.z.val = .agg #[.int .i64 0, .int .i64 0, .int .i64 0, .int .i64 0, .int .u32 0, .int .u32 0] := rfl
      rw [hz] at hgt
      replace hgt := Lib.hid hgt
      go_wp2_with fail
      refine (hgt.out _ bel).mono ?_
      rintro e w' ⟨rfl, hb⟩
      replace bk := bk.bel hb
      replace bh := bh.bel hb
      replace bp := bp.bel hb
      replace bel := bel_after bel hb
      clear hb
      have bkl := bk.lt
      go_wp2_with (first | (refine wpList_stRow rfl rfl rfl rfl rfl (Blk.new _ _ _) rhd_size rfl (by simp [Value.oneCell']) ?_; have by_ := (Blk.new w' 67 #[.int .i64 0, .int .i64 0, .int .i64 0, .int .i64 0, .int .u32 0, .int .u32 0]).setRow #[.int .i64 0, .int .i64 0, .int .i64 0, .int .i64 0, .int .u32 0, .int .u32 0]; replace bk := (bk.alloc (.cells #[.int .i64 0, .int .i64 0, .int .i64 0, .int .i64 0, .int .u32 0, .int .u32 0] 67)).setRow_far (g' := w'.heap.size) (by have := bk.lt; omega) #[.int .i64 0, .int .i64 0, .int .i64 0, .int .i64 0, .int .u32 0, .int .u32 0]; replace bh := (bh.alloc (.cells #[.int .i64 0, .int .i64 0, .int .i64 0, .int .i64 0, .int .u32 0, .int .u32 0] 67)).setRow_far (g' := w'.heap.size) (by have := bh.lt; omega) #[.int .i64 0, .int .i64 0, .int .i64 0, .int .i64 0, .int .u32 0, .int .u32 0]; replace bp := (bp.alloc (.cells #[.int .i64 0, .int .i64 0, .int .i64 0, .int .i64 0, .int .u32 0, .int .u32 0] 67)).setRow_far (g' := w'.heap.size) (by have := bp.lt; omega) #[.int .i64 0, .int .i64 0, .int .i64 0, .int .i64 0, .int .u32 0, .int .u32 0]; replace bel := below_setRow (bel.alloc bel.size (.cells #[.int .i64 0, .int .i64 0, .int .i64 0, .int .i64 0, .int .u32 0, .int .u32 0] 67)) bel.size #[.int .i64 0, .int .i64 0, .int .i64 0, .int .i64 0, .int .u32 0, .int .u32 0]; have hg3 : w.heap.size + 2 < w'.heap.size := (by have := bkl; omega); generalize (w'.alloc (.cells #[.int .i64 0, .int .i64 0, .int .i64 0, .int .i64 0, .int .u32 0, .int .u32 0] 67)).setRow w'.heap.size #[.int .i64 0, .int .i64 0, .int .i64 0, .int .i64 0, .int .u32 0, .int .u32 0] = W3 at *; generalize w'.heap.size = g3 at *) | (refine wpList_stRow rfl rfl rfl rfl rfl bk rpt_size rfl (by simp [Value.oneCell', Pt.z, Hd.z, portsP]) ?_))
      refine bodyPost_ret (results_row2 rfl _ rfl (bk.setRow _) Tryz.underlying69 rpt_size) rfl ⟨?_, below_setRow bel (by omega) _⟩
      rw [hR.out]
      rfl
    have hk := hok he
    rw [if_pos he, he] at hgt
    clear hok
    obtain ⟨m, y1, y2, y3, y4, y5, hy⟩ : ∃ (m : Nat) (y1 y2 y3 y4 y5 : Int), hdOf (l.drop 8) = ⟨(m : Int), y1, y2, y3, y4, y5⟩ := ⟨(hdOf (l.drop 8)).size.toNat, _, _, _, _, _, by rw [Int.toNat_of_nonneg (by omega)]⟩
    rw [hy] at hgt hcs hk
    replace hy := Lib.hid hy
    simp only [Hd.val] at hgt
    simp only [Int.toNat_natCast, List.drop_drop] at hcs hk
    replace hgt := Lib.hid hgt
    obtain ⟨k, hk8⟩ : ∃ k : Nat, 8 + m = k := ⟨_, rfl⟩
    rw [hk8] at hcs
    have hk9 : 8 + (m : Int) = (k : Int) := by omega
    obtain ⟨A3, hA3, hr3⟩ := hrB.cut (m := k) (cap := c) (by omega) (by omega)
    replace hA3 : (if c = k then some ⟨b, o, none⟩ else some ⟨b, o + k, none⟩) = A3 := by have hk0 : (k = 0) = False := (by simp; omega); rw [← hA3]; simp [Addr.add, hk0]
    rcases hcs with ⟨hlt, rfl⟩ | ⟨hge, hlt, rfl⟩ | ⟨hge, hle, hcs⟩
    · have d1 : decide (len - k < 8) = true := by simp; omega
      have d2 : decide (((len - k : Nat) : Int) < 8) = true := by simp; omega
      clear hlt
      go_wp2_with fail
      refine (hgt.out _ bel).mono ?_
      rintro e w' ⟨rfl, hb⟩
      replace bk := bk.bel hb
      replace bh := bh.bel hb
      replace bp := bp.bel hb
      replace bel := bel_after bel hb
      clear hb
      have bkl := bk.lt
      go_wp2_with (first | (refine wpList_stRow rfl rfl rfl rfl rfl (Blk.new _ _ _) rhd_size rfl (by simp [Value.oneCell']) ?_; have by_ := (Blk.new w' 67 #[.int .i64 0, .int .i64 0, .int .i64 0, .int .i64 0, .int .u32 0, .int .u32 0]).setRow #[.int .i64 (m : Int), .int .i64 y1, .int .i64 y2, .int .i64 y3, .int .u32 y4, .int .u32 y5]; replace bk := (bk.alloc (.cells #[.int .i64 0, .int .i64 0, .int .i64 0, .int .i64 0, .int .u32 0, .int .u32 0] 67)).setRow_far (g' := w'.heap.size) (by have := bk.lt; omega) #[.int .i64 (m : Int), .int .i64 y1, .int .i64 y2, .int .i64 y3, .int .u32 y4, .int .u32 y5]; replace bh := (bh.alloc (.cells #[.int .i64 0, .int .i64 0, .int .i64 0, .int .i64 0, .int .u32 0, .int .u32 0] 67)).setRow_far (g' := w'.heap.size) (by have := bh.lt; omega) #[.int .i64 (m : Int), .int .i64 y1, .int .i64 y2, .int .i64 y3, .int .u32 y4, .int .u32 y5]; replace bp := (bp.alloc (.cells #[.int .i64 0, .int .i64 0, .int .i64 0, .int .i64 0, .int .u32 0, .int .u32 0] 67)).setRow_far (g' := w'.heap.size) (by have := bp.lt; omega) #[.int .i64 (m : Int), .int .i64 y1, .int .i64 y2, .int .i64 y3, .int .u32 y4, .int .u32 y5]; replace bel := below_setRow (bel.alloc bel.size (.cells #[.int .i64 0, .int .i64 0, .int .i64 0, .int .i64 0, .int .u32 0, .int .u32 0] 67)) bel.size #[.int .i64 (m : Int), .int .i64 y1, .int .i64 y2, .int .i64 y3, .int .u32 y4, .int .u32 y5]; have hg3 : w.heap.size + 2 < w'.heap.size := (by have := bkl; omega); generalize (w'.alloc (.cells #[.int .i64 0, .int .i64 0, .int .i64 0, .int .i64 0, .int .u32 0, .int .u32 0] 67)).setRow w'.heap.size #[.int .i64 (m : Int), .int .i64 y1, .int .i64 y2, .int .i64 y3, .int .u32 y4, .int .u32 y5] = W3 at *; generalize w'.heap.size = g3 at *; have q0 := by_.cell 0; have q1 := by_.cell 1; have q3 := by_.cell 3) | (refine wpList_stRow rfl rfl rfl rfl rfl bk rpt_size rfl (by simp [Value.oneCell', Pt.z, Hd.z, portsP]) ?_))
      exact bodyPost_ret (results_row2 rfl _ rfl (bk.setRow _) Tryz.underlying69 rpt_size) rfl ⟨rfl, below_setRow bel (by omega) _⟩
    · have d1 : decide (len - k < 8) = false := by simp; omega
      have d2 : decide (((len - k : Nat) : Int) < 8) = false := by simp; omega
      have d3 : decide (y1 < (m : Int) + 8) = true := by simp; omega
      clear hlt
      go_wp2_with fail
      refine (hgt.out _ bel).mono ?_
      rintro e w' ⟨rfl, hb⟩
      replace bk := bk.bel hb
      replace bh := bh.bel hb
      replace bp := bp.bel hb
      replace bel := bel_after bel hb
      clear hb
      have bkl := bk.lt
      go_wp2_with (first | (refine wpList_stRow rfl rfl rfl rfl rfl (Blk.new _ _ _) rhd_size rfl (by simp [Value.oneCell']) ?_; have by_ := (Blk.new w' 67 #[.int .i64 0, .int .i64 0, .int .i64 0, .int .i64 0, .int .u32 0, .int .u32 0]).setRow #[.int .i64 (m : Int), .int .i64 y1, .int .i64 y2, .int .i64 y3, .int .u32 y4, .int .u32 y5]; replace bk := (bk.alloc (.cells #[.int .i64 0, .int .i64 0, .int .i64 0, .int .i64 0, .int .u32 0, .int .u32 0] 67)).setRow_far (g' := w'.heap.size) (by have := bk.lt; omega) #[.int .i64 (m : Int), .int .i64 y1, .int .i64 y2, .int .i64 y3, .int .u32 y4, .int .u32 y5]; replace bh := (bh.alloc (.cells #[.int .i64 0, .int .i64 0, .int .i64 0, .int .i64 0, .int .u32 0, .int .u32 0] 67)).setRow_far (g' := w'.heap.size) (by have := bh.lt; omega) #[.int .i64 (m : Int), .int .i64 y1, .int .i64 y2, .int .i64 y3, .int .u32 y4, .int .u32 y5]; replace bp := (bp.alloc (.cells #[.int .i64 0, .int .i64 0, .int .i64 0, .int .i64 0, .int .u32 0, .int .u32 0] 67)).setRow_far (g' := w'.heap.size) (by have := bp.lt; omega) #[.int .i64 (m : Int), .int .i64 y1, .int .i64 y2, .int .i64 y3, .int .u32 y4, .int .u32 y5]; replace bel := below_setRow (bel.alloc bel.size (.cells #[.int .i64 0, .int .i64 0, .int .i64 0, .int .i64 0, .int .u32 0, .int .u32 0] 67)) bel.size #[.int .i64 (m : Int), .int .i64 y1, .int .i64 y2, .int .i64 y3, .int .u32 y4, .int .u32 y5]; have hg3 : w.heap.size + 2 < w'.heap.size := (by have := bkl; omega); generalize (w'.alloc (.cells #[.int .i64 0, .int .i64 0, .int .i64 0, .int .i64 0, .int .u32 0, .int .u32 0] 67)).setRow w'.heap.size #[.int .i64 (m : Int), .int .i64 y1, .int .i64 y2, .int .i64 y3, .int .u32 y4, .int .u32 y5] = W3 at *; generalize w'.heap.size = g3 at *; have q0 := by_.cell 0; have q1 := by_.cell 1; have q3 := by_.cell 3) | (refine wpList_stRow rfl rfl rfl rfl rfl bk rpt_size rfl (by simp [Value.oneCell', Pt.z, Hd.z, portsP]) ?_))
      exact bodyPost_ret (results_row2 rfl _ rfl (bk.setRow _) Tryz.underlying69 rpt_size) rfl ⟨rfl, below_setRow bel (by omega) _⟩
    · exact absurd ⟨he, by rw [hy.out]; exact hge, by rw [hy.out]; exact hle⟩ hbad.out
end Go.Proofs.YtbckoohljkmahaaGreat
