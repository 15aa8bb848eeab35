/- What the laws' proofs lean on: plain facts and contracts of the program's functions, laid together (11). -/
import Derived.Test.YtilhkhnjloplfaaGreatDoorPp04
import Derived.Shelf.Spec.TrailingZeros
import Derived.Deep.DeepCutAuto
import Derived.Deep.CutBlock
import Derived.Lib.LazyBuf
namespace Go.Proofs.YtilhkhnjloplfaaGreatDoor
set_option linter.unusedVariables false
set_option linter.unusedSimpArgs false
open Go.RowKit
theorem chg_val {a l : Nat} (hl : l < 4294967296) : bits .or .u64 (IntKind.u64.wrap (((a : Int) / 4294967296 + 1) * 4294967296)) (l : Int) = ((chg a l : Nat) : Int) := by
  have e1 : IntKind.u64.wrap (((a : Int) / 4294967296 + 1) * 4294967296) = (((a / 4294967296 + 1) % 4294967296 * 4294967296 : Nat) : Int) := by
    rw [IntKind.wrap_u64]; omega
  rw [e1, bits_or_u64_nat _ _ (by omega) (by omega)]
  unfold chg
  congr 1
  rw [Nat.mul_comm]
  exact (Nat.two_pow_add_eq_or_of_lt (i := 32) hl _).symm
theorem changed_any (a l : Nat) (W : World) (ha : a < 18446744073709551616) (hl : l < 4294967296) : Calls Tryz.prog 67 #[.int .u64 (a : Int), .int .u64 (l : Int)] W fun e W' => e = .returned (.int .u64 ((chg a l : Nat) : Int)) ∧ W = W' := by
  have hv := chg_val (a := a) hl
  go_enter Tryz.func67, Tryz.ntmps67
  go_wp2_with fail
  go_ret
  exact ⟨rfl, rfl⟩
/-- the library's table stands -/
def Tab (W : World) : Prop := ∀ j, j < 64 → W.cell? ⟨0, j, none⟩ = some (.int .u8 (Lib.deBruijn64tab.getD j 0))
theorem Tab.bel {W W' : World} {B : Nat} (h : Tab W) (h0 : 0 < B) (hb : Below B W W') : Tab W' := fun j hj => (hb.cell (p := ⟨0, j, none⟩) h0).trans (h j hj)
theorem tz_core (x k idx : Nat) (W : World) (hx1 : ((x : Int) == 0) = false) (key : IntKind.u64.wrap (bits BinOp.and IntKind.u64 (x : Int) (IntKind.u64.wrap (-(x : Int))) * 285870213051353865) / 288230376151711744 = (idx : Int))
    (hi : idx < 64) (hk : k < 64) (hcell : W.cell? ⟨0, idx, none⟩ = some (.int .u8 k)) : Calls Tryz.prog 80 #[.int .u64 (x : Int)] W fun e W' => e = .returned (.int .i64 (k : Int)) ∧ W = W' := by
  go_enter Tryz.func80, Tryz.ntmps80
  go_wp2_with (simp only [key])
  go_ret
  exact ⟨rfl, rfl⟩
theorem tz_any (x : Nat) (W : World) (hx : x < 18446744073709551616) (hx0 : x ≠ 0) (hT : Tab W) : Calls Tryz.prog 80 #[.int .u64 (x : Int)] W fun e W' => e = .returned (.int .i64 (Lib.ctz 64 x : Int)) ∧ W = W' := by
  obtain ⟨hlow, hk⟩ := Lib.lowest_bit 64 x hx0 hx
  obtain ⟨hi, htab⟩ := Lib.deBruijn64_at _ hk
  have hcell := hT _ hi
  rw [htab] at hcell
  exact tz_core x _ _ W (by simp; omega) (tz64_key x _ hx hx0 hlow) hi hk hcell
end Go.Proofs.YtilhkhnjloplfaaGreatDoor
namespace Go.Proofs.YtilhkhnjloplfaaGreatDoor
set_option linter.unusedVariables false
set_option linter.unusedSimpArgs false
open Go.RowKit
theorem free0 {m : Nat} (h : m < 18446744073709551616) : bits .and .u64 (bits .xor .u64 IntKind.u64.max (m : Int)) 4294967295 = ((setB 0 (frB m) : Nat) : Int) := by
  have h1 : bits .xor .u64 IntKind.u64.max (m : Int) = ((18446744073709551615 ^^^ m : Nat) : Int) := bits_xor_u64_nat 18446744073709551615 m (by decide) h
  have h2 : 18446744073709551615 ^^^ m < 2 ^ 64 := Nat.xor_lt_two_pow (by decide) h
  rw [h1]
  have h3 := bits_and_u64_nat (18446744073709551615 ^^^ m) 4294967295 h2 (by decide)
  rw [free_num m] at h3
  exact h3
theorem low0 (m : Nat) : bits .and .u64 (m : Int) 4294967295 = ((m % 4294967296 : Nat) : Int) := by
  have := and_mask (k := .u64) rfl 32 (by decide) (m : Int)
  simpa using this
theorem andNot_nat (a b : Nat) (ha : a < 18446744073709551616) (hb : b < 18446744073709551616) : bits .andNot .u64 (a : Int) (b : Int) = ((a &&& (18446744073709551615 ^^^ b) : Nat) : Int) := by
  have hx : a &&& (18446744073709551615 ^^^ b) < 2 ^ 64 := Nat.and_lt_two_pow _ (Nat.xor_lt_two_pow (by decide) (by omega))
  have h1 : (BitVec.ofInt 64 (a : Int)).toNat = a := by
    rw [BitVec.ofInt_natCast, BitVec.toNat_ofNat]; exact Nat.mod_eq_of_lt (by omega)
  have h2 : (BitVec.ofInt 64 (b : Int)).toNat = b := by
    rw [BitVec.ofInt_natCast, BitVec.toNat_ofNat]; exact Nat.mod_eq_of_lt (by omega)
  show IntKind.u64.wrap ((BitVec.ofInt 64 (a : Int) &&& ~~~(BitVec.ofInt 64 (b : Int))).toNat : Int) = _
  rw [BitVec.toNat_and, ← BitVec.allOnes_xor, BitVec.toNat_xor, BitVec.toNat_allOnes, h1, h2, IntKind.wrap_u64]
  show ((a &&& (18446744073709551615 ^^^ b) : Nat) : Int) % _ = _
  omega
theorem pow_u64 {i : Nat} (h : i < 64) : IntKind.u64.wrap ((2 : Int) ^ i) = ((2 ^ i : Nat) : Int) := by
  have h1 : (2 : Int) ^ i = ((2 ^ i : Nat) : Int) := by push_cast; rfl
  have h2 : 2 ^ i < 2 ^ 64 := Nat.pow_lt_pow_right (by decide) h
  have h3 : 2 ^ i < 18446744073709551616 := h2
  rw [h1, IntKind.wrap_u64]
  clear h1 h2
  generalize 2 ^ i = q at *
  omega
/-- the numbers so far, as a slice -/
def gotN (word : Nat) (l : List Nat) : List Nat := l.map (32 * word + ·)
theorem gotN_app (word : Nat) (l m : List Nat) : gotN word (l ++ m) = gotN word l ++ gotN word m := by unfold gotN; rw [List.map_append]
theorem info_int : (Tryz.prog.info? 3).map (fun i => (i.zero, i.size, i.bytes)) = some (some (.int .i64 0), 1, 8) := by kernel_rfl
def GrabR (W : World) (gp gc h n : Nat) (ws : List Nat) (pb nw wb word left seen : Nat) (e : Ending) (W' : World) : Prop :=
  e = .returned (.tuple #[]) ∧ Upd (fun b => b = h ∨ b = pb) W W' ∧
  ((ws.getD word 0 = seen ∧ PoM W' gp gc h n (ws.set word (tkn seen 8)) ∧ ∃ pv, Blk W' pb 111 #[.int .i64 0, .int .i64 (word : Int), .int .i64 (left : Int), .int .i64 8, .bool false, .int .u64 (seen : Int), .slice (some ⟨wb, 0, none⟩) nw nw, .slice none 0 0, pv, .bool true, .bool false] ∧ Own .i64 3 W' W.heap.size pv (iN (gotN word ((frB seen).take 8)))) ∨
   (ws.getD word 0 ≠ seen ∧ PoM W' gp gc h n ws ∧ Blk W' pb 111 #[.int .i64 0, .int .i64 (word : Int), .int .i64 (left : Int), .int .i64 8, .bool false, .int .u64 (seen : Int), .slice (some ⟨wb, 0, none⟩) nw nw, .slice none 0 0, .slice none 0 0, .bool false, .bool false]))
set_option maxRecDepth 100000 in
set_option maxHeartbeats 2000000 in
theorem grab_any (W : World) (gp gc h n : Nat) (ws : List Nat) (pb nw wb word left seen : Nat) (pm : PoM W gp gc h n ws) (bp : Blk W pb 111 #[.int .i64 0, .int .i64 (word : Int), .int .i64 (left : Int), .int .i64 8, .bool false, .int .u64 (seen : Int), .slice (some ⟨wb, 0, none⟩) nw nw, .slice none 0 0, .slice none 0 0, .bool false, .bool false]) (hw : word < ws.length) (hw2 : ws.length ≤ 2) (hs : seen < 18446744073709551616) (hT : Tab W) :
    Calls Tryz.prog 66 #[.pointer (some ⟨gp, 0, none⟩), .pointer (some ⟨pb, 0, none⟩)] W (GrabR W gp gc h n ws pb nw wb word left seen) := by
  obtain ⟨i0, hi0, hz0, hz1, hz2⟩ := info_parts info_int
  have s5 := bp.cell 5
  have s1 := bp.cell 1
  have s3 := bp.cell 3
  have hf0 := free0 hs
  have hl0 := low0 seen
  have hsrt : (frB seen).Pairwise (· < ·) := List.pairwise_lt_range.filter _
  have h32 : ∀ x, x ∈ frB seen → x < 32 := fun x hx => frB_lt hx
  obtain ⟨L, hL⟩ : ∃ L, frB seen = L := ⟨_, rfl⟩
  rw [hL] at hf0 hsrt h32
  have hsz : 0 < W.heap.size := Nat.lt_of_le_of_lt (Nat.zero_le _) bp.lt
  replace hL := Lib.hid hL
  replace hsrt := Lib.hid hsrt
  replace h32 := Lib.hid h32
  replace hT := Lib.hid hT
  go_enter Tryz.func66, Tryz.ntmps66
  go_wp2_with fail
  go_loopw [4, 5, 6] (fun g f l wr => ∃ j : Nat, j ≤ 8 ∧ j ≤ L.length ∧ Own .i64 3 wr W.heap.size g (iN (gotN word (L.take j))) ∧ f = .int .u64 ((setB 0 (L.drop j) : Nat) : Int) ∧ l = .int .u64 ((setB (seen % 4294967296) (L.take j) : Nat) : Int) ∧ Below W.heap.size W wr) (fun g _ _ _ => match g with | .slice _ n _ => 8 - n | _ => 0)
  case atStart => exact ⟨0, by omega, by omega, Own.nil _ _ _ _, rfl, rfl, Below.refl _ _⟩
  case round =>
    obtain ⟨j, hj8, hjl, own, rfl, rfl, bel⟩ := hrel
    have hlen : (iN (gotN word (L.take j))).length = j := by rw [iN_len]; unfold gotN; rw [List.length_map, List.length_take]; omega
    obtain ⟨G, c, rfl, hc1, hc2, rdg⟩ := own.form hlen
    clear rdg
    replace s1 := (bel.cell (p := ⟨pb, 1, none⟩) bp.lt).trans s1
    replace s3 := (bel.cell (p := ⟨pb, 3, none⟩) bp.lt).trans s3
    clear s5 hf0 hl0
    by_cases hlt : j < L.length ∧ j < 8
    · obtain ⟨i, hi⟩ : ∃ i, L[j]? = some i := ⟨_, List.getElem?_eq_getElem hlt.1⟩
      have hdr : L.drop j = i :: L.drop (j + 1) := by rw [List.drop_eq_getElem_cons hlt.1]; congr 1; rw [List.getElem?_eq_getElem hlt.1] at hi; exact Option.some.inj hi
      have htk : L.take (j + 1) = L.take j ++ [i] := by rw [List.take_add_one, hi]; rfl
      rw [hdr]
      have hd : decide ((j : Int) < 8) = true := by simp; omega
      have hd2 : decide (j < 8) = true := by simp; omega
      have hne : (((setB 0 (i :: L.drop (j + 1)) : Nat) : Int) != 0) = true := by
        have : setB 0 (i :: L.drop (j + 1)) ≠ 0 := fun e => by rw [setB_nil_zero] at e; cases e
        simp; omega
      have hne0 : (((setB 0 (i :: L.drop (j + 1)) : Nat) : Int) == 0) = false := by
        have : setB 0 (i :: L.drop (j + 1)) ≠ 0 := fun e => by rw [setB_nil_zero] at e; cases e
        simp; omega
      have hi32 : i < 32 := h32.out i (List.mem_of_getElem? hi)
      have hlow : ∀ x, x ∈ L.drop (j + 1) → i < x := by
        have h1 : (L.drop j).Pairwise (· < ·) := hsrt.out.sublist (List.drop_sublist j L)
        rw [hdr, List.pairwise_cons] at h1
        exact h1.1
      have h64 : ∀ x, x ∈ i :: L.drop (j + 1) → x < 64 := fun x hx => by
        rcases List.mem_cons.1 hx with rfl | hx
        · omega
        · have := h32.out x (List.mem_of_mem_drop hx); omega
      have h64' : ∀ x, x ∈ L.drop (j + 1) → x < 64 := fun x hx => h64 x (by simp [hx])
      have hlt64 := setB_lt (n := 64) (l := i :: L.drop (j + 1)) (m := 0) (by decide) h64
      have hlo32 : setB (seen % 4294967296) (L.take j) < 18446744073709551616 := Nat.lt_trans (setB_lt (n := 32) (Nat.mod_lt _ (by decide)) (fun x hx => h32.out x (List.mem_of_mem_take hx))) (by decide)
      have kt := tz_any (setB 0 (i :: L.drop (j + 1))) wr hlt64 (fun e => by rw [setB_nil_zero] at e; cases e) (hT.out.bel hsz bel)
      rw [ctz_low hlow h64] at kt
      have hpw := pow_u64 (i := i) (by omega)
      have ha : bits .andNot .u64 ((setB 0 (i :: L.drop (j + 1)) : Nat) : Int) (IntKind.u64.wrap ((2 : Int) ^ i)) = ((setB 0 (L.drop (j + 1)) : Nat) : Int) := by
        rw [hpw, andNot_nat _ _ hlt64 (Nat.pow_lt_pow_right (m := i) (n := 64) (by decide) (by omega)), drop_low (by omega) (fun hm => by have := hlow i hm; omega) h64']
      have ho : bits .or .u64 ((setB (seen % 4294967296) (L.take j) : Nat) : Int) (IntKind.u64.wrap ((2 : Int) ^ i)) = ((setB (seen % 4294967296) (L.take (j + 1)) : Nat) : Int) := by
        rw [hpw, bits_or_u64_nat _ _ hlo32 (Nat.pow_lt_pow_right (m := i) (n := 64) (by decide) (by omega)), htk, setB_snoc]
      have hadd : (word : Int) * 32 + (i : Int) = ((32 * word + i : Nat) : Int) := by push_cast; omega
      have hgn : iN (gotN word (L.take (j + 1))) = iN (gotN word (L.take j)) ++ [((32 * word + i : Nat) : Int)] := by rw [htk, gotN_app, iN_app]; rfl
      have hrg : inr .i64 ((32 * word + i : Nat) : Int) := i64_inr (by show _ ≤ ((32 * word + i : Nat) : Int) ∧ ((32 * word + i : Nat) : Int) ≤ _; omega)
      obtain ⟨N, hN⟩ : ∃ N : Int, ((32 * word + i : Nat) : Int) = N := ⟨_, rfl⟩
      rw [hN] at hadd hgn hrg
      have hrd := Rd.new .i64 wr 3 [N] (by intro y hy; simp at hy; subst hy; exact hrg) #[.int .i64 N] rfl 1 rfl
      clear hpw hlt64 hlo32
      replace hgn := Lib.hid hgn
      replace hlen := Lib.hid hlen
      replace kt := Lib.hid kt
      replace hdr := Lib.hid hdr
      replace htk := Lib.hid htk
      replace hlow := Lib.hid hlow
      replace h64 := Lib.hid h64
      replace h64' := Lib.hid h64'
      replace hi := Lib.hid hi
      replace hN := Lib.hid hN
      go_wp2_with fail
      refine kt.out.mono ?_
      rintro e w1 ⟨rfl, rfl⟩
      go_wp2_with (first
        | (at_builtin; refine wpList_app _ rfl (.tmp 40) (.tmp 48) 23 rfl .i64 W.heap.size 3 i0 (.int .i64 0) 8 Tryz.underlying23 hi0 hz0 hz1 hz2 rfl _ rfl (iN (gotN word (L.take j))) (own.alloc _) (wr.heap.size + 1) _ 1 1 rfl [N] hrd (by rw [hlen.out]; omega) (by decide) (by have := bel.size; simp; omega) ?_; intro v1 w1 own1 hg1 _; have bel1 : Below W.heap.size W w1 := (bel.alloc bel.size _).grown hg1 (by have := bel.size; simp; omega) (fun g h => (own.lt g h).1); clear hg1))
      go_roundw
      case rel => exact ⟨j + 1, by omega, by omega, by rw [hgn.out]; exact own1, rfl, rfl, bel1⟩
      case measure =>
        obtain ⟨A1, c1, e1, _⟩ := own1.form (n := j + 1) (by rw [List.length_append, hlen.out]; rfl)
        subst e1
        show 8 - (j + 1) < 8 - j
        omega
    · have ht8 : L.take j = L.take 8 := by
        rcases Nat.lt_or_ge j L.length with h | h
        · rw [show j = 8 by omega]
        · rw [List.take_of_length_le h, List.take_of_length_le (by omega)]
      have hj : L.length ≤ j ∨ (j < L.length ∧ j = 8) := by omega
      have hlow32 : setB (seen % 4294967296) (L.take 8) < 4294967296 := setB_lt (n := 32) (Nat.mod_lt _ (by decide)) (fun x hx => h32.out x (List.mem_of_mem_take hx))
      replace ht8 := Lib.hid ht8
      replace hlen := Lib.hid hlen
      go_upto_region 3 with fail
      go_cut [29] (fun s wx => s = .bool false ∧ wr = wx)
      case first =>
        rcases hj with h | ⟨h, rfl⟩
        · have hne : (((setB 0 (L.drop j) : Nat) : Int) != 0) = false := by rw [List.drop_eq_nil_of_le h]; rfl
          have hne0 : (((setB 0 (L.drop j) : Nat) : Int) == 0) = true := by rw [List.drop_eq_nil_of_le h]; rfl
          go_wp2_with fail
          go_meet
          exact ⟨rfl, rfl⟩
        · have hx : setB 0 (L.drop 8) ≠ 0 := fun e => by
            rw [setB_nil_zero] at e
            have := congrArg List.length e
            rw [List.length_drop] at this
            simp at this; omega
          have hne : (((setB 0 (L.drop 8) : Nat) : Int) != 0) = true := by simp; omega
          have hne0 : (((setB 0 (L.drop 8) : Nat) : Int) == 0) = false := by simp; omega
          clear hx
          go_wp2_with fail
          go_meet
          exact ⟨rfl, rfl⟩
      case rest =>
        obtain ⟨rfl, rfl⟩ := hcut
        clear hj hlt
        have pm' := pm.bel bel
        have bp' := bp.bel bel
        rw [ht8.out] at own ⊢
        clear s1 s3
        have kC := fun (V : World) (hc : Cel V gc h (iN ws)) => Cas_any (word : Int) (seen : Int) ((chg seen (setB (seen % 4294967296) (L.take 8)) : Nat) : Int) gc h (iN ws) V hc (by rw [iN_len]; omega) (u64_inr (by have := chg_lt (w := seen) hlow32; show 0 ≤ ((chg seen _ : Nat) : Int) ∧ ((chg seen _ : Nat) : Int) ≤ _; omega))
        have kc := fun V => changed_any seen (setB (seen % 4294967296) (L.take 8)) V hs hlow32
        have hiL : (0 ≤ (word : Int) ∧ (word : Int) < ((iN ws).length : Int)) := by rw [iN_len]; omega
        rw [celAt_iN, celSet_iN ws hw] at kC
        have htk : chg seen (setB (seen % 4294967296) (L.take 8)) = tkn seen 8 := by rw [← hL.out]; rfl
        rw [htk] at kC kc
        obtain ⟨lo, hlo⟩ : ∃ lo, setB (seen % 4294967296) (L.take 8) = lo := ⟨_, rfl⟩
        rw [hlo] at kc ⊢
        clear hlow32 htk
        replace hlo := Lib.hid hlo
        replace kc := Lib.hid kc
        by_cases he : ws.getD word 0 = seen
        · have e1 : decide (0 ≤ (word : Int) ∧ (word : Int) < ((iN ws).length : Int) ∧ ((ws.getD word 0 : Nat) : Int) = (seen : Int)) = true := decide_eq_true ⟨hiL.1, hiL.2, by rw [he]⟩
          have e2 : (0 ≤ (word : Int) ∧ (word : Int) < ((iN ws).length : Int) ∧ ((ws.getD word 0 : Nat) : Int) = (seen : Int)) := of_decide_eq_true e1
          simp only [e1, if_pos e2] at kC
          clear e1 e2 hiL
          replace kC := Lib.hid kC
          replace he := Lib.hid he
          go_upto_region 8 with fail
          have z0 : ∀ t : Tw (fun w' => Blk w' gp 59 #[.pointer (some ⟨gc, 0, none⟩), .int .i64 (n : Int)] ∧ Blk w' pb 111 #[.int .i64 0, .int .i64 (word : Int), .int .i64 (left : Int), .int .i64 8, .bool false, .int .u64 (seen : Int), .slice (some ⟨wb, 0, none⟩) nw nw, .slice none 0 0, .slice none 0 0, .bool false, .bool false]), t.w.cell? ⟨gp, 0, none⟩ = some (.pointer (some ⟨gc, 0, none⟩)) := fun t => t.h.1.cell 0
          have z1 : ∀ t : Tw (fun w' => Blk w' gp 59 #[.pointer (some ⟨gc, 0, none⟩), .int .i64 (n : Int)] ∧ Blk w' pb 111 #[.int .i64 0, .int .i64 (word : Int), .int .i64 (left : Int), .int .i64 8, .bool false, .int .u64 (seen : Int), .slice (some ⟨wb, 0, none⟩) nw nw, .slice none 0 0, .slice none 0 0, .bool false, .bool false]), t.w.cell? ⟨pb, 1, none⟩ = some (.int .i64 (word : Int)) := fun t => t.h.2.cell 1
          have z5 : ∀ t : Tw (fun w' => Blk w' gp 59 #[.pointer (some ⟨gc, 0, none⟩), .int .i64 (n : Int)] ∧ Blk w' pb 111 #[.int .i64 0, .int .i64 (word : Int), .int .i64 (left : Int), .int .i64 8, .bool false, .int .u64 (seen : Int), .slice (some ⟨wb, 0, none⟩) nw nw, .slice none 0 0, .slice none 0 0, .bool false, .bool false]), t.w.cell? ⟨pb, 5, none⟩ = some (.int .u64 (seen : Int)) := fun t => t.h.2.cell 5
          have zz : Nonempty (Tw (fun w' => Blk w' gp 59 #[.pointer (some ⟨gc, 0, none⟩), .int .i64 (n : Int)] ∧ Blk w' pb 111 #[.int .i64 0, .int .i64 (word : Int), .int .i64 (left : Int), .int .i64 8, .bool false, .int .u64 (seen : Int), .slice (some ⟨wb, 0, none⟩) nw nw, .slice none 0 0, .slice none 0 0, .bool false, .bool false])) := ⟨⟨wr, pm'.obj, bp'⟩⟩
          refine wp_region_plan (fun w' => Blk w' gp 59 #[.pointer (some ⟨gc, 0, none⟩), .int .i64 (n : Int)] ∧ Blk w' pb 111 #[.int .i64 0, .int .i64 (word : Int), .int .i64 (left : Int), .int .i64 8, .bool false, .int .u64 (seen : Int), .slice (some ⟨wb, 0, none⟩) nw nw, .slice none 0 0, .slice none 0 0, .bool false, .bool false]) [(0, true), (1, true), (2, true), (3, true), (4, true), (5, true), (6, true), (7, true), (8, true), (9, true), (10, true), (11, true), (12, true), (13, true), (14, true), (15, true), (16, true), (17, false), (18, false)] (by kernel_rfl) (by kernel_rfl) (by kernel_rfl) (by kernel_rfl) ⟨pm'.obj.drew, bp'.drew⟩ ?_
          have bel' := bel.drew
          replace pm' : PoM wr.drew gp gc h n ws := ⟨pm'.obj.drew, pm'.cel.drew⟩
          replace bp' := bp'.drew
          replace own := own.drew
          clear bel
          generalize wr.drew = W1 at *
          refine wpPl_qs 17 _ _ _ (by kernel_rfl) (by kernel_rfl) (by simp) ?_
          unfold clsS
          simp only [List.take_succ_cons, List.take_zero, List.drop_succ_cons, List.drop_zero, List.filterMap_cons, List.filterMap_nil, List.getElem?_toArray, List.getElem?_cons_zero, List.getElem?_cons_succ]
          repeat (first
            | go_big_quiet_skip
            | (go_big_quiet_want; go_big_quiet_op; go_big_quiet_on)
            | (refine id (?_ : wpQuiet _ _ _ _ (_ :: _) _); first | go_big_quiet_skip | (go_big_quiet_want; go_big_quiet_op; go_big_quiet_on)))
          refine wpQuiet_nil ?_
          refine wpPl_e _ (by rfl) (by kernel_rfl) (fun K hK => ?_)
          go_simp
          refine (kc.out W1).mono ?_
          rintro e w' ⟨rfl, rfl⟩
          refine hK _ _ ⟨pm'.obj, bp'⟩ ?_
          clear hK K
          refine wpPl_e _ (by rfl) (by kernel_rfl) (fun K hK => ?_)
          go_simp
          refine (kC.out W1 pm'.cel).mono ?_
          rintro e W2 ⟨rfl, cel2, hu⟩
          have bp2 := bp'.upd hu (bp'.ne_ pm'.cel.row (by decide))
          refine hK _ _ ⟨pm'.obj.upd hu (pm'.obj.ne_ pm'.cel.row (by decide)), bp2⟩ ?_
          clear hK K kC kc z0 z1 z5 zz
          unfold wpPl
          refine NoPanic.normal ?_
          have s8 := bp2.frozen 8
          have s9 := bp2.frozen 9
          have c8 := bp2.cell 8
          have c9 := bp2.cell 9
          go_wp2_with fail
          go_end0
          have bp3 := (bp2.set_ 8 (.slice G j c)).set_ 9 (.bool true)
          have hne : gp ≠ pb := pm'.obj.ne_ bp' (by decide)
          have hu3 : Upd (fun b => b = h ∨ b = pb) W ((W2.setCell ⟨pb, 8, none⟩ (.slice G j c)).setCell ⟨pb, 9, none⟩ (.bool true)) := (((Upd.of_below bel' (fun b => b = h ∨ b = pb)).trans (hu.mono (fun k _ e => .inl e))).setCell (p := ⟨pb, 8, none⟩) (fun _ => .inr rfl) _).setCell (p := ⟨pb, 9, none⟩) (fun _ => .inr rfl) _
          have u2 := ((Upd.refl (fun b => b = pb) W2).setCell (p := ⟨pb, 8, none⟩) (fun _ => rfl) (.slice G j c)).setCell (p := ⟨pb, 9, none⟩) (fun _ => rfl) (.bool true)
          have hgcp : gc ≠ pb := fun e => by
            obtain ⟨o1, o2, o3, ho⟩ := pm'.cel.obj
            exact ho.ne_ bp' (by decide) e
          refine ⟨rfl, hu3, .inl ⟨he.out, ⟨(pm'.obj.upd hu (pm'.obj.ne_ pm'.cel.row (by decide))).upd u2 hne, cel2.upd u2 hgcp (pm'.cel.row.ne_ bp' (by decide))⟩, _, bp3, ?_⟩⟩
          rw [hL.out]
          exact ((own.updne pm'.cel.row (by decide) hu).updne bp2 (by decide) u2)
        · have e2 : ¬ (0 ≤ (word : Int) ∧ (word : Int) < ((iN ws).length : Int) ∧ ((ws.getD word 0 : Nat) : Int) = (seen : Int)) := fun e => he (by have := e.2.2; omega)
          have e1 := decide_eq_false e2
          simp only [e1, if_neg e2] at kC
          clear e1 e2 hiL
          replace kC := Lib.hid kC
          replace he := Lib.hid he
          go_upto_region 8 with fail
          have z0 : ∀ t : Tw (fun w' => Blk w' gp 59 #[.pointer (some ⟨gc, 0, none⟩), .int .i64 (n : Int)] ∧ Blk w' pb 111 #[.int .i64 0, .int .i64 (word : Int), .int .i64 (left : Int), .int .i64 8, .bool false, .int .u64 (seen : Int), .slice (some ⟨wb, 0, none⟩) nw nw, .slice none 0 0, .slice none 0 0, .bool false, .bool false]), t.w.cell? ⟨gp, 0, none⟩ = some (.pointer (some ⟨gc, 0, none⟩)) := fun t => t.h.1.cell 0
          have z1 : ∀ t : Tw (fun w' => Blk w' gp 59 #[.pointer (some ⟨gc, 0, none⟩), .int .i64 (n : Int)] ∧ Blk w' pb 111 #[.int .i64 0, .int .i64 (word : Int), .int .i64 (left : Int), .int .i64 8, .bool false, .int .u64 (seen : Int), .slice (some ⟨wb, 0, none⟩) nw nw, .slice none 0 0, .slice none 0 0, .bool false, .bool false]), t.w.cell? ⟨pb, 1, none⟩ = some (.int .i64 (word : Int)) := fun t => t.h.2.cell 1
          have z5 : ∀ t : Tw (fun w' => Blk w' gp 59 #[.pointer (some ⟨gc, 0, none⟩), .int .i64 (n : Int)] ∧ Blk w' pb 111 #[.int .i64 0, .int .i64 (word : Int), .int .i64 (left : Int), .int .i64 8, .bool false, .int .u64 (seen : Int), .slice (some ⟨wb, 0, none⟩) nw nw, .slice none 0 0, .slice none 0 0, .bool false, .bool false]), t.w.cell? ⟨pb, 5, none⟩ = some (.int .u64 (seen : Int)) := fun t => t.h.2.cell 5
          have zz : Nonempty (Tw (fun w' => Blk w' gp 59 #[.pointer (some ⟨gc, 0, none⟩), .int .i64 (n : Int)] ∧ Blk w' pb 111 #[.int .i64 0, .int .i64 (word : Int), .int .i64 (left : Int), .int .i64 8, .bool false, .int .u64 (seen : Int), .slice (some ⟨wb, 0, none⟩) nw nw, .slice none 0 0, .slice none 0 0, .bool false, .bool false])) := ⟨⟨wr, pm'.obj, bp'⟩⟩
          refine wp_region_plan (fun w' => Blk w' gp 59 #[.pointer (some ⟨gc, 0, none⟩), .int .i64 (n : Int)] ∧ Blk w' pb 111 #[.int .i64 0, .int .i64 (word : Int), .int .i64 (left : Int), .int .i64 8, .bool false, .int .u64 (seen : Int), .slice (some ⟨wb, 0, none⟩) nw nw, .slice none 0 0, .slice none 0 0, .bool false, .bool false]) [(0, true), (1, true), (2, true), (3, true), (4, true), (5, true), (6, true), (7, true), (8, true), (9, true), (10, true), (11, true), (12, true), (13, true), (14, true), (15, true), (16, true), (17, false), (18, false)] (by kernel_rfl) (by kernel_rfl) (by kernel_rfl) (by kernel_rfl) ⟨pm'.obj.drew, bp'.drew⟩ ?_
          have bel' := bel.drew
          replace pm' : PoM wr.drew gp gc h n ws := ⟨pm'.obj.drew, pm'.cel.drew⟩
          replace bp' := bp'.drew
          replace own := own.drew
          clear bel
          generalize wr.drew = W1 at *
          refine wpPl_qs 17 _ _ _ (by kernel_rfl) (by kernel_rfl) (by simp) ?_
          unfold clsS
          simp only [List.take_succ_cons, List.take_zero, List.drop_succ_cons, List.drop_zero, List.filterMap_cons, List.filterMap_nil, List.getElem?_toArray, List.getElem?_cons_zero, List.getElem?_cons_succ]
          repeat (first
            | go_big_quiet_skip
            | (go_big_quiet_want; go_big_quiet_op; go_big_quiet_on)
            | (refine id (?_ : wpQuiet _ _ _ _ (_ :: _) _); first | go_big_quiet_skip | (go_big_quiet_want; go_big_quiet_op; go_big_quiet_on)))
          refine wpQuiet_nil ?_
          refine wpPl_e _ (by rfl) (by kernel_rfl) (fun K hK => ?_)
          go_simp
          refine (kc.out W1).mono ?_
          rintro e w' ⟨rfl, rfl⟩
          refine hK _ _ ⟨pm'.obj, bp'⟩ ?_
          clear hK K
          refine wpPl_e _ (by rfl) (by kernel_rfl) (fun K hK => ?_)
          go_simp
          refine (kC.out W1 pm'.cel).mono ?_
          rintro e W2 ⟨rfl, cel2, hu⟩
          have bp2 := bp'.upd hu (bp'.ne_ pm'.cel.row (by decide))
          refine hK _ _ ⟨pm'.obj.upd hu (pm'.obj.ne_ pm'.cel.row (by decide)), bp2⟩ ?_
          clear hK K kC kc z0 z1 z5 zz
          unfold wpPl
          refine NoPanic.normal ?_
          go_wp2_with fail
          go_end0
          exact ⟨rfl, (Upd.of_below bel' (fun b => b = h ∨ b = pb)).trans (hu.mono (fun k _ e => .inl e)), .inr ⟨he.out, ⟨pm'.obj.upd hu (pm'.obj.ne_ pm'.cel.row (by decide)), cel2⟩, bp2⟩⟩
end Go.Proofs.YtilhkhnjloplfaaGreatDoor
namespace Go.Proofs.YtilhkhnjloplfaaGreatDoor
set_option linter.unusedVariables false
set_option linter.unusedSimpArgs false
open Go.RowKit
def TkPost (W : World) (gp gc h n : Nat) (ws : List Nat) (pb nw wb word left : Nat) (rd : Bool) (seen : Nat) (e : Ending) (W' : World) : Prop :=
  e = .returned (.tuple #[]) ∧ Upd (fun b => b = h ∨ b = pb ∨ b = wb) W W' ∧ ∃ ws', PoM W' gp gc h n ws' ∧ (∃ cs, Blk W' wb 24 cs ∧ cs.size = nw) ∧
   ((∃ (word' left' : Nat) (rd' : Bool) (seen' : Nat), (∀ k, doS ws k (.fill word left rd seen) = (ws', k, .fill word' left' rd' seen')) ∧ Blk W' pb 111 #[.int .i64 0, .int .i64 (word' : Int), .int .i64 (left' : Int), .int .i64 8, .bool rd', .int .u64 (seen' : Int), .slice (some ⟨wb, 0, none⟩) nw nw, .slice none 0 0, .slice none 0 0, .bool false, .bool false]) ∨
    (∃ (got : List Nat) (pv : Value) (word' left' seen' : Nat), (∀ k, doS ws k (.fill word left rd seen) = (ws', { k with list := k.list ++ got.reverse }, .none)) ∧ Blk W' pb 111 #[.int .i64 0, .int .i64 (word' : Int), .int .i64 (left' : Int), .int .i64 8, .bool false, .int .u64 (seen' : Int), .slice (some ⟨wb, 0, none⟩) nw nw, .slice none 0 0, pv, .bool true, .bool false] ∧ Own .i64 3 W' W.heap.size pv (iN got)))
theorem Own.monoB {k : IntKind} {e : TypeId} {w : World} {base base' : Nat} {v : Value} {l : List Int} (h : Own k e w base v l) (hb : base' ≤ base) : Own k e w base' v l := by
  refine ⟨⟨h.row.1, ?_⟩, h.rng⟩
  rcases h.row.2 with h1 | ⟨g, cap, cur, h1, h2, h3⟩
  · exact .inl h1
  · exact .inr ⟨g, cap, cur, h1, Nat.le_trans hb h2, h3⟩
theorem doS_fill (ws : List Nat) (k : Wk) (word left : Nat) (rd : Bool) (seen : Nat) : doS ws k (.fill word left rd seen) =
    if rd = true then
      (if ws.getD word 0 = seen then (ws.set word (tkn seen 8), { k with list := k.list ++ (((frB seen).take 8).map (32 * word + ·)).reverse }, .none) else (ws, k, .fill word left false seen))
    else if frB (ws.getD word 0) ≠ [] then (ws, k, .fill word left true (ws.getD word 0))
    else if left = 1 then (ws, k, .none) else (ws, k, .fill ((word + 1) % ws.length) (left - 1) false (ws.getD word 0)) := rfl
theorem Tab.upd {S : Nat → Prop} {W W' : World} (h : Tab W) (hu : Upd S W W') (h0 : ¬ S 0) (hs : 0 < W.heap.size) : Tab W' := fun j hj => by
  rw [← h j hj]
  have hb := hu.block _ hs h0
  simp only [World.cell?, hb]
set_option maxRecDepth 100000 in
set_option maxHeartbeats 2000000 in
theorem take_any (W : World) (gp gc h n : Nat) (ws : List Nat) (pb nw wb word left : Nat) (rd : Bool) (seen : Nat) (cs : Array Value) (pm : PoM W gp gc h n ws) (bp : Blk W pb 111 #[.int .i64 0, .int .i64 (word : Int), .int .i64 (left : Int), .int .i64 8, .bool rd, .int .u64 (seen : Int), .slice (some ⟨wb, 0, none⟩) nw nw, .slice none 0 0, .slice none 0 0, .bool false, .bool false]) (bw : Blk W wb 24 cs) (hcs : cs.size = nw) (hnw : ws.length = nw) (hw : word < nw) (hl1 : 1 ≤ left) (hl2 : left ≤ nw) (hw2 : nw ≤ 2) (hs : seen < 18446744073709551616) (hrg : ∀ m, m ∈ ws → m < 18446744073709551616) (hT : Tab W) (h0 : 0 < pb ∧ 0 < h) :
    Calls Tryz.prog 42 #[.pointer (some ⟨gp, 0, none⟩), .pointer (some ⟨pb, 0, none⟩)] W (TkPost W gp gc h n ws pb nw wb word left rd seen) := by
  have hpw : wb ≠ pb := bw.ne_ bp (by decide)
  have hph : pb ≠ h := bp.ne_ pm.cel.row (by decide)
  have hwh : wb ≠ h := bw.ne_ pm.cel.row (by decide)
  have hgp : gp ≠ pb := pm.obj.ne_ bp (by decide)
  have hgw : gp ≠ wb := pm.obj.ne_ bw (by decide)
  have hcp : gc ≠ pb := fun e => by
    obtain ⟨o1, o2, o3, ho⟩ := pm.cel.obj
    exact ho.ne_ bp (by decide) e
  have hcw : gc ≠ wb := fun e => by
    obtain ⟨o1, o2, o3, ho⟩ := pm.cel.obj
    exact ho.ne_ bw (by decide) e
  have hsz : 0 < W.heap.size := Nat.lt_of_le_of_lt (Nat.zero_le _) bp.lt
  cases rd with
  | true =>
    have s4 := bp.cell 4
    have f4 := bp.frozen 4
    go_enter Tryz.func42, Tryz.ntmps42
    go_upto_region 2 with fail
    have b1 : Blk (W.setCell ⟨pb, 4, none⟩ (.bool false)) pb 111 #[.int .i64 0, .int .i64 (word : Int), .int .i64 (left : Int), .int .i64 8, .bool false, .int .u64 (seen : Int), .slice (some ⟨wb, 0, none⟩) nw nw, .slice none 0 0, .slice none 0 0, .bool false, .bool false] := bp.set_ 4 (.bool false)
    have u1 := Upd.one W pb 4 (.bool false)
    have pm1 := pm.upd u1 hgp hcp (Ne.symm hph)
    have w1 := bw.upd u1 hpw
    have hT1 := hT.upd u1 (by omega) (by omega)
    generalize W.setCell ⟨pb, 4, none⟩ (.bool false) = W1 at *
    clear s4 f4
    go_wp2_with fail
    refine (grab_any W1 gp gc h n ws pb nw wb word left seen pm1 b1 (by omega) (by omega) hs hT1).mono ?_
    rintro e W2 ⟨rfl, u2, hR⟩
    go_wp2_with fail
    go_end0
    have w2 := w1.upd u2 (by omega)
    have hu : Upd (fun b => b = h ∨ b = pb ∨ b = wb) W W2 := (u1.mono (fun k _ e => .inr (.inl e))).trans (u2.mono (fun k _ e => by omega))
    rcases hR with ⟨he, pm2, pv, b2, own⟩ | ⟨he, pm2, b2⟩
    · refine ⟨rfl, hu, _, pm2, ⟨cs, w2, hcs⟩, .inr ⟨gotN word ((frB seen).take 8), pv, word, left, seen, fun k => ?_, b2, own.monoB u1.size⟩⟩
      rw [doS_fill, if_pos rfl, if_pos he]; rfl
    · refine ⟨rfl, hu, _, pm2, ⟨cs, w2, hcs⟩, .inl ⟨word, left, false, seen, fun k => ?_, b2⟩⟩
      rw [doS_fill, if_pos rfl, if_neg he]
  | false =>
    obtain ⟨v, hv⟩ : ∃ v, ws.getD word 0 = v := ⟨_, rfl⟩
    have hv64 : v < 18446744073709551616 := by rw [← hv]; exact hrg _ (List.mem_of_getElem? (getD_some (by omega)))
    have s4 := bp.cell 4
    have kL := fun V (hc : Cel V gc h (iN ws)) => Load_any (word : Int) gc h (iN ws) V hc (by rw [iN_len]; omega)
    rw [celAt_iN, hv] at kL
    have hlow := low0 v
    replace kL := Lib.hid kL
    replace hv := Lib.hid hv
    go_enter Tryz.func42, Tryz.ntmps42
    go_upto_region 3 with fail
    have z0 : ∀ t : Tw (fun w' => Blk w' gp 59 #[.pointer (some ⟨gc, 0, none⟩), .int .i64 (n : Int)] ∧ ∃ sv : Int, Blk w' pb 111 #[.int .i64 0, .int .i64 (word : Int), .int .i64 (left : Int), .int .i64 8, .bool false, .int .u64 sv, .slice (some ⟨wb, 0, none⟩) nw nw, .slice none 0 0, .slice none 0 0, .bool false, .bool false]), t.w.cell? ⟨gp, 0, none⟩ = some (.pointer (some ⟨gc, 0, none⟩)) := fun t => t.h.1.cell 0
    have z1 : ∀ t : Tw (fun w' => Blk w' gp 59 #[.pointer (some ⟨gc, 0, none⟩), .int .i64 (n : Int)] ∧ ∃ sv : Int, Blk w' pb 111 #[.int .i64 0, .int .i64 (word : Int), .int .i64 (left : Int), .int .i64 8, .bool false, .int .u64 sv, .slice (some ⟨wb, 0, none⟩) nw nw, .slice none 0 0, .slice none 0 0, .bool false, .bool false]), t.w.cell? ⟨pb, 1, none⟩ = some (.int .i64 (word : Int)) := fun t => t.h.2.choose_spec.cell 1
    have zz : Nonempty (Tw (fun w' => Blk w' gp 59 #[.pointer (some ⟨gc, 0, none⟩), .int .i64 (n : Int)] ∧ ∃ sv : Int, Blk w' pb 111 #[.int .i64 0, .int .i64 (word : Int), .int .i64 (left : Int), .int .i64 8, .bool false, .int .u64 sv, .slice (some ⟨wb, 0, none⟩) nw nw, .slice none 0 0, .slice none 0 0, .bool false, .bool false])) := ⟨⟨W, pm.obj, _, bp⟩⟩
    refine wp_region_plan (fun w' => Blk w' gp 59 #[.pointer (some ⟨gc, 0, none⟩), .int .i64 (n : Int)] ∧ ∃ sv : Int, Blk w' pb 111 #[.int .i64 0, .int .i64 (word : Int), .int .i64 (left : Int), .int .i64 8, .bool false, .int .u64 sv, .slice (some ⟨wb, 0, none⟩) nw nw, .slice none 0 0, .slice none 0 0, .bool false, .bool false]) [(0, true), (1, true), (2, true), (3, true), (4, true), (5, true), (6, true), (7, true), (8, true), (9, false), (10, true), (11, true), (12, false)] (by kernel_rfl) (by kernel_rfl) (by kernel_rfl) (by kernel_rfl) ⟨pm.obj.drew, _, bp.drew⟩ ?_
    have u0 : Upd (fun b => b = pb) W W.drew := (Upd.refl (fun b => b = pb) W).drew
    replace pm : PoM W.drew gp gc h n ws := ⟨pm.obj.drew, pm.cel.drew⟩
    replace bp := bp.drew
    replace bw := bw.drew
    clear s4
    generalize W.drew = W1 at *
    refine wpPl_qs 9 _ _ _ (by kernel_rfl) (by kernel_rfl) (by simp) ?_
    unfold clsS
    simp only [List.take_succ_cons, List.take_zero, List.drop_succ_cons, List.drop_zero, List.filterMap_cons, List.filterMap_nil, List.getElem?_toArray, List.getElem?_cons_zero, List.getElem?_cons_succ]
    repeat (first
      | go_big_quiet_skip
      | (go_big_quiet_want; go_big_quiet_op; go_big_quiet_on)
      | (refine id (?_ : wpQuiet _ _ _ _ (_ :: _) _); first | go_big_quiet_skip | (go_big_quiet_want; go_big_quiet_op; go_big_quiet_on)))
    refine wpQuiet_nil ?_
    refine wpPl_e _ (by rfl) (by kernel_rfl) (fun K hK => ?_)
    go_simp
    refine (kL.out W1 pm.cel).mono ?_
    rintro e w' ⟨rfl, rfl⟩
    refine hK _ _ ⟨pm.obj, _, bp⟩ ?_
    clear hK K kL
    refine wpPl_qs 2 _ _ _ (by kernel_rfl) (by kernel_rfl) (by simp) ?_
    unfold clsS
    simp only [List.take_succ_cons, List.take_zero, List.drop_succ_cons, List.drop_zero, List.filterMap_cons, List.filterMap_nil, List.getElem?_toArray, List.getElem?_cons_zero, List.getElem?_cons_succ]
    repeat (first
      | go_big_quiet_skip
      | (go_big_quiet_want; go_big_quiet_op; go_big_quiet_on)
      | (refine id (?_ : wpQuiet _ _ _ _ (_ :: _) _); first | go_big_quiet_skip | (go_big_quiet_want; go_big_quiet_op; go_big_quiet_on)))
    refine wpQuiet_nil ?_
    have f5 := bp.frozen 5
    have c5 := bp.cell 5
    have b1 : Blk (W1.setCell ⟨pb, 5, none⟩ (.int .u64 (v : Int))) pb 111 #[.int .i64 0, .int .i64 (word : Int), .int .i64 (left : Int), .int .i64 8, .bool false, .int .u64 (v : Int), .slice (some ⟨wb, 0, none⟩) nw nw, .slice none 0 0, .slice none 0 0, .bool false, .bool false] := bp.set_ 5 (.int .u64 (v : Int))
    have u1 := Upd.one W1 pb 5 (.int .u64 (v : Int))
    have pm1 := pm.upd u1 hgp hcp (Ne.symm hph)
    have w1 := bw.upd u1 hpw
    refine wpPl_e _ (by rfl) (by kernel_rfl) (fun K hK => ?_)
    go_simp
    refine hK _ _ ⟨pm1.obj, _, b1⟩ ?_
    clear hK K z0 z1 zz f5 c5 bp pm bw
    unfold wpPl
    refine NoPanic.normal ?_
    replace u1 := u0.trans u1
    clear u0
    generalize W1.setCell ⟨pb, 5, none⟩ (.int .u64 (v : Int)) = W2 at *
    have s5 := b1.cell 5
    have hd := fun k => doS_fill ws k word left false seen
    rw [hv.out] at hd
    simp only [if_neg (show ¬ (false = true) by decide)] at hd
    by_cases hfull : frB v = []
    · have h1 : v % 4294967296 = 4294967295 := full_none.2 hfull
      have h2 : (((v % 4294967296 : Nat) : Int) == 4294967295) = true := by rw [h1]; rfl
      have h3 : (((v % 4294967296 : Nat) : Int) != 4294967295) = false := by rw [h1]; rfl
      have hmod : ((word : Int) + 1) % (nw : Int) = (((word + 1) % nw : Nat) : Int) := by push_cast; rfl
      replace hmod := Lib.hid hmod
      have hlf : (left : Int) - 1 = ((left - 1 : Nat) : Int) := by omega
      simp only [hfull, if_neg (show ¬ (([] : List Nat) ≠ []) by simp), hnw] at hd
      clear h1 hfull hv
      have s1 := b1.cell 1
      have s6 := b1.cell 6
      have w0 : (0 : Int) ≤ (word : Int) := by omega
      have w2' : (word : Int) < (nw : Int) := by omega
      have hwc : W2.cell? ⟨wb, word, none⟩ = some (cs[word]'(by omega)) := by rw [w1.cell, Array.getElem?_eq_getElem (by omega)]
      have hwf := w1.frozen word
      go_upto_region 6 with fail
      go_region
      clear hwc hwf s1 s6 s5
      have u3 := (Upd.one W2 wb word (.int .u64 (v : Int))).drew
      have b3 := b1.upd u3 (Ne.symm hpw)
      have pm3 := pm1.upd u3 hgw hcw (Ne.symm hwh)
      have w3 : Blk (W2.setCell ⟨wb, word, none⟩ (.int .u64 (v : Int))).drew wb 24 (cs.setIfInBounds word (.int .u64 (v : Int))) := (w1.set_ word (.int .u64 (v : Int))).drew
      generalize (W2.setCell ⟨wb, word, none⟩ (.int .u64 (v : Int))).drew = W3 at *
      clear b1 w1 pm1
      have s1 := b3.cell 1
      have s6 := b3.cell 6
      have f1 := b3.frozen 1
      go_upto_region 7 with fail
      go_region
      rw [hmod.out]
      clear s1 s6 f1
      have u4 := (Upd.one W3 pb 1 (.int .i64 (((word + 1) % nw : Nat) : Int))).drew
      have b4 : Blk (W3.setCell ⟨pb, 1, none⟩ (.int .i64 (((word + 1) % nw : Nat) : Int))).drew pb 111 #[.int .i64 0, .int .i64 (((word + 1) % nw : Nat) : Int), .int .i64 (left : Int), .int .i64 8, .bool false, .int .u64 (v : Int), .slice (some ⟨wb, 0, none⟩) nw nw, .slice none 0 0, .slice none 0 0, .bool false, .bool false] := (b3.set_ 1 (.int .i64 (((word + 1) % nw : Nat) : Int))).drew
      have pm4 := pm3.upd u4 hgp hcp (Ne.symm hph)
      have w4 := w3.upd u4 hpw
      generalize (W3.setCell ⟨pb, 1, none⟩ (.int .i64 (((word + 1) % nw : Nat) : Int))).drew = W4 at *
      clear b3 w3 pm3
      have s2 := b4.cell 2
      have f2 := b4.frozen 2
      go_upto_region 9 with fail
      clear s2 f2
      have u5 := Upd.one W4 pb 2 (.int .i64 ((left - 1 : Nat) : Int))
      have b5 : Blk (W4.setCell ⟨pb, 2, none⟩ (.int .i64 ((left - 1 : Nat) : Int))) pb 111 #[.int .i64 0, .int .i64 (((word + 1) % nw : Nat) : Int), .int .i64 ((left - 1 : Nat) : Int), .int .i64 8, .bool false, .int .u64 (v : Int), .slice (some ⟨wb, 0, none⟩) nw nw, .slice none 0 0, .slice none 0 0, .bool false, .bool false] := b4.set_ 2 (.int .i64 ((left - 1 : Nat) : Int))
      have pm5 := pm4.upd u5 hgp hcp (Ne.symm hph)
      have w5 := w4.upd u5 hpw
      generalize W4.setCell ⟨pb, 2, none⟩ (.int .i64 ((left - 1 : Nat) : Int)) = W5 at *
      clear b4 w4 pm4
      have s2 := b5.cell 2
      have f9 := b5.frozen 9
      have c9 := b5.cell 9
      have hu5 : Upd (fun b => b = h ∨ b = pb ∨ b = wb) W W5 := (((u1.mono (fun k _ e => .inr (.inl e))).trans (u3.mono (fun k _ e => .inr (.inr e)))).trans (u4.mono (fun k _ e => .inr (.inl e)))).trans (u5.mono (fun k _ e => .inr (.inl e)))
      clear u1 u3 u4 u5
      generalize hl1' : left - 1 = l1 at *
      generalize (word + 1) % nw = wd' at *
      replace hl1' := Lib.hid hl1'
      by_cases h1 : left = 1
      · have e1 : l1 = 0 := by have := hl1'.out; omega
        subst e1
        simp only [if_pos h1] at hd
        replace hd := Lib.hid hd
        go_wp2_with fail
        go_end0
        have u6 := Upd.one W5 pb 9 (.bool true)
        have b6 : Blk (W5.setCell ⟨pb, 9, none⟩ (.bool true)) pb 111 #[.int .i64 0, .int .i64 (wd' : Int), .int .i64 ((0 : Nat) : Int), .int .i64 8, .bool false, .int .u64 (v : Int), .slice (some ⟨wb, 0, none⟩) nw nw, .slice none 0 0, .slice none 0 0, .bool true, .bool false] := b5.set_ 9 (.bool true)
        refine ⟨rfl, hu5.trans (u6.mono (fun k _ e => .inr (.inl e))), _, pm5.upd u6 hgp hcp (Ne.symm hph), ⟨_, w5.upd u6 hpw, by simp [hcs]⟩, .inr ⟨[], _, wd', 0, v, fun k => ?_, b6, Own.nil _ _ _ _⟩⟩
        rw [hd.out, List.reverse_nil, List.append_nil]
      · simp only [if_neg h1] at hd
        have e1 : ((l1 : Int) == 0) = false := by have := hl1'.out; simp; omega
        replace hd := Lib.hid hd
        go_wp2_with fail
        go_end0
        have u6 := Upd.one W5 pb 9 (.bool false)
        have b6 : Blk (W5.setCell ⟨pb, 9, none⟩ (.bool false)) pb 111 #[.int .i64 0, .int .i64 (wd' : Int), .int .i64 (l1 : Int), .int .i64 8, .bool false, .int .u64 (v : Int), .slice (some ⟨wb, 0, none⟩) nw nw, .slice none 0 0, .slice none 0 0, .bool false, .bool false] := b5.set_ 9 (.bool false)
        exact ⟨rfl, hu5.trans (u6.mono (fun k _ e => .inr (.inl e))), _, pm5.upd u6 hgp hcp (Ne.symm hph), ⟨_, w5.upd u6 hpw, by simp [hcs]⟩, .inl ⟨wd', l1, false, v, hd.out, b6⟩⟩
    · have h1 : ¬ v % 4294967296 = 4294967295 := fun e => hfull (full_none.1 e)
      have h2 : (((v % 4294967296 : Nat) : Int) == 4294967295) = false := by simp; omega
      have h3 : (((v % 4294967296 : Nat) : Int) != 4294967295) = true := by simp; omega
      simp only [if_pos hfull] at hd
      clear h1 hfull
      replace hd := Lib.hid hd
      have f4 := b1.frozen 4
      have c4 := b1.cell 4
      go_wp2_with fail
      go_end0
      have b2 : Blk (W2.setCell ⟨pb, 4, none⟩ (.bool true)) pb 111 #[.int .i64 0, .int .i64 (word : Int), .int .i64 (left : Int), .int .i64 8, .bool true, .int .u64 (v : Int), .slice (some ⟨wb, 0, none⟩) nw nw, .slice none 0 0, .slice none 0 0, .bool false, .bool false] := b1.set_ 4 (.bool true)
      have u2 := Upd.one W2 pb 4 (.bool true)
      exact ⟨rfl, (u1.trans u2).mono (fun k _ e => .inr (.inl e)), _, pm1.upd u2 hgp hcp (Ne.symm hph), ⟨cs, w1.upd u2 hpw, hcs⟩, .inl ⟨word, left, true, v, hd.out, b2⟩⟩
end Go.Proofs.YtilhkhnjloplfaaGreatDoor
namespace Go.Proofs.YtilhkhnjloplfaaGreatDoor
set_option linter.unusedVariables false
set_option linter.unusedSimpArgs false
open Go.RowKit
structure BkPost (W : World) (gp gc h n : Nat) (ws : List Nat) (pb : Nat) (parts : List (Nat × Nat)) (rd : Bool) (seen : Nat) (A : Option Addr) (e : Ending) (W' : World) : Prop where
  ret : e = .returned (.tuple #[])
  upd : Upd (fun b => b = h ∨ b = pb) W W'
  ex : ∃ (ws' : List Nat) (parts' : List (Nat × Nat)) (rd' : Bool) (seen' : Nat) (A' : Option Addr) (m' c' : Nat) (dn : Bool), PoM W' gp gc h n ws' ∧ Blk W' pb 111 #[.int .i64 2, .int .i64 0, .int .i64 0, .int .i64 0, .bool rd', .int .u64 (seen' : Int), .slice none 0 0, .slice A' m' c', .slice none 0 0, .bool dn, .bool false] ∧ RdT PtC 2 W' W'.heap.size A' m' parts' ∧ m' ≤ c' ∧ c' ≤ 9223372036854775807 ∧
    (∀ b i, A' = some ⟨b, i, none⟩ → ∃ i', A = some ⟨b, i', none⟩) ∧ (∀ k : Wk, k.parts = parts → doS ws k (.back rd seen) = (ws', { k with parts := parts' }, if dn = true then .none else .back rd' seen')) ∧ (dn = true → parts' = [])
theorem doS_back (ws : List Nat) (k : Wk) (rd : Bool) (seen : Nat) {i q : Nat} {r : List (Nat × Nat)} (hp : k.parts = (i, q) :: r) : doS ws k (.back rd seen) =
    if rd = false then (ws, k, .back true (ws.getD i 0))
      else if ws.getD i 0 = seen then (ws.set i (bkn seen q), { k with parts := r }, if r = [] then .none else .back false seen)
      else (ws, k, .back false seen) := by
  unfold doS
  rw [hp]
theorem wk_eta {k : Wk} {p : List (Nat × Nat)} (h : k.parts = p) : ({ k with parts := p } : Wk) = k := by subst h; rfl
set_option maxRecDepth 100000 in
set_option maxHeartbeats 2000000 in
theorem back_nil (W : World) (gp gc h n : Nat) (ws : List Nat) (pb : Nat) (rd : Bool) (seen : Nat) (A : Option Addr) (c : Nat) (pm : PoM W gp gc h n ws) (bp : Blk W pb 111 #[.int .i64 2, .int .i64 0, .int .i64 0, .int .i64 0, .bool rd, .int .u64 (seen : Int), .slice none 0 0, .slice A 0 c, .slice none 0 0, .bool false, .bool false]) (hc : c ≤ 9223372036854775807) :
    Calls Tryz.prog 44 #[.pointer (some ⟨gp, 0, none⟩), .pointer (some ⟨pb, 0, none⟩)] W (BkPost W gp gc h n ws pb [] rd seen A) := by
  have hgp : gp ≠ pb := pm.obj.ne_ bp (by decide)
  have hph : pb ≠ h := bp.ne_ pm.cel.row (by decide)
  have hcp : gc ≠ pb := fun e => by
    obtain ⟨o1, o2, o3, ho⟩ := pm.cel.obj
    exact ho.ne_ bp (by decide) e
  have s7 := bp.cell 7
  have s9 := bp.cell 9
  have f9 := bp.frozen 9
  go_enter Tryz.func44, Tryz.ntmps44
  go_wp2_with fail
  go_end0
  have u1 := Upd.one W pb 9 (.bool true)
  exact ⟨rfl, u1.mono (fun k _ e => .inr e), ws, [], rd, seen, A, 0, c, true, pm.upd u1 hgp hcp (Ne.symm hph), bp.set_ 9 (.bool true), RdT.nil _ _ _ _ _, Nat.zero_le _, hc, fun b i e => ⟨i, e⟩, fun k hk => by
    unfold doS; rw [hk]
    show (ws, k, St.none) = _
    rw [wk_eta hk]; rfl, fun _ => rfl⟩
theorem ptd_size : (Tryz.prog.info? 130).map (·.size) = some 2 := by kernel_rfl
set_option maxRecDepth 100000 in
set_option maxHeartbeats 2000000 in
theorem back_cons (W : World) (gp gc h n : Nat) (ws : List Nat) (pb : Nat) (i q : Nat) (r : List (Nat × Nat)) (rd : Bool) (seen : Nat) (b o m c : Nat) (pm : PoM W gp gc h n ws) (bp : Blk W pb 111 #[.int .i64 2, .int .i64 0, .int .i64 0, .int .i64 0, .bool rd, .int .u64 (seen : Int), .slice none 0 0, .slice (some ⟨b, o, none⟩) m c, .slice none 0 0, .bool false, .bool false]) (hr : RdT PtC 2 W W.heap.size (some ⟨b, o, none⟩) m ((i, q) :: r)) (hmc : m ≤ c) (hc : c ≤ 9223372036854775807)
    (hi : i < ws.length) (hw2 : ws.length ≤ 2) (hq : q < 4294967296) (hbit : ws.getD i 0 &&& q ≠ 0) (hs : seen < 18446744073709551616) (hrg : ∀ m, m ∈ ws → m < 18446744073709551616) (hbp : b ≠ pb) (hbh : b ≠ h) :
    Calls Tryz.prog 44 #[.pointer (some ⟨gp, 0, none⟩), .pointer (some ⟨pb, 0, none⟩)] W (BkPost W gp gc h n ws pb ((i, q) :: r) rd seen (some ⟨b, o, none⟩)) := by
  have hgp : gp ≠ pb := pm.obj.ne_ bp (by decide)
  have hph : pb ≠ h := bp.ne_ pm.cel.row (by decide)
  have hcp : gc ≠ pb := fun e => by
    obtain ⟨o1, o2, o3, ho⟩ := pm.cel.obj
    exact ho.ne_ bp (by decide) e
  have hml := hr.len
  rw [List.length_cons] at hml
  have hm0 : 0 < m := by omega
  have hcx : ∀ j u, (PtC (i, q))[j]? = some u → W.cell? ⟨b, o + j, none⟩ = some u := fun j u hu => by
    obtain ⟨b', o', e, _, hc'⟩ := hr.cel hm0
    simp only [Option.some.injEq, Addr.mk.injEq, and_true] at e
    obtain ⟨rfl, rfl⟩ := e
    have := hc' 0 (i, q) rfl j u hu
    simpa using this
  unfold PtC at hcx
  have hme : ((m : Int) == 0) = false := by simp; omega
  have m0 : (0 : Int) < (m : Int) := by omega
  have m1 : (1 : Int) ≤ (m : Int) := by omega
  have m2 : (m : Int) ≤ (c : Int) := by omega
  have s7 := bp.cell 7
  have s4 := bp.cell 4
  have bx := Blk.new W 130 #[.int .i64 (i : Int), .int .u64 (q : Int)]
  have hbA := bel_alloc W (.cells #[.int .i64 (i : Int), .int .u64 (q : Int)] 130)
  obtain ⟨v, hv⟩ : ∃ v, ws.getD i 0 = v := ⟨_, rfl⟩
  have hv64 : v < 18446744073709551616 := by rw [← hv]; exact hrg _ (List.mem_of_getElem? (getD_some (by omega)))
  rw [hv] at hbit
  go_enter Tryz.func44, Tryz.ntmps44
  go_upto_region 3 with (refine wpList_ldAt rfl rfl rfl hcx Tryz.underlying130 ptd_size ?_)
  replace hcx := Lib.hid hcx
  have pm1 := pm.bel hbA
  have bp1 := bp.bel hbA
  have hr1 : RdT PtC 2 (W.alloc (.cells #[.int .i64 (i : Int), .int .u64 (q : Int)] 130)) (W.alloc (.cells #[.int .i64 (i : Int), .int .u64 (q : Int)] 130)).heap.size (some ⟨b, o, none⟩) m ((i, q) :: r) := (hr.below hbA).more hbA.size
  have hxp : W.heap.size ≠ pb := by have := bp.lt; omega
  have hxh : W.heap.size ≠ h := by have := pm.cel.row.lt; omega
  have hu0 := Upd.of_below hbA (fun b => b = h ∨ b = pb)
  have hblt : b < W.heap.size := by
    obtain ⟨b', o', e, hb', _⟩ := hr.cel hm0
    simp only [Option.some.injEq, Addr.mk.injEq, and_true] at e
    rw [e.1]; exact hb'
  clear s7 s4 hcx
  generalize W.alloc (.cells #[.int .i64 (i : Int), .int .u64 (q : Int)] 130) = W1 at *
  generalize W.heap.size = gx at *
  have hl := fun k (hk : k.parts = (i, q) :: r) => doS_back ws k rd seen hk
  rw [hv] at hl
  have s4 := bp1.cell 4
  cases rd with
  | false =>
    have kL := fun V (hc : Cel V gc h (iN ws)) => Load_any (i : Int) gc h (iN ws) V hc (by rw [iN_len]; omega)
    rw [celAt_iN, hv] at kL
    replace kL := Lib.hid kL
    replace hv := Lib.hid hv
    simp only [if_pos (show (false = false) from rfl)] at hl
    replace hl := Lib.hid hl
    have han := bits_and_u64_nat v q hv64 (by omega)
    have hne : (((v &&& q : Nat) : Int) != 0) = true := by simp; omega
    have hne0 : (((v &&& q : Nat) : Int) == 0) = false := by simp; omega
    clear hr bp pm
    go_upto_region 4 with fail
    have z0 : ∀ t : Tw (fun w' => Blk w' gp 59 #[.pointer (some ⟨gc, 0, none⟩), .int .i64 (n : Int)] ∧ Blk w' gx 130 #[.int .i64 (i : Int), .int .u64 (q : Int)] ∧ ∃ sv : Int, Blk w' pb 111 #[.int .i64 2, .int .i64 0, .int .i64 0, .int .i64 0, .bool false, .int .u64 sv, .slice none 0 0, .slice (some ⟨b, o, none⟩) m c, .slice none 0 0, .bool false, .bool false]), t.w.cell? ⟨gp, 0, none⟩ = some (.pointer (some ⟨gc, 0, none⟩)) := fun t => t.h.1.cell 0
    have z1 : ∀ t : Tw (fun w' => Blk w' gp 59 #[.pointer (some ⟨gc, 0, none⟩), .int .i64 (n : Int)] ∧ Blk w' gx 130 #[.int .i64 (i : Int), .int .u64 (q : Int)] ∧ ∃ sv : Int, Blk w' pb 111 #[.int .i64 2, .int .i64 0, .int .i64 0, .int .i64 0, .bool false, .int .u64 sv, .slice none 0 0, .slice (some ⟨b, o, none⟩) m c, .slice none 0 0, .bool false, .bool false]), t.w.cell? ⟨gx, 0, none⟩ = some (.int .i64 (i : Int)) := fun t => t.h.2.1.cell 0
    have zz : Nonempty (Tw (fun w' => Blk w' gp 59 #[.pointer (some ⟨gc, 0, none⟩), .int .i64 (n : Int)] ∧ Blk w' gx 130 #[.int .i64 (i : Int), .int .u64 (q : Int)] ∧ ∃ sv : Int, Blk w' pb 111 #[.int .i64 2, .int .i64 0, .int .i64 0, .int .i64 0, .bool false, .int .u64 sv, .slice none 0 0, .slice (some ⟨b, o, none⟩) m c, .slice none 0 0, .bool false, .bool false])) := ⟨⟨W1, pm1.obj, bx, _, bp1⟩⟩
    refine wp_region_plan (fun w' => Blk w' gp 59 #[.pointer (some ⟨gc, 0, none⟩), .int .i64 (n : Int)] ∧ Blk w' gx 130 #[.int .i64 (i : Int), .int .u64 (q : Int)] ∧ ∃ sv : Int, Blk w' pb 111 #[.int .i64 2, .int .i64 0, .int .i64 0, .int .i64 0, .bool false, .int .u64 sv, .slice none 0 0, .slice (some ⟨b, o, none⟩) m c, .slice none 0 0, .bool false, .bool false]) [(0, true), (1, true), (2, true), (3, true), (4, true), (5, true), (6, true), (7, false), (8, true), (9, true), (10, false)] (by kernel_rfl) (by kernel_rfl) (by kernel_rfl) (by kernel_rfl) ⟨pm1.obj.drew, bx.drew, _, bp1.drew⟩ ?_
    replace pm1 : PoM W1.drew gp gc h n ws := ⟨pm1.obj.drew, pm1.cel.drew⟩
    replace bp1 := bp1.drew
    replace bx := bx.drew
    replace hr1 : RdT PtC 2 W1.drew W1.drew.heap.size (some ⟨b, o, none⟩) m ((i, q) :: r) := (hr1.below (Below.refl W1.heap.size W1).drew).more (Nat.le_refl _)
    replace hu0 := hu0.drew
    clear s4
    generalize W1.drew = W2 at *
    refine wpPl_qs 7 _ _ _ (by kernel_rfl) (by kernel_rfl) (by simp) ?_
    unfold clsS
    simp only [List.take_succ_cons, List.take_zero, List.drop_succ_cons, List.drop_zero, List.filterMap_cons, List.filterMap_nil, List.getElem?_toArray, List.getElem?_cons_zero, List.getElem?_cons_succ]
    repeat (first
      | go_big_quiet_skip
      | (go_big_quiet_want; go_big_quiet_op; go_big_quiet_on)
      | (refine id (?_ : wpQuiet _ _ _ _ (_ :: _) _); first | go_big_quiet_skip | (go_big_quiet_want; go_big_quiet_op; go_big_quiet_on)))
    refine wpQuiet_nil ?_
    refine wpPl_e _ (by rfl) (by kernel_rfl) (fun K hK => ?_)
    go_simp
    refine (kL.out W2 pm1.cel).mono ?_
    rintro e w' ⟨rfl, rfl⟩
    refine hK _ _ ⟨pm1.obj, bx, _, bp1⟩ ?_
    clear hK K kL
    refine wpPl_qs 2 _ _ _ (by kernel_rfl) (by kernel_rfl) (by simp) ?_
    unfold clsS
    simp only [List.take_succ_cons, List.take_zero, List.drop_succ_cons, List.drop_zero, List.filterMap_cons, List.filterMap_nil, List.getElem?_toArray, List.getElem?_cons_zero, List.getElem?_cons_succ]
    repeat (first
      | go_big_quiet_skip
      | (go_big_quiet_want; go_big_quiet_op; go_big_quiet_on)
      | (refine id (?_ : wpQuiet _ _ _ _ (_ :: _) _); first | go_big_quiet_skip | (go_big_quiet_want; go_big_quiet_op; go_big_quiet_on)))
    refine wpQuiet_nil ?_
    have f5 := bp1.frozen 5
    have c5 := bp1.cell 5
    have u1 := Upd.one W2 pb 5 (.int .u64 (v : Int))
    have b2 : Blk (W2.setCell ⟨pb, 5, none⟩ (.int .u64 (v : Int))) pb 111 #[.int .i64 2, .int .i64 0, .int .i64 0, .int .i64 0, .bool false, .int .u64 (v : Int), .slice none 0 0, .slice (some ⟨b, o, none⟩) m c, .slice none 0 0, .bool false, .bool false] := bp1.set_ 5 (.int .u64 (v : Int))
    have bx2 := bx.upd u1 hxp
    have pm2 := pm1.upd u1 hgp hcp (Ne.symm hph)
    have hr2 := hr1.updI (I := fun k => k = b) (fun b' i' e => by simp only [Option.some.injEq, Addr.mk.injEq] at e; exact e.1.symm) u1 (fun k e e2 => hbp (e ▸ e2))
    refine wpPl_e _ (by rfl) (by kernel_rfl) (fun K hK => ?_)
    go_simp
    refine hK _ _ ⟨pm2.obj, bx2, _, b2⟩ ?_
    clear hK K z0 z1 zz f5 c5 bp1 pm1 bx hr1
    unfold wpPl
    refine NoPanic.normal ?_
    replace hu0 := hu0.trans (u1.mono (fun k _ e => .inr e))
    clear u1
    generalize W2.setCell ⟨pb, 5, none⟩ (.int .u64 (v : Int)) = W3 at *
    have s5 := b2.cell 5
    have x1 := bx2.cell 1
    have f4 := b2.frozen 4
    have s4 := b2.cell 4
    go_upto_region 5 with fail
    go_region
    clear s5 x1 f4 s4
    have u1 := (Upd.one W3 pb 4 (.bool true)).drew
    have b3 : Blk (W3.setCell ⟨pb, 4, none⟩ (.bool true)).drew pb 111 #[.int .i64 2, .int .i64 0, .int .i64 0, .int .i64 0, .bool true, .int .u64 (v : Int), .slice none 0 0, .slice (some ⟨b, o, none⟩) m c, .slice none 0 0, .bool false, .bool false] := (b2.set_ 4 (.bool true)).drew
    have pm3 := pm2.upd u1 hgp hcp (Ne.symm hph)
    have hr3 := hr2.updI (I := fun k => k = b) (fun b' i' e => by simp only [Option.some.injEq, Addr.mk.injEq] at e; exact e.1.symm) u1 (fun k e e2 => hbp (e ▸ e2))
    replace hu0 := hu0.trans (u1.mono (fun k _ e => .inr e))
    clear u1
    generalize (W3.setCell ⟨pb, 4, none⟩ (.bool true)).drew = W4 at *
    have s4 := b3.cell 4
    go_wp2_with fail
    go_end0
    exact ⟨rfl, hu0, ws, (i, q) :: r, true, v, _, m, c, false, pm3, b3, hr3, hmc, hc, fun b' i' e => ⟨_, e⟩, fun k hk => by
      rw [hl.out k hk, wk_eta hk]; rfl, fun e => by cases e⟩
  | true =>
    have f4 := bp1.frozen 4
    go_upto_region 8 with fail
    have u1 := Upd.one W1 pb 4 (.bool false)
    have b2 : Blk (W1.setCell ⟨pb, 4, none⟩ (.bool false)) pb 111 #[.int .i64 2, .int .i64 0, .int .i64 0, .int .i64 0, .bool false, .int .u64 (seen : Int), .slice none 0 0, .slice (some ⟨b, o, none⟩) m c, .slice none 0 0, .bool false, .bool false] := bp1.set_ 4 (.bool false)
    have bx2 := bx.upd u1 hxp
    have pm2 := pm1.upd u1 hgp hcp (Ne.symm hph)
    have hr2 := hr1.updI (I := fun k => k = b) (fun b' i' e => by simp only [Option.some.injEq, Addr.mk.injEq] at e; exact e.1.symm) u1 (fun k e e2 => hbp (e ▸ e2))
    replace hu0 := hu0.trans (u1.mono (fun k _ e => .inr e))
    clear u1 s4 f4 bp1 bx pm1 hr1 hr bp pm
    generalize W1.setCell ⟨pb, 4, none⟩ (.bool false) = W2 at *
    have hlo : seen % 4294967296 &&& (18446744073709551615 ^^^ q) < 4294967296 := bkn_lower seen q
    have kC := fun (V : World) (hc : Cel V gc h (iN ws)) => Cas_any (i : Int) (seen : Int) ((bkn seen q : Nat) : Int) gc h (iN ws) V hc (by rw [iN_len]; omega) (u64_inr (by have := bkn_lt seen q; show 0 ≤ ((bkn seen q : Nat) : Int) ∧ ((bkn seen q : Nat) : Int) ≤ _; omega))
    have kc : ∀ V, Calls Tryz.prog 67 #[.int .u64 (seen : Int), .int .u64 ((seen % 4294967296 &&& (18446744073709551615 ^^^ q) : Nat) : Int)] V fun e W' => e = .returned (.int .u64 ((bkn seen q : Nat) : Int)) ∧ V = W' := fun V => changed_any seen _ V hs hlo
    have hiL : (0 ≤ (i : Int) ∧ (i : Int) < ((iN ws).length : Int)) := by rw [iN_len]; omega
    rw [celAt_iN, celSet_iN ws hi, hv] at kC
    have hl0 := low0 seen
    have han : bits .andNot .u64 ((seen % 4294967296 : Nat) : Int) (q : Int) = ((seen % 4294967296 &&& (18446744073709551615 ^^^ q) : Nat) : Int) := andNot_nat _ _ (by omega) (by omega)
    have han2 : bits .andNot .u64 ((seen : Int) % 4294967296) (q : Int) = ((seen % 4294967296 &&& (18446744073709551615 ^^^ q) : Nat) : Int) := by rw [← han, show ((seen % 4294967296 : Nat) : Int) = (seen : Int) % 4294967296 by omega]
    obtain ⟨lo, hlo'⟩ : ∃ lo, seen % 4294967296 &&& (18446744073709551615 ^^^ q) = lo := ⟨_, rfl⟩
    rw [hlo'] at kc han han2
    clear hlo
    replace hlo' := Lib.hid hlo'
    replace kc := Lib.hid kc
    simp only [if_neg (show ¬ (true = false) by decide)] at hl
    by_cases he : v = seen
    · have e1 : decide (0 ≤ (i : Int) ∧ (i : Int) < ((iN ws).length : Int) ∧ (v : Int) = (seen : Int)) = true := decide_eq_true ⟨hiL.1, hiL.2, by rw [he]⟩
      have e2 : (0 ≤ (i : Int) ∧ (i : Int) < ((iN ws).length : Int) ∧ (v : Int) = (seen : Int)) := of_decide_eq_true e1
      simp only [e1, if_pos e2] at kC
      simp only [if_pos he] at hl
      clear e1 e2 hiL
      replace kC := Lib.hid kC
      replace he := Lib.hid he
      replace hl := Lib.hid hl
      replace hv := Lib.hid hv
      have z1 : ∀ t : Tw (fun w' => Blk w' gp 59 #[.pointer (some ⟨gc, 0, none⟩), .int .i64 (n : Int)] ∧ Blk w' gx 130 #[.int .i64 (i : Int), .int .u64 (q : Int)] ∧ Blk w' pb 111 #[.int .i64 2, .int .i64 0, .int .i64 0, .int .i64 0, .bool false, .int .u64 (seen : Int), .slice none 0 0, .slice (some ⟨b, o, none⟩) m c, .slice none 0 0, .bool false, .bool false]), t.w.cell? ⟨gx, 0, none⟩ = some (.int .i64 (i : Int)) := fun t => t.h.2.1.cell 0
      have z2 : ∀ t : Tw (fun w' => Blk w' gp 59 #[.pointer (some ⟨gc, 0, none⟩), .int .i64 (n : Int)] ∧ Blk w' gx 130 #[.int .i64 (i : Int), .int .u64 (q : Int)] ∧ Blk w' pb 111 #[.int .i64 2, .int .i64 0, .int .i64 0, .int .i64 0, .bool false, .int .u64 (seen : Int), .slice none 0 0, .slice (some ⟨b, o, none⟩) m c, .slice none 0 0, .bool false, .bool false]), t.w.cell? ⟨gx, 1, none⟩ = some (.int .u64 (q : Int)) := fun t => t.h.2.1.cell 1
      have z5 : ∀ t : Tw (fun w' => Blk w' gp 59 #[.pointer (some ⟨gc, 0, none⟩), .int .i64 (n : Int)] ∧ Blk w' gx 130 #[.int .i64 (i : Int), .int .u64 (q : Int)] ∧ Blk w' pb 111 #[.int .i64 2, .int .i64 0, .int .i64 0, .int .i64 0, .bool false, .int .u64 (seen : Int), .slice none 0 0, .slice (some ⟨b, o, none⟩) m c, .slice none 0 0, .bool false, .bool false]), t.w.cell? ⟨pb, 5, none⟩ = some (.int .u64 (seen : Int)) := fun t => t.h.2.2.cell 5
      have z0 : ∀ t : Tw (fun w' => Blk w' gp 59 #[.pointer (some ⟨gc, 0, none⟩), .int .i64 (n : Int)] ∧ Blk w' gx 130 #[.int .i64 (i : Int), .int .u64 (q : Int)] ∧ Blk w' pb 111 #[.int .i64 2, .int .i64 0, .int .i64 0, .int .i64 0, .bool false, .int .u64 (seen : Int), .slice none 0 0, .slice (some ⟨b, o, none⟩) m c, .slice none 0 0, .bool false, .bool false]), t.w.cell? ⟨gp, 0, none⟩ = some (.pointer (some ⟨gc, 0, none⟩)) := fun t => t.h.1.cell 0
      have zz : Nonempty (Tw (fun w' => Blk w' gp 59 #[.pointer (some ⟨gc, 0, none⟩), .int .i64 (n : Int)] ∧ Blk w' gx 130 #[.int .i64 (i : Int), .int .u64 (q : Int)] ∧ Blk w' pb 111 #[.int .i64 2, .int .i64 0, .int .i64 0, .int .i64 0, .bool false, .int .u64 (seen : Int), .slice none 0 0, .slice (some ⟨b, o, none⟩) m c, .slice none 0 0, .bool false, .bool false])) := ⟨⟨W2, pm2.obj, bx2, b2⟩⟩
      refine wp_region_plan (fun w' => Blk w' gp 59 #[.pointer (some ⟨gc, 0, none⟩), .int .i64 (n : Int)] ∧ Blk w' gx 130 #[.int .i64 (i : Int), .int .u64 (q : Int)] ∧ Blk w' pb 111 #[.int .i64 2, .int .i64 0, .int .i64 0, .int .i64 0, .bool false, .int .u64 (seen : Int), .slice none 0 0, .slice (some ⟨b, o, none⟩) m c, .slice none 0 0, .bool false, .bool false]) [(0, true), (1, true), (2, true), (3, true), (4, true), (5, true), (6, true), (7, true), (8, true), (9, true), (10, true), (11, true), (12, true), (13, true), (14, true), (15, true), (16, true), (17, true), (18, true), (19, true), (20, true), (21, true), (22, false), (23, false), (24, true)] (by kernel_rfl) (by kernel_rfl) (by kernel_rfl) (by kernel_rfl) ⟨pm2.obj.drew, bx2.drew, b2.drew⟩ ?_
      replace pm2 : PoM W2.drew gp gc h n ws := ⟨pm2.obj.drew, pm2.cel.drew⟩
      replace b2 := b2.drew
      replace bx2 := bx2.drew
      replace hr2 := (hr2.below (Below.refl W2.heap.size W2).drew).more (B' := W2.drew.heap.size) (Nat.le_refl _)
      replace hu0 := hu0.drew
      generalize W2.drew = W3 at *
      refine wpPl_qs 22 _ _ _ (by kernel_rfl) (by kernel_rfl) (by simp) ?_
      unfold clsS
      simp only [List.take_succ_cons, List.take_zero, List.drop_succ_cons, List.drop_zero, List.filterMap_cons, List.filterMap_nil, List.getElem?_toArray, List.getElem?_cons_zero, List.getElem?_cons_succ]
      repeat (first
        | go_big_quiet_skip
        | (go_big_quiet_want; go_big_quiet_op; go_big_quiet_on)
        | (refine id (?_ : wpQuiet _ _ _ _ (_ :: _) _); first | go_big_quiet_skip | (go_big_quiet_want; go_big_quiet_op; go_big_quiet_on)))
      refine wpQuiet_nil ?_
      refine wpPl_e _ (by rfl) (by kernel_rfl) (fun K hK => ?_)
      go_simp
      refine (kc.out W3).mono ?_
      rintro e w' ⟨rfl, rfl⟩
      refine hK _ _ ⟨pm2.obj, bx2, b2⟩ ?_
      clear hK K
      refine wpPl_e _ (by rfl) (by kernel_rfl) (fun K hK => ?_)
      go_simp
      refine (kC.out W3 pm2.cel).mono ?_
      rintro e W4 ⟨rfl, cel3, u1⟩
      have b3 := b2.upd u1 hph
      have pm3 : PoM W4 gp gc h n _ := ⟨pm2.obj.upd u1 (pm2.obj.ne_ pm2.cel.row (by decide)), cel3⟩
      have bx3 := bx2.upd u1 hxh
      have hr3 := hr2.updI (I := fun k => k = b) (fun b' i' e => by simp only [Option.some.injEq, Addr.mk.injEq] at e; exact e.1.symm) u1 (fun k e e2 => hbh (e ▸ e2))
      replace hu0 := hu0.trans (u1.mono (fun k _ e => .inl e))
      refine hK _ _ ⟨pm3.obj, bx3, b3⟩ ?_
      clear hK K kC kc u1 cel3 pm2 b2 bx2 hr2
      refine wpPl_qs 1 _ _ _ (by kernel_rfl) (by kernel_rfl) (by simp) ?_
      unfold clsS
      simp only [List.take_succ_cons, List.take_zero, List.drop_succ_cons, List.drop_zero, List.filterMap_cons, List.filterMap_nil, List.getElem?_toArray, List.getElem?_cons_zero, List.getElem?_cons_succ]
      repeat (first
        | go_big_quiet_skip
        | (go_big_quiet_want; go_big_quiet_op; go_big_quiet_on)
        | (refine id (?_ : wpQuiet _ _ _ _ (_ :: _) _); first | go_big_quiet_skip | (go_big_quiet_want; go_big_quiet_op; go_big_quiet_on)))
      refine wpQuiet_nil ?_
      clear z0 z1 z2 z5 zz
      unfold wpPl
      refine NoPanic.normal ?_
      have s7 := b3.cell 7
      have f7 := b3.frozen 7
      obtain ⟨A2, hA2⟩ : ∃ A2, (if c = 1 then (some ⟨b, o, none⟩ : Option Addr) else some ⟨b, o + 2, none⟩) = A2 := ⟨_, rfl⟩
      obtain ⟨m', hm'⟩ : ∃ m', m - 1 = m' := ⟨_, rfl⟩
      obtain ⟨c', hc'⟩ : ∃ c', c - 1 = c' := ⟨_, rfl⟩
      go_upto_region 10 with fail
      have u2 := Upd.one W4 pb 7 (.slice A2 m' c')
      have b4 : Blk (W4.setCell ⟨pb, 7, none⟩ (.slice A2 m' c')) pb 111 #[.int .i64 2, .int .i64 0, .int .i64 0, .int .i64 0, .bool false, .int .u64 (seen : Int), .slice none 0 0, .slice A2 m' c', .slice none 0 0, .bool false, .bool false] := b3.set_ 7 (.slice A2 m' c')
      have pm4 := pm3.upd u2 hgp hcp (Ne.symm hph)
      have hr4 := hr3.updI (I := fun k => k = b) (fun b' i' e => by simp only [Option.some.injEq, Addr.mk.injEq] at e; exact e.1.symm) u2 (fun k e e2 => hbp (e ▸ e2))
      replace hu0 := hu0.trans (u2.mono (fun k _ e => .inr e))
      clear u2 s7 f7 b3 pm3 hr3 bx3
      generalize W4.setCell ⟨pb, 7, none⟩ (.slice A2 m' c') = W5 at *
      have hmr : m' = r.length := by omega
      have hrd : RdT PtC 2 W5 W5.heap.size A2 m' r := by
        refine ⟨hmr.symm, fun h0 => ?_⟩
        obtain ⟨b', o', e, hb', hcc⟩ := hr4.cel hm0
        simp only [Option.some.injEq, Addr.mk.injEq, and_true] at e
        obtain ⟨rfl, rfl⟩ := e
        rw [if_neg (by omega)] at hA2
        refine ⟨b, o + 2, hA2.symm, hb', fun j x hj f u hf => ?_⟩
        have := hcc (j + 1) x (by simpa using hj) f u hf
        rw [← this]
        congr 2
        omega
      have hbb : ∀ b' i', A2 = some ⟨b', i', none⟩ → ∃ i'', (some ⟨b, o, none⟩ : Option Addr) = some ⟨b', i'', none⟩ := fun b' i' e => by
        rw [← hA2] at e
        split at e
        · simp only [Option.some.injEq, Addr.mk.injEq, and_true] at e
          exact ⟨o, by rw [e.1]⟩
        · simp only [Option.some.injEq, Addr.mk.injEq, and_true] at e
          exact ⟨o, by rw [e.1]⟩
      have s7 := b4.cell 7
      have s9 := b4.cell 9
      have f9 := b4.frozen 9
      have u3 := fun x => Upd.one W5 pb 9 (.bool x)
      have hr5 := fun x => hrd.updI (I := fun k => k = b) (fun b' i' e => by obtain ⟨_, e2⟩ := hbb b' i' e; simp only [Option.some.injEq, Addr.mk.injEq] at e2; exact e2.1.symm) (u3 x) (fun k e e2 => hbp (e ▸ e2))
      replace hA2 := Lib.hid hA2
      have hmc' : m' ≤ c' := by omega
      have hcc' : c' ≤ 9223372036854775807 := by omega
      replace hm' := Lib.hid hm'
      replace hc' := Lib.hid hc'
      by_cases hr0 : r = []
      · have e0 : ((m' : Int) == 0) = true := by rw [hmr, hr0]; rfl
        replace hmr := Lib.hid hmr
        replace hr0 := Lib.hid hr0
        go_wp2_with fail
        go_end0
        exact ⟨rfl, hu0.trans ((u3 true).mono (fun k _ e => .inr e)), _, r, false, seen, A2, m', c', true, pm4.upd (u3 true) hgp hcp (Ne.symm hph), b4.set_ 9 (.bool true), hr5 true, hmc', hcc', hbb, fun k hk => by
          rw [hl.out k hk, if_pos hr0.out]; rfl, fun _ => hr0.out⟩
      · have e0 : ((m' : Int) == 0) = false := by
          have : r.length ≠ 0 := fun e => hr0 (List.eq_nil_of_length_eq_zero e)
          simp; omega
        replace hmr := Lib.hid hmr
        replace hr0 := Lib.hid hr0
        go_wp2_with fail
        go_end0
        exact ⟨rfl, hu0.trans ((u3 false).mono (fun k _ e => .inr e)), _, r, false, seen, A2, m', c', false, pm4.upd (u3 false) hgp hcp (Ne.symm hph), b4.set_ 9 (.bool false), hr5 false, hmc', hcc', hbb, fun k hk => by
          rw [hl.out k hk, if_neg hr0.out]; rfl, fun e => by cases e⟩
    · have e2 : ¬ (0 ≤ (i : Int) ∧ (i : Int) < ((iN ws).length : Int) ∧ (v : Int) = (seen : Int)) := fun e => he (by have := e.2.2; omega)
      have e1 := decide_eq_false e2
      simp only [e1, if_neg e2] at kC
      simp only [if_neg he] at hl
      clear e1 e2 hiL
      replace kC := Lib.hid kC
      replace he := Lib.hid he
      replace hl := Lib.hid hl
      replace hv := Lib.hid hv
      have z1 : ∀ t : Tw (fun w' => Blk w' gp 59 #[.pointer (some ⟨gc, 0, none⟩), .int .i64 (n : Int)] ∧ Blk w' gx 130 #[.int .i64 (i : Int), .int .u64 (q : Int)] ∧ Blk w' pb 111 #[.int .i64 2, .int .i64 0, .int .i64 0, .int .i64 0, .bool false, .int .u64 (seen : Int), .slice none 0 0, .slice (some ⟨b, o, none⟩) m c, .slice none 0 0, .bool false, .bool false]), t.w.cell? ⟨gx, 0, none⟩ = some (.int .i64 (i : Int)) := fun t => t.h.2.1.cell 0
      have z2 : ∀ t : Tw (fun w' => Blk w' gp 59 #[.pointer (some ⟨gc, 0, none⟩), .int .i64 (n : Int)] ∧ Blk w' gx 130 #[.int .i64 (i : Int), .int .u64 (q : Int)] ∧ Blk w' pb 111 #[.int .i64 2, .int .i64 0, .int .i64 0, .int .i64 0, .bool false, .int .u64 (seen : Int), .slice none 0 0, .slice (some ⟨b, o, none⟩) m c, .slice none 0 0, .bool false, .bool false]), t.w.cell? ⟨gx, 1, none⟩ = some (.int .u64 (q : Int)) := fun t => t.h.2.1.cell 1
      have z5 : ∀ t : Tw (fun w' => Blk w' gp 59 #[.pointer (some ⟨gc, 0, none⟩), .int .i64 (n : Int)] ∧ Blk w' gx 130 #[.int .i64 (i : Int), .int .u64 (q : Int)] ∧ Blk w' pb 111 #[.int .i64 2, .int .i64 0, .int .i64 0, .int .i64 0, .bool false, .int .u64 (seen : Int), .slice none 0 0, .slice (some ⟨b, o, none⟩) m c, .slice none 0 0, .bool false, .bool false]), t.w.cell? ⟨pb, 5, none⟩ = some (.int .u64 (seen : Int)) := fun t => t.h.2.2.cell 5
      have z0 : ∀ t : Tw (fun w' => Blk w' gp 59 #[.pointer (some ⟨gc, 0, none⟩), .int .i64 (n : Int)] ∧ Blk w' gx 130 #[.int .i64 (i : Int), .int .u64 (q : Int)] ∧ Blk w' pb 111 #[.int .i64 2, .int .i64 0, .int .i64 0, .int .i64 0, .bool false, .int .u64 (seen : Int), .slice none 0 0, .slice (some ⟨b, o, none⟩) m c, .slice none 0 0, .bool false, .bool false]), t.w.cell? ⟨gp, 0, none⟩ = some (.pointer (some ⟨gc, 0, none⟩)) := fun t => t.h.1.cell 0
      have zz : Nonempty (Tw (fun w' => Blk w' gp 59 #[.pointer (some ⟨gc, 0, none⟩), .int .i64 (n : Int)] ∧ Blk w' gx 130 #[.int .i64 (i : Int), .int .u64 (q : Int)] ∧ Blk w' pb 111 #[.int .i64 2, .int .i64 0, .int .i64 0, .int .i64 0, .bool false, .int .u64 (seen : Int), .slice none 0 0, .slice (some ⟨b, o, none⟩) m c, .slice none 0 0, .bool false, .bool false])) := ⟨⟨W2, pm2.obj, bx2, b2⟩⟩
      refine wp_region_plan (fun w' => Blk w' gp 59 #[.pointer (some ⟨gc, 0, none⟩), .int .i64 (n : Int)] ∧ Blk w' gx 130 #[.int .i64 (i : Int), .int .u64 (q : Int)] ∧ Blk w' pb 111 #[.int .i64 2, .int .i64 0, .int .i64 0, .int .i64 0, .bool false, .int .u64 (seen : Int), .slice none 0 0, .slice (some ⟨b, o, none⟩) m c, .slice none 0 0, .bool false, .bool false]) [(0, true), (1, true), (2, true), (3, true), (4, true), (5, true), (6, true), (7, true), (8, true), (9, true), (10, true), (11, true), (12, true), (13, true), (14, true), (15, true), (16, true), (17, true), (18, true), (19, true), (20, true), (21, true), (22, false), (23, false), (24, true)] (by kernel_rfl) (by kernel_rfl) (by kernel_rfl) (by kernel_rfl) ⟨pm2.obj.drew, bx2.drew, b2.drew⟩ ?_
      replace pm2 : PoM W2.drew gp gc h n ws := ⟨pm2.obj.drew, pm2.cel.drew⟩
      replace b2 := b2.drew
      replace bx2 := bx2.drew
      replace hr2 := (hr2.below (Below.refl W2.heap.size W2).drew).more (B' := W2.drew.heap.size) (Nat.le_refl _)
      replace hu0 := hu0.drew
      generalize W2.drew = W3 at *
      refine wpPl_qs 22 _ _ _ (by kernel_rfl) (by kernel_rfl) (by simp) ?_
      unfold clsS
      simp only [List.take_succ_cons, List.take_zero, List.drop_succ_cons, List.drop_zero, List.filterMap_cons, List.filterMap_nil, List.getElem?_toArray, List.getElem?_cons_zero, List.getElem?_cons_succ]
      repeat (first
        | go_big_quiet_skip
        | (go_big_quiet_want; go_big_quiet_op; go_big_quiet_on)
        | (refine id (?_ : wpQuiet _ _ _ _ (_ :: _) _); first | go_big_quiet_skip | (go_big_quiet_want; go_big_quiet_op; go_big_quiet_on)))
      refine wpQuiet_nil ?_
      refine wpPl_e _ (by rfl) (by kernel_rfl) (fun K hK => ?_)
      go_simp
      refine (kc.out W3).mono ?_
      rintro e w' ⟨rfl, rfl⟩
      refine hK _ _ ⟨pm2.obj, bx2, b2⟩ ?_
      clear hK K
      refine wpPl_e _ (by rfl) (by kernel_rfl) (fun K hK => ?_)
      go_simp
      refine (kC.out W3 pm2.cel).mono ?_
      rintro e W4 ⟨rfl, cel3, u1⟩
      have b3 := b2.upd u1 hph
      have pm3 : PoM W4 gp gc h n _ := ⟨pm2.obj.upd u1 (pm2.obj.ne_ pm2.cel.row (by decide)), cel3⟩
      have bx3 := bx2.upd u1 hxh
      have hr3 := hr2.updI (I := fun k => k = b) (fun b' i' e => by simp only [Option.some.injEq, Addr.mk.injEq] at e; exact e.1.symm) u1 (fun k e e2 => hbh (e ▸ e2))
      replace hu0 := hu0.trans (u1.mono (fun k _ e => .inl e))
      refine hK _ _ ⟨pm3.obj, bx3, b3⟩ ?_
      clear hK K kC kc u1 cel3 pm2 b2 bx2 hr2
      refine wpPl_qs 1 _ _ _ (by kernel_rfl) (by kernel_rfl) (by simp) ?_
      unfold clsS
      simp only [List.take_succ_cons, List.take_zero, List.drop_succ_cons, List.drop_zero, List.filterMap_cons, List.filterMap_nil, List.getElem?_toArray, List.getElem?_cons_zero, List.getElem?_cons_succ]
      repeat (first
        | go_big_quiet_skip
        | (go_big_quiet_want; go_big_quiet_op; go_big_quiet_on)
        | (refine id (?_ : wpQuiet _ _ _ _ (_ :: _) _); first | go_big_quiet_skip | (go_big_quiet_want; go_big_quiet_op; go_big_quiet_on)))
      refine wpQuiet_nil ?_
      clear z0 z1 z2 z5 zz
      unfold wpPl
      refine NoPanic.normal ?_
      go_wp2_with fail
      go_end0
      exact ⟨rfl, hu0, ws, (i, q) :: r, false, seen, _, m, c, false, pm3, b3, hr3, hmc, hc, fun b' i' e => ⟨_, e⟩, fun k hk => by
        rw [hl.out k hk, wk_eta hk]; rfl, fun e => by cases e⟩
end Go.Proofs.YtilhkhnjloplfaaGreatDoor
namespace Go.Proofs.YtilhkhnjloplfaaGreatDoor
set_option linter.unusedVariables false
set_option linter.unusedSimpArgs false
open Go.RowKit
/-- what a Do of a Take leaves -/
structure TkEnd (W : World) (gp gc h n : Nat) (ws : List Nat) (pb nw wb word left : Nat) (rd : Bool) (seen : Nat) (e : Ending) (W' : World) : Prop where
  upd : Upd (fun b => b = h ∨ b = pb ∨ b = wb) W W'
  ex : ∃ ws', PoM W' gp gc h n ws' ∧ (∃ cs, Blk W' wb 24 cs ∧ cs.size = nw) ∧
   ((e = .returned (.bool false) ∧ ∃ (word' left' : Nat) (rd' : Bool) (seen' : Nat), (∀ k, doS ws k (.fill word left rd seen) = (ws', k, .fill word' left' rd' seen')) ∧ Blk W' pb 111 #[.int .i64 0, .int .i64 (word' : Int), .int .i64 (left' : Int), .int .i64 8, .bool rd', .int .u64 (seen' : Int), .slice (some ⟨wb, 0, none⟩) nw nw, .slice none 0 0, .slice none 0 0, .bool false, .bool false]) ∨
    (e = .returned (.bool true) ∧ ∃ (got : List Nat) (pv : Value) (word' left' seen' : Nat), (∀ k, doS ws k (.fill word left rd seen) = (ws', { k with list := k.list ++ got.reverse }, .none)) ∧ Blk W' pb 111 #[.int .i64 0, .int .i64 (word' : Int), .int .i64 (left' : Int), .int .i64 8, .bool false, .int .u64 (seen' : Int), .slice (some ⟨wb, 0, none⟩) nw nw, .slice none 0 0, pv, .bool true, .bool false] ∧ Own .i64 3 W' W.heap.size pv (iN got)))
set_option maxRecDepth 100000 in
theorem pDo_tk (W : World) (gp gc h n : Nat) (ws : List Nat) (pb nw wb word left : Nat) (rd : Bool) (seen : Nat) (cs : Array Value) (pm : PoM W gp gc h n ws) (bp : Blk W pb 111 #[.int .i64 0, .int .i64 (word : Int), .int .i64 (left : Int), .int .i64 8, .bool rd, .int .u64 (seen : Int), .slice (some ⟨wb, 0, none⟩) nw nw, .slice none 0 0, .slice none 0 0, .bool false, .bool false]) (bw : Blk W wb 24 cs) (hcs : cs.size = nw) (hnw : ws.length = nw) (hw : word < nw) (hl1 : 1 ≤ left) (hl2 : left ≤ nw) (hw2 : nw ≤ 2) (hs : seen < 18446744073709551616) (hrg : ∀ m, m ∈ ws → m < 18446744073709551616) (hT : Tab W) (h0 : 0 < pb ∧ 0 < h) :
    Calls Tryz.prog 22 #[.pointer (some ⟨gp, 0, none⟩), .pointer (some ⟨pb, 0, none⟩)] W (TkEnd W gp gc h n ws pb nw wb word left rd seen) := by
  have kt := take_any W gp gc h n ws pb nw wb word left rd seen cs pm bp bw hcs hnw hw hl1 hl2 hw2 hs hrg hT h0
  replace kt := Lib.hid kt
  have s9 := bp.cell 9
  have s0 := bp.cell 0
  clear hcs hnw hw hl1 hl2 hw2 hs hrg
  go_enter Tryz.func22, Tryz.ntmps22
  go_wp2_with fail
  refine kt.out.mono ?_
  rintro e W2 ⟨rfl, hu, ws', pm2, hw2, hR⟩
  rcases hR with ⟨word', left', rd', seen', hd, b2⟩ | ⟨got, pv, word', left', seen', hd, b2, own⟩
  · have t9 := b2.cell 9
    replace hd := Lib.hid hd
    go_wp2_with fail
    go_ret
    exact ⟨hu, ws', pm2, hw2, .inl ⟨rfl, word', left', rd', seen', hd.out, b2⟩⟩
  · have t9 := b2.cell 9
    replace hd := Lib.hid hd
    go_wp2_with fail
    go_ret
    exact ⟨hu, ws', pm2, hw2, .inr ⟨rfl, got, pv, word', left', seen', hd.out, b2, own⟩⟩
/-- .. of a Back -/
structure BkEnd (W : World) (gp gc h n : Nat) (ws : List Nat) (pb : Nat) (parts : List (Nat × Nat)) (rd : Bool) (seen : Nat) (A : Option Addr) (e : Ending) (W' : World) : Prop where
  upd : Upd (fun b => b = h ∨ b = pb) W W'
  ex : ∃ (ws' : List Nat) (parts' : List (Nat × Nat)) (rd' : Bool) (seen' : Nat) (A' : Option Addr) (m' c' : Nat) (dn : Bool), e = .returned (.bool dn) ∧ PoM W' gp gc h n ws' ∧ Blk W' pb 111 #[.int .i64 2, .int .i64 0, .int .i64 0, .int .i64 0, .bool rd', .int .u64 (seen' : Int), .slice none 0 0, .slice A' m' c', .slice none 0 0, .bool dn, .bool false] ∧ RdT PtC 2 W' W'.heap.size A' m' parts' ∧ m' ≤ c' ∧ c' ≤ 9223372036854775807 ∧
    (∀ b i, A' = some ⟨b, i, none⟩ → ∃ i', A = some ⟨b, i', none⟩) ∧ (∀ k : Wk, k.parts = parts → doS ws k (.back rd seen) = (ws', { k with parts := parts' }, if dn = true then .none else .back rd' seen')) ∧ (dn = true → parts' = [])
set_option maxRecDepth 100000 in
theorem pDo_bk (W : World) (gp gc h n : Nat) (ws : List Nat) (pb : Nat) (parts : List (Nat × Nat)) (rd : Bool) (seen : Nat) (A : Option Addr) (m c : Nat) (pm : PoM W gp gc h n ws) (bp : Blk W pb 111 #[.int .i64 2, .int .i64 0, .int .i64 0, .int .i64 0, .bool rd, .int .u64 (seen : Int), .slice none 0 0, .slice A m c, .slice none 0 0, .bool false, .bool false]) (hr : RdT PtC 2 W W.heap.size A m parts) (hmc : m ≤ c) (hc : c ≤ 9223372036854775807)
    (hi : ∀ i q r, parts = (i, q) :: r → i < ws.length ∧ q < 4294967296 ∧ ws.getD i 0 &&& q ≠ 0) (hw2 : ws.length ≤ 2) (hs : seen < 18446744073709551616) (hrg : ∀ m, m ∈ ws → m < 18446744073709551616) (hb : ∀ b i, A = some ⟨b, i, none⟩ → b ≠ pb ∧ b ≠ h) :
    Calls Tryz.prog 22 #[.pointer (some ⟨gp, 0, none⟩), .pointer (some ⟨pb, 0, none⟩)] W (BkEnd W gp gc h n ws pb parts rd seen A) := by
  have kt : Calls Tryz.prog 44 #[.pointer (some ⟨gp, 0, none⟩), .pointer (some ⟨pb, 0, none⟩)] W (BkPost W gp gc h n ws pb parts rd seen A) := by
    cases parts with
    | nil =>
      have hm : m = 0 := hr.len.symm
      subst hm
      exact back_nil W gp gc h n ws pb rd seen A c pm bp hc
    | cons x r =>
      obtain ⟨i, q⟩ := x
      obtain ⟨h1, h2, h3⟩ := hi i q r rfl
      obtain ⟨b, o, rfl, _⟩ := hr.cel (by have := hr.len; rw [List.length_cons] at this; omega)
      obtain ⟨h4, h5⟩ := hb b o rfl
      exact back_cons W gp gc h n ws pb i q r rd seen b o m c pm bp hr hmc hc h1 hw2 h2 h3 hs hrg h4 h5
  replace kt := Lib.hid kt
  have s9 := bp.cell 9
  have s0 := bp.cell 0
  clear hi hw2 hs hrg hb hr hmc hc
  go_enter Tryz.func22, Tryz.ntmps22
  go_wp2_with fail
  refine kt.out.mono ?_
  rintro e W2 ⟨rfl, hu, ws', parts', rd', seen', A', m', c', dn, pm2, b2, hr2, h1, h2, h3, h4, h5⟩
  have t9 := b2.cell 9
  replace h4 := Lib.hid h4
  replace h3 := Lib.hid h3
  replace h5 := Lib.hid h5
  go_wp2_with fail
  go_ret
  exact ⟨hu, ws', parts', rd', seen', A', m', c', dn, rfl, pm2, b2, hr2, h1, h2, h3.out, h4.out, h5.out⟩
end Go.Proofs.YtilhkhnjloplfaaGreatDoor
namespace Go.Proofs.YtilhkhnjloplfaaGreatDoor
set_option linter.unusedVariables false
set_option linter.unusedSimpArgs false
open Go.RowKit
set_option maxRecDepth 100000 in
set_option maxHeartbeats 1000000 in
theorem CloneI_any (l : List Int) (A : Option Addr) (n c B : Nat) (w : World) (hr : Rd .i64 w B A n l) (hB : B ≤ w.heap.size) (hl : n ≤ 60000) :
    Calls Tryz.prog 52 #[.slice A n c] w fun e w' => ∃ v', e = .returned v' ∧ Own .i64 3 w' w.heap.size v' l ∧ Below w.heap.size w w' := by
  cases A with
  | none =>
    have hn : n = 0 := by
      rcases Nat.eq_zero_or_pos n with h | h
      · exact h
      · obtain ⟨b, o, e, _⟩ := hr.cel h; cases e
    subst hn
    have hl0 : l = [] := List.length_eq_zero_iff.1 hr.len
    subst hl0
    have hnil := run_eql_slice_nil (P := Tryz.prog) w 23 3 none 0 c Tryz.underlying23
    go_enter Tryz.func52, Tryz.ntmps52
    go_wp2_with fail
    go_ret
    exact ⟨_, rfl, Own.nil _ _ _ _, Below.refl _ _⟩
  | some a =>
    obtain ⟨i0, hi, hz0, hz1, hz2⟩ := info_parts info_int
    have own0 := Own.new .i64 w 3 w.heap.size (Nat.le_refl _) [] (by simp) #[] rfl 0 rfl (by simp)
    have hr2 := (hr.alloc hB (.cells #[] 3))
    have bel0 := bel_alloc w (.cells #[] 3)
    have hnil := run_eql_slice_nil (P := Tryz.prog) w 23 3 (some a) n c Tryz.underlying23
    go_enter Tryz.func52, Tryz.ntmps52
    go_wp2_with (at_builtin; refine wpList_app _ rfl (.tmp 5) (.tmp 6) 23 rfl .i64 w.heap.size 3 i0 (.int .i64 0) 8 Tryz.underlying23 hi hz0 hz1 hz2 rfl (.slice (some ⟨w.heap.size, 0, none⟩) 0 0) rfl [] own0 B _ _ _ rfl l hr2 (by simp; omega) (by decide) (by simp) ?_; intro v1 w1 own1 hg1 hv1; rw [List.nil_append] at own1; have bel1 : Below w.heap.size w w1 := bel0.grown hg1 (by simp) (fun k h => by simp [Value.ownBlock] at h; omega))
    go_ret
    exact ⟨_, rfl, own1, bel1⟩
set_option maxRecDepth 100000 in
set_option maxHeartbeats 1000000 in
theorem RevI_any (l : List Int) (g n c base : Nat) (w : World) (ho : Own .i64 3 w base (.slice (some ⟨g, 0, none⟩) n c) l) (hn : l.length = n) (h60 : n ≤ 60000) :
    Calls Tryz.prog 46 #[.slice (some ⟨g, 0, none⟩) n c] w fun e w' => e = .returned (.tuple #[]) ∧ Own .i64 3 w' base (.slice (some ⟨g, 0, none⟩) n c) l.reverse ∧ Upd (fun b => b = g) w w' := by
  go_enter Tryz.func46, Tryz.ntmps46
  go_wp2_with fail
  go_loopw [2, 3] (fun a b wr => ∃ (i : Nat) (L : List Int), 2 * i ≤ n + 1 ∧ a = .int .i64 (i : Int) ∧ b = .int .i64 ((n : Int) - 1 - (i : Int)) ∧ L.length = n ∧ (∀ k, k < n → L.getD k 0 = if k < i ∨ n - i ≤ k then l.getD (n - 1 - k) 0 else l.getD k 0) ∧ Own .i64 3 wr base (.slice (some ⟨g, 0, none⟩) n c) L ∧ Upd (fun b => b = g) w wr) (fun a _ _ => n - (intOf a).toNat)
  case atStart => exact ⟨0, l, by omega, rfl, by simp, hn, fun k hk => by rw [if_neg (by omega)], ho, Upd.refl _ _⟩
  case round =>
    obtain ⟨i, L, h2, rfl, rfl, hL, hk, own, hu⟩ := hrel
    by_cases hlt : 2 * i + 1 < n
    · obtain ⟨j, hj⟩ : ∃ j : Nat, (n : Int) - 1 - (i : Int) = (j : Int) := ⟨n - 1 - i, by omega⟩
      rw [hj]
      have hd : decide ((i : Int) < (j : Int)) = true := by simp; omega
      have hd2 : decide (i < j) = true := by simp; omega
      obtain ⟨c1, f1, r1⟩ := own.at_ hL (j := i) (by omega)
      obtain ⟨c2, f2, r2⟩ := own.at_ hL (j := j) (by omega)
      have ki := hk i (by omega)
      have kj := hk j (by omega)
      rw [if_neg (by omega)] at ki kj
      obtain ⟨x, hx⟩ : ∃ x, L.getD i 0 = x := ⟨_, rfl⟩
      obtain ⟨y, hy⟩ : ∃ y, L.getD j 0 = y := ⟨_, rfl⟩
      rw [hx] at c1 r1 ki
      rw [hy] at c2 r2 kj
      have own1 := (own.set hL i r2).set (by rw [List.length_set]; exact hL) j r1
      have hu1 := ((hu.setCell (p := ⟨g, i, none⟩) (fun _ => rfl) (.int .i64 y)).setCell (p := ⟨g, j, none⟩) (fun _ => rfl) (.int .i64 x)).drew
      have hL1 : ∀ k, k < n → ((L.set i y).set j x).getD k 0 = if k < i + 1 ∨ n - (i + 1) ≤ k then l.getD (n - 1 - k) 0 else l.getD k 0 := fun k hkn => by
        rw [List.getD_eq_getElem?_getD, List.getElem?_set, List.getElem?_set, List.length_set, hL]
        by_cases e1 : j = k
        · subst e1
          rw [if_pos rfl, if_pos hkn, if_pos (by omega)]
          show x = _
          rw [ki, show n - 1 - j = i by omega]
        · rw [if_neg e1]
          by_cases e2 : i = k
          · subst e2
            rw [if_pos rfl, if_pos hkn, if_pos (by omega)]
            show y = _
            rw [kj, show n - 1 - i = j by omega]
          · rw [if_neg e2, ← List.getD_eq_getElem?_getD, hk k hkn]
            by_cases e3 : k < i ∨ n - i ≤ k
            · rw [if_pos e3, if_pos (by omega)]
            · rw [if_neg e3, if_neg (by omega)]
      obtain ⟨c3, f3, _⟩ := (own.set hL i r2).drew.at_ (by rw [List.length_set]; exact hL) (j := j) (by omega)
      rw [List.getD_eq_getElem?_getD, List.getElem?_set, if_neg (by omega), ← List.getD_eq_getElem?_getD, hy] at c3
      have j1 : (j : Int) < (n : Int) := by omega
      clear hx hy ki kj hk own hu
      have w1 : wrap64 ((j : Int) - 1) = (j : Int) - 1 := by rw [IntWalk.wrap64_in] <;> omega
      replace hj := Lib.hid hj
      replace hL1 := Lib.hid hL1
      replace hL := Lib.hid hL
      have i0 : (0 : Int) ≤ (i : Int) := by omega
      have i1 : (i : Int) < (n : Int) := by omega
      have j0 : (0 : Int) ≤ (j : Int) := by omega
      go_upto_region 3 with fail
      go_region
      go_wp2_with fail
      go_roundw
      case rel => exact ⟨i + 1, (L.set i y).set j x, by omega, by go_num, by have := hj.out; congr 1; omega, by rw [List.length_set, List.length_set]; exact hL.out, hL1.out, own1.drew, hu1⟩
      case measure => simp [intOf]; omega
    · have hd : decide ((i : Int) < (n : Int) - 1 - (i : Int)) = false := by simp; omega
      have hrev : L = l.reverse := by
        refine List.ext_getElem (by rw [List.length_reverse]; omega) fun k h1 h2' => ?_
        have h3 := hk k (by omega)
        rw [List.getD_eq_getElem?_getD, List.getElem?_eq_getElem h1] at h3
        rw [List.getElem_reverse]
        have h4 : L[k] = (if k < i ∨ n - i ≤ k then l.getD (n - 1 - k) 0 else l.getD k 0) := h3
        rw [h4]
        split
        · rw [List.getD_eq_getElem?_getD, List.getElem?_eq_getElem (by omega)]
          show l[n - 1 - k] = _
          congr 1; omega
        · have : k = n - 1 - k := by omega
          rw [List.getD_eq_getElem?_getD, List.getElem?_eq_getElem (by omega)]
          show l[k] = _
          congr 1; omega
      subst hrev
      clear hk
      go_wp2_with fail
      go_end0
      exact ⟨rfl, own, hu⟩
end Go.Proofs.YtilhkhnjloplfaaGreatDoor
namespace Go.Proofs.YtilhkhnjloplfaaGreatDoor
set_option linter.unusedVariables false
set_option linter.unusedSimpArgs false
open Go.RowKit
set_option maxRecDepth 100000 in
theorem Got_any (W : World) (pb nw wb word left seen base : Nat) (pv : Value) (got : List Nat) (bp : Blk W pb 111 #[.int .i64 0, .int .i64 (word : Int), .int .i64 (left : Int), .int .i64 8, .bool false, .int .u64 (seen : Int), .slice (some ⟨wb, 0, none⟩) nw nw, .slice none 0 0, pv, .bool true, .bool false]) (own : Own .i64 3 W base pv (iN got)) (hg : got.length ≤ 60000) :
    Calls Tryz.prog 45 #[.pointer (some ⟨pb, 0, none⟩)] W fun e W' => ∃ v', e = .returned v' ∧ Own .i64 3 W' W.heap.size v' (iN got) ∧ Below W.heap.size W W' := by
  obtain ⟨m, hm⟩ : ∃ m, (iN got).length = m := ⟨_, rfl⟩
  obtain ⟨A, c, rfl, _, _, hr⟩ := own.form hm
  have hmg : m ≤ 60000 := by rw [← hm, iN_len]; exact hg
  have kc := CloneI_any (iN got) A m c _ W hr (Nat.le_refl _) hmg
  replace kc := Lib.hid kc
  have s8 := bp.cell 8
  clear own hm
  go_enter Tryz.func45, Tryz.ntmps45
  go_wp2_with fail
  refine kc.out.mono ?_
  rintro e W2 ⟨v, rfl, o2, hb⟩
  go_wp2_with fail
  go_ret
  exact ⟨v, rfl, o2, hb⟩
set_option maxRecDepth 100000 in
theorem Word_any (W : World) (pb nw wb word left seen m c : Nat) (A : Option Addr) (pv : Value) (hpv : pv = .slice A m c) (bp : Blk W pb 111 #[.int .i64 0, .int .i64 (word : Int), .int .i64 (left : Int), .int .i64 8, .bool false, .int .u64 (seen : Int), .slice (some ⟨wb, 0, none⟩) nw nw, .slice none 0 0, pv, .bool true, .bool false]) :
    Calls Tryz.prog 47 #[.pointer (some ⟨pb, 0, none⟩)] W fun e W' => (∃ x : Int, e = .returned (.int .i64 x)) ∧ W = W' := by
  subst hpv
  have s8 := bp.cell 8
  have s1 := bp.cell 1
  go_enter Tryz.func47, Tryz.ntmps47
  rcases Nat.eq_zero_or_pos m with rfl | hm
  · go_wp2_with fail
    go_ret
    exact ⟨⟨_, rfl⟩, rfl⟩
  · have hme : ((m : Int) == 0) = false := by simp; omega
    go_wp2_with fail
    go_ret
    exact ⟨⟨_, rfl⟩, rfl⟩
/-- a cache's row behind something is put to it -/
def NewRow (W : World) (lv lv' : Value) : Prop := ∀ g, lv'.ownBlock = some g → lv.ownBlock = some g ∨ W.heap.size ≤ g
set_option maxRecDepth 100000 in
set_option maxHeartbeats 1000000 in
theorem came_any (W : World) (gp cb pb nw wb word left seen base : Nat) (home : Int) (lv ov pv : Value) (l got : List Nat) (bc : Blk W cb 64 #[.pointer (some ⟨gp, 0, none⟩), .int .i64 home, lv, ov]) (ol : Own .i64 3 W base lv (iN l)) (bp : Blk W pb 111 #[.int .i64 0, .int .i64 (word : Int), .int .i64 (left : Int), .int .i64 8, .bool false, .int .u64 (seen : Int), .slice (some ⟨wb, 0, none⟩) nw nw, .slice none 0 0, pv, .bool true, .bool false]) (own : Own .i64 3 W base pv (iN got)) (hg : got.length ≤ 60000) (hl : l.length ≤ 60000) (hbs : base ≤ W.heap.size) :
    Calls Tryz.prog 23 #[.pointer (some ⟨cb, 0, none⟩), .pointer (some ⟨pb, 0, none⟩)] W fun e W' => e = .returned (.tuple #[]) ∧ ∃ (home' : Int) (lv' : Value), Blk W' cb 64 #[.pointer (some ⟨gp, 0, none⟩), .int .i64 home', lv', ov] ∧ Own .i64 3 W' base lv' (iN (l ++ got.reverse)) ∧ NewRow W lv lv' ∧ Upd (fun b => b = cb ∨ lv.ownBlock = some b) W W' := by
  obtain ⟨i0, hi0, hz0, hz1, hz2⟩ := info_parts info_int
  have kg := Got_any W pb nw wb word left seen base pv got bp own hg
  obtain ⟨m0, hm0⟩ : ∃ m0, (iN got).length = m0 := ⟨_, rfl⟩
  obtain ⟨pA, pc, rfl, _, _, _⟩ := own.form hm0
  have hcp : cb ≠ pb := bc.ne_ bp (by decide)
  replace kg := Lib.hid kg
  go_enter Tryz.func23, Tryz.ntmps23
  go_wp2_with fail
  refine kg.out.mono ?_
  rintro e W2 ⟨v, rfl, o2, hb⟩
  clear kg own
  obtain ⟨A, c, rfl, hc1, hc2, _⟩ := o2.form hm0
  rcases Nat.eq_zero_or_pos m0 with rfl | hpos
  · have hg0 : got = [] := by
      have : got.length = 0 := by rw [← iN_len]; exact hm0
      exact List.eq_nil_of_length_eq_zero this
    subst hg0
    go_wp2_with fail
    refine bodyPost_ret (results_none rfl _ _ _) rfl ?_
    refine ⟨rfl, home, lv, bc.bel hb, ?_, fun g h => .inl h, Upd.of_below hb _⟩
    rw [List.reverse_nil, List.append_nil]
    exact ol.below hb
  · have hme : ((m0 : Int) == 0) = false := by simp; omega
    obtain ⟨g, c', hA, _, _, hgb, hgl⟩ := o2.formG hm0 hpos
    simp only [Value.slice.injEq] at hA
    obtain ⟨rfl, _, rfl⟩ := hA
    have hm60 : m0 ≤ 60000 := by rw [← hm0, iN_len]; exact hg
    have kr := RevI_any (iN got) g m0 c W.heap.size W2 o2 hm0 hm60
    replace kr := Lib.hid kr
    replace hm0 := Lib.hid hm0
    go_wp2_with fail
    refine kr.out.mono ?_
    rintro e W3 ⟨rfl, o3, hu3⟩
    clear kr
    have hlen3 : (iN got).reverse.length = m0 := by rw [List.length_reverse]; exact hm0.out
    have rd3 := o3.rd hlen3
    have hW2 : W.heap.size ≤ W2.heap.size := hb.size
    have hW3 : W2.heap.size ≤ W3.heap.size := hu3.size
    have hcbg : cb ≠ g := by have := bc.lt; omega
    have hpbg : pb ≠ g := by have := bp.lt; omega
    have bc3 := (bc.bel hb).upd hu3 hcbg
    have bp3' := (bp.bel hb).upd hu3 hpbg
    have ol3 := (ol.below hb).updS hu3 (fun x hx e => by have := (ol.lt x hx).2; omega)
    have lvne : lv.ownBlock ≠ some cb := fun e => by
      rcases ol.row.2 with ⟨h1, _⟩ | ⟨g', cap, cur, h1, _, hgg, _⟩
      · rw [h1] at e; simp [Value.ownBlock] at e
      · rw [h1] at e
        simp only [Value.ownBlock, Option.some.injEq] at e
        subst e
        have h2 : W.heap[g']? = some (.cells _ 64 (0, 0)) := bc
        rw [hgg] at h2
        simp at h2
    have lvnp : lv.ownBlock ≠ some pb := fun e => by
      rcases ol.row.2 with ⟨h1, _⟩ | ⟨g', cap, cur, h1, _, hgg, _⟩
      · rw [h1] at e; simp [Value.ownBlock] at e
      · rw [h1] at e
        simp only [Value.ownBlock, Option.some.injEq] at e
        subst e
        have h2 : W.heap[g']? = some (.cells _ 111 (0, 0)) := bp
        rw [hgg] at h2
        simp at h2
    replace lvne := Lib.hid lvne
    replace lvnp := Lib.hid lvnp
    have hu03 : Upd (fun b => b = cb ∨ lv.ownBlock = some b ∨ W.heap.size ≤ b) W W3 := (Upd.of_below hb _).trans (hu3.mono (fun k hk e => .inr (.inr (by omega))))
    obtain ⟨R, hR⟩ : ∃ R, (iN got).reverse = R := ⟨_, rfl⟩
    have hRn : iN l ++ R = iN (l ++ got.reverse) := by rw [← hR, iN_app]; unfold iN; rw [List.map_reverse]
    rw [hR] at rd3 o3 hlen3
    have hll : (iN l).length ≤ 60000 := by rw [iN_len]; exact hl
    have s2 := bc3.cell 2
    have f2 := bc3.frozen 2
    replace hR := Lib.hid hR
    replace hRn := Lib.hid hRn
    replace hlen3 := Lib.hid hlen3
    clear hm0 hme hb hu3 o2 bc ol bp hcbg hpbg
    have bp3 := bp3'
    go_upto_region 4 with (at_builtin; refine wpList_app _ rfl (.tmp 16) (.tmp 17) 23 rfl .i64 base 3 i0 (.int .i64 0) 8 Tryz.underlying23 hi0 hz0 hz1 hz2 rfl lv rfl (iN l) ol3 W3.heap.size (some ⟨g, 0, none⟩) m0 c rfl R rd3 (by omega) (by decide) (by omega) ?_; intro v4 W4 own4 hg4 hv4; obtain ⟨n4, hn4⟩ : ∃ n4, (iN l ++ R).length = n4 := ⟨_, rfl⟩; obtain ⟨A4, c4, rfl, _, _, _⟩ := own4.form hn4; have bc4 := bc3.grown hg4 (fun e => lvne.out e); have s2' := bc4.cell 2; have f2' := bc4.frozen 2)
    clear s2 f2 s2' f2'
    have u4 : Upd (fun b => b = cb ∨ lv.ownBlock = some b ∨ W.heap.size ≤ b) W3 W4 := Upd.of_grown hg4 (fun g e => .inr (.inl e))
    have bp4 := bp3.grown hg4 (fun e => lvnp.out e)
    have b5 : Blk (W4.setCell ⟨cb, 2, none⟩ (.slice A4 n4 c4)) cb 64 #[.pointer (some ⟨gp, 0, none⟩), .int .i64 home, (.slice A4 n4 c4), ov] := bc4.set_ 2 (.slice A4 n4 c4)
    have u5 := Upd.one W4 cb 2 (.slice A4 n4 c4)
    have own5 := own4.updne bc4 (by decide) u5
    have bp5 := bp4.upd u5 (Ne.symm hcp)
    have hu5 := (hu03.trans (u4.mono (fun k hk e => e))).trans (u5.mono (fun k hk e => .inl e))
    clear hu03 u4 u5 bc4 bp4 bp3 bc3 o3 rd3 ol3 hg4 own4
    generalize W4.setCell ⟨cb, 2, none⟩ (.slice A4 n4 c4) = W5 at *
    have kw := Word_any W5 pb nw wb word left seen m0 pc pA _ rfl bp5
    replace kw := Lib.hid kw
    have f1 := b5.frozen 1
    have s1 := b5.cell 1
    go_wp2_with fail
    refine kw.out.mono ?_
    rintro e W6 ⟨⟨x, rfl⟩, rfl⟩
    go_wp2_with fail
    go_end0
    have b6 : Blk (W5.setCell ⟨cb, 1, none⟩ (.int .i64 x)) cb 64 #[.pointer (some ⟨gp, 0, none⟩), .int .i64 x, (.slice A4 n4 c4), ov] := b5.set_ 1 (.int .i64 x)
    have u6 := Upd.one W5 cb 1 (.int .i64 x)
    refine ⟨rfl, x, _, b6, ?_, ?_, ((hu5.trans (u6.mono (fun k hk e => .inl e))).mono (fun k hk e => by rcases e with e | e | e; exact .inl e; exact .inr e; omega))⟩
    · rw [← hRn.out]; exact own5.updne b5 (by decide) u6
    · intro x hx
      rcases hv4 with h1 | h1
      · rw [h1] at hx; exact .inl hx
      · rw [h1] at hx
        have : W3.heap.size = x := by simpa using hx
        exact .inr (by omega)
end Go.Proofs.YtilhkhnjloplfaaGreatDoor
namespace Go.Proofs.YtilhkhnjloplfaaGreatDoor
set_option linter.unusedVariables false
set_option linter.unusedSimpArgs false
open Go.RowKit
def St.isN : St → Bool
  | .none => true
  | _ => false
def spOf (s : St) (sp : Value) : Value := if s.isN = true then .pointer none else sp
/-- what a cache's Do leaves -/
structure CdR (I : Nat → Prop) (W : World) (base gp gc h n nw : Nat) (cb : Nat) (sp : Value) (ws' : List Nat) (k' : Wk) (s' : St) (e : Ending) (W' : World) : Prop where
  ret : e = .returned (.bool s'.isN)
  pm : PoM W' gp gc h n ws'
  upd : Upd (fun b => I b ∨ b = h) W W'
  wm : WM (fun b => I b ∨ W.heap.size ≤ b) W' base gp nw k' s' cb (spOf s' sp)
set_option maxRecDepth 100000 in
theorem cDo_still (I : Nat → Prop) (W : World) (base gp gc h n nw cb : Nat) (ws : List Nat) (k : Wk) (sp : Value) (pm : PoM W gp gc h n ws) (wm : WM I W base gp nw k .still cb sp) (hI : ∀ b, I b → b ≠ gp ∧ b ≠ gc ∧ b ≠ h) :
    Calls Tryz.prog 7 #[.pointer (some ⟨cb, 0, none⟩), sp] W (CdR I W base gp gc h n nw cb sp ws k .none) := by
  obtain ⟨ov, cm, rfl, sb, rfl, his, se⟩ := wm
  have s2 := Blk.cell se 2
  have s0 := Blk.cell se 0
  have f2 := Blk.frozen se 2
  go_enter Tryz.func7, Tryz.ntmps7
  go_wp2_with fail
  go_ret
  have u := Upd.one W sb 2 (.bool true)
  obtain ⟨h1, h2, h3⟩ := hI sb his
  obtain ⟨hic, home, lv, b1, b2, b3⟩ := cm
  have hcs : cb ≠ sb := b1.ne_ se (by decide)
  refine ⟨rfl, pm.upd u (Ne.symm h1) (Ne.symm h2) (Ne.symm h3), u.mono (fun b _ e => .inl (e ▸ his)), ⟨_, ⟨.inl hic, home, lv, b1.upd u hcs, b2.updne se (by decide) u, fun g hg => .inl (b3 g hg)⟩, rfl, rfl⟩⟩
theorem Own.neB {kd : IntKind} {e t : TypeId} {w : World} {base x : Nat} {v : Value} {l : List Int} {cs : Array Value} (ho : Own kd e w base v l) (hb : Blk w x t cs) (hne : e ≠ t) : v.ownBlock ≠ some x := fun h => by
  rcases ho.row.2 with ⟨h1, _⟩ | ⟨g', cap, cur, h1, _, hgg, _⟩
  · rw [h1] at h; simp [Value.ownBlock] at h
  · rw [h1] at h
    simp only [Value.ownBlock, Option.some.injEq] at h
    subst h
    have h2 : w.heap[g']? = some (.cells cs t (0, 0)) := hb
    rw [hgg] at h2
    simp only [Option.some.injEq, Obj.cells.injEq] at h2
    exact hne h2.2.1
theorem got_len {ws ws' : List Nat} {word left : Nat} {rd : Bool} {seen : Nat} {got : List Nat} (h : ∀ k : Wk, doS ws k (.fill word left rd seen) = (ws', { k with list := k.list ++ got.reverse }, .none)) : got.length ≤ 8 := by
  have h1 := h Wk.z
  rw [doS_fill] at h1
  split at h1
  · split at h1
    · have h2 := congrArg (fun x => x.2.1.list.length) h1
      simp only [Wk.z, List.nil_append, List.length_reverse, List.length_map, List.length_take] at h2
      omega
    · have h2 := congrArg (fun x => x.2.2) h1
      cases h2
  · split at h1
    · have h2 := congrArg (fun x => x.2.2) h1
      cases h2
    · split at h1
      · have h2 := congrArg (fun x => x.2.1.list.length) h1
        simp only [Wk.z, List.nil_append, List.length_reverse, List.length_nil] at h2
        omega
      · have h2 := congrArg (fun x => x.2.2) h1
        cases h2
def SeA (W : World) (sb : Nat) (kd : Int) (pv : Value) : Prop := ∃ dv, Blk W sb 66 #[.int .i64 kd, pv, .bool dv]
set_option maxRecDepth 100000 in
set_option maxHeartbeats 1000000 in
theorem cDo_fill (I : Nat → Prop) (W : World) (base gp gc h n nw cb : Nat) (ws : List Nat) (k : Wk) (word left : Nat) (rd : Bool) (seen : Nat) (sp : Value) (pm : PoM W gp gc h n ws) (wm : WM I W base gp nw k (.fill word left rd seen) cb sp) (hI : ∀ b, I b → b ≠ gp ∧ b ≠ gc ∧ b ≠ h ∧ 0 < b)
    (ok : StOk nw k (.fill word left rd seen)) (hnw : ws.length = nw) (hw2 : nw ≤ 2) (hrg : ∀ m, m ∈ ws → m < 18446744073709551616) (hT : Tab W) (h0 : 0 < h) (hl : k.list.length ≤ 10000) (hbs : base ≤ W.heap.size) :
    Calls Tryz.prog 7 #[.pointer (some ⟨cb, 0, none⟩), sp] W (CdR I W base gp gc h n nw cb sp (doS ws k (.fill word left rd seen)).1 (doS ws k (.fill word left rd seen)).2.1 (doS ws k (.fill word left rd seen)).2.2) := by
  obtain ⟨ov, cm, rfl, sb, pb, rfl, his, se, ⟨hip, wb, cs, hiw, bw, hcs, bp⟩⟩ := wm
  obtain ⟨hic, home, lv, b1, b2, b3⟩ := cm
  obtain ⟨k1, k2, k3, k4⟩ := ok.fill word left rd seen rfl
  have hic' := hI cb hic
  have his' := hI sb his
  have hip' := hI pb hip
  have hiw' := hI wb hiw
  have hsz : 0 < W.heap.size := Nat.lt_of_le_of_lt (Nat.zero_le _) b1.lt
  have kD := fun (V : World) (hu : Upd (fun _ => False) W V) => pDo_tk V gp gc h n ws pb nw wb word left rd seen cs (pm.upd hu (fun e => e) (fun e => e) (fun e => e)) (bp.upd hu (fun e => e)) (bw.upd hu (fun e => e)) hcs hnw k1 k2 k3 hw2 k4 hrg (hT.upd hu (fun e => e) hsz) ⟨hip'.2.2.2, h0⟩
  have hcb : cb ≠ sb ∧ cb ≠ pb ∧ cb ≠ wb := ⟨b1.ne_ se (by decide), b1.ne_ bp (by decide), b1.ne_ bw (by decide)⟩
  have hsp : sb ≠ pb ∧ sb ≠ wb := ⟨Blk.ne_ se bp (by decide), Blk.ne_ se bw (by decide)⟩
  have hlv : lv.ownBlock ≠ some h ∧ lv.ownBlock ≠ some pb ∧ lv.ownBlock ≠ some wb ∧ lv.ownBlock ≠ some sb := ⟨b2.neB pm.cel.row (by decide), b2.neB bp (by decide), b2.neB bw (by decide), b2.neB se (by decide)⟩
  have s2 := Blk.cell se 2
  have s0 := Blk.cell se 0
  replace kD := Lib.hid kD
  unfold SeM at se
  obtain ⟨kd, hkd⟩ : ∃ kd : Int, kd = 0 := ⟨_, rfl⟩
  rw [← hkd] at se
  replace hkd := Lib.hid hkd
  clear ok hrg hT
  replace hcb := Lib.hid hcb
  replace hsp := Lib.hid hsp
  replace hlv := Lib.hid hlv
  replace hic' := Lib.hid hic'
  replace his' := Lib.hid his'
  replace hip' := Lib.hid hip'
  replace hiw' := Lib.hid hiw'
  replace hI := Lib.hid hI
  go_enter Tryz.func7, Tryz.ntmps7
  go_upto_region 6 with fail
  clear s2 s0
  obtain ⟨ov, hov⟩ : ∃ ov, ov = Value.pointer none := ⟨_, rfl⟩
  rw [← hov] at b1
  replace hov := Lib.hid hov
  have z0 : ∀ t : Tw (fun w' => Blk w' cb 64 #[.pointer (some ⟨gp, 0, none⟩), .int .i64 home, lv, ov] ∧ SeA w' sb kd (.pointer (some ⟨pb, 0, none⟩))), t.w.cell? ⟨cb, 0, none⟩ = some (.pointer (some ⟨gp, 0, none⟩)) := fun t => t.h.1.cell 0
  have z1 : ∀ t : Tw (fun w' => Blk w' cb 64 #[.pointer (some ⟨gp, 0, none⟩), .int .i64 home, lv, ov] ∧ SeA w' sb kd (.pointer (some ⟨pb, 0, none⟩))), t.w.cell? ⟨sb, 1, none⟩ = some (.pointer (some ⟨pb, 0, none⟩)) := fun t => t.h.2.choose_spec.cell 1
  have zz : Nonempty (Tw (fun w' => Blk w' cb 64 #[.pointer (some ⟨gp, 0, none⟩), .int .i64 home, lv, ov] ∧ SeA w' sb kd (.pointer (some ⟨pb, 0, none⟩)))) := ⟨⟨W, b1, ⟨_, se⟩⟩⟩
  refine wp_region_plan (fun w' => Blk w' cb 64 #[.pointer (some ⟨gp, 0, none⟩), .int .i64 home, lv, ov] ∧ SeA w' sb kd (.pointer (some ⟨pb, 0, none⟩))) [(0, true), (1, true), (2, true), (3, true), (4, true), (5, true), (6, true), (7, true), (8, true), (9, false), (10, true), (11, true), (12, false)] (by kernel_rfl) (by kernel_rfl) (by kernel_rfl) (by kernel_rfl) ⟨b1.drew, ⟨_, Blk.drew se⟩⟩ ?_
  have u0 : Upd (fun _ => False) W W.drew := (Upd.refl (fun _ => False) W).drew
  generalize W.drew = W1 at *
  refine wpPl_qs 9 _ _ _ (by kernel_rfl) (by kernel_rfl) (by simp) ?_
  unfold clsS
  simp only [List.take_succ_cons, List.take_zero, List.drop_succ_cons, List.drop_zero, List.filterMap_cons, List.filterMap_nil, List.getElem?_toArray, List.getElem?_cons_zero, List.getElem?_cons_succ]
  repeat (first
    | go_big_quiet_skip
    | (go_big_quiet_want; go_big_quiet_op; go_big_quiet_on)
    | (refine id (?_ : wpQuiet _ _ _ _ (_ :: _) _); first | go_big_quiet_skip | (go_big_quiet_want; go_big_quiet_op; go_big_quiet_on)))
  refine wpQuiet_nil ?_
  refine wpPl_e _ (by rfl) (by kernel_rfl) (fun K hK => ?_)
  go_simp
  refine (kD.out W1 u0).mono ?_
  rintro e W2 ⟨hu, ws', pm2, ⟨cs', bw2, hcs'⟩, hR⟩
  clear kD z0 z1
  have hu' : Upd (fun b => b = h ∨ b = pb ∨ b = wb) W W2 := (u0.mono (fun b _ e => e.elim)).trans hu
  have hsz1 : W.heap.size ≤ W1.heap.size := u0.size
  clear hu u0
  have hcb := hcb.out
  have hsp := hsp.out
  have hlv := hlv.out
  have hic' := hic'.out
  have his' := his'.out
  have b1' := b1.upd hu' (by omega)
  have se' := Blk.upd se hu' (by omega)
  have b2' := b2.updS hu' (fun g hg e => by rcases e with e | e | e <;> subst e; exact hlv.1 hg; exact hlv.2.1 hg; exact hlv.2.2.1 hg)
  have huI : Upd (fun b => I b ∨ b = h) W W2 := hu'.mono (fun b _ e => by rcases e with e | e | e; exact .inr e; exact .inl (e ▸ hip); exact .inl (e ▸ hiw))
  have s2 := Blk.cell se' 2
  have f2 := Blk.frozen se' 2
  rcases hR with ⟨rfl, word', left', rd', seen', hd, bp2⟩ | ⟨rfl, got, pv, word', left', seen', hd, bp2, own⟩
  · refine hK _ _ ⟨b1', ⟨_, se'⟩⟩ ?_
    clear hK K
    refine wpPl_qs 2 _ _ _ (by kernel_rfl) (by kernel_rfl) (by simp) ?_
    unfold clsS
    simp only [List.take_succ_cons, List.take_zero, List.drop_succ_cons, List.drop_zero, List.filterMap_cons, List.filterMap_nil, List.getElem?_toArray, List.getElem?_cons_zero, List.getElem?_cons_succ]
    repeat (first
      | go_big_quiet_skip
      | (go_big_quiet_want; go_big_quiet_op; go_big_quiet_on)
      | (refine id (?_ : wpQuiet _ _ _ _ (_ :: _) _); first | go_big_quiet_skip | (go_big_quiet_want; go_big_quiet_op; go_big_quiet_on)))
    refine wpQuiet_nil ?_
    have u3 := Upd.one W2 sb 2 (.bool false)
    refine wpPl_e _ (by rfl) (by kernel_rfl) (fun K hK => ?_)
    go_simp
    refine hK _ _ ⟨b1'.upd u3 hcb.1, ⟨_, Blk.set_ se' 2 (.bool false)⟩⟩ ?_
    clear hK K s2 f2
    unfold wpPl
    refine NoPanic.normal ?_
    have se3 : Blk (W2.setCell ⟨sb, 2, none⟩ (.bool false)) sb 66 #[.int .i64 kd, (.pointer (some ⟨pb, 0, none⟩)), .bool false] := Blk.set_ se' 2 (.bool false)
    have u3 := Upd.one W2 sb 2 (.bool false)
    have b13 := b1'.upd u3 hcb.1
    have b23 := b2'.updS u3 (fun g hg e => hlv.2.2.2 (e ▸ hg))
    have bp3 := bp2.upd u3 (Ne.symm hsp.1)
    have bw3 := bw2.upd u3 (Ne.symm hsp.2)
    have pm3 := pm2.upd u3 (Ne.symm his'.1) (Ne.symm his'.2.1) (Ne.symm his'.2.2.1)
    have hu3 := huI.trans (u3.mono (fun b _ e => .inl (e ▸ his)))
    clear u3 b1' b2' bp2 bw2 pm2 huI se' bp bw b1 b2 pm hu' zz
    generalize W2.setCell ⟨sb, 2, none⟩ (.bool false) = W3 at *
    have s2 := Blk.cell se3 2
    replace hd := Lib.hid hd
    clear hcb hsp hlv hic' his'
    go_wp2_with fail
    go_ret
    have hdk := hd.out k
    rw [hdk]
    have hov := hov.out
    have hkd := hkd.out
    subst hov hkd
    exact ⟨rfl, pm3, hu3, ⟨_, ⟨.inl hic, home, lv, b13, b23, fun g hg => .inl (b3 g hg)⟩, rfl, sb, pb, rfl, .inl his, se3, ⟨.inl hip, wb, cs', .inl hiw, bw3, hcs', bp3⟩⟩⟩
  · refine hK _ _ ⟨b1', ⟨_, se'⟩⟩ ?_
    clear hK K
    refine wpPl_qs 2 _ _ _ (by kernel_rfl) (by kernel_rfl) (by simp) ?_
    unfold clsS
    simp only [List.take_succ_cons, List.take_zero, List.drop_succ_cons, List.drop_zero, List.filterMap_cons, List.filterMap_nil, List.getElem?_toArray, List.getElem?_cons_zero, List.getElem?_cons_succ]
    repeat (first
      | go_big_quiet_skip
      | (go_big_quiet_want; go_big_quiet_op; go_big_quiet_on)
      | (refine id (?_ : wpQuiet _ _ _ _ (_ :: _) _); first | go_big_quiet_skip | (go_big_quiet_want; go_big_quiet_op; go_big_quiet_on)))
    refine wpQuiet_nil ?_
    have u3 := Upd.one W2 sb 2 (.bool true)
    refine wpPl_e _ (by rfl) (by kernel_rfl) (fun K hK => ?_)
    go_simp
    refine hK _ _ ⟨b1'.upd u3 hcb.1, ⟨_, Blk.set_ se' 2 (.bool true)⟩⟩ ?_
    clear hK K s2 f2
    unfold wpPl
    refine NoPanic.normal ?_
    have se3 : Blk (W2.setCell ⟨sb, 2, none⟩ (.bool true)) sb 66 #[.int .i64 kd, (.pointer (some ⟨pb, 0, none⟩)), .bool true] := Blk.set_ se' 2 (.bool true)
    have u3 := Upd.one W2 sb 2 (.bool true)
    have b13 := b1'.upd u3 hcb.1
    have b23 := b2'.updS u3 (fun g hg e => hlv.2.2.2 (e ▸ hg))
    have bp3 := bp2.upd u3 (Ne.symm hsp.1)
    have pm3 := pm2.upd u3 (Ne.symm his'.1) (Ne.symm his'.2.1) (Ne.symm his'.2.2.1)
    have hu3 := huI.trans (u3.mono (fun b _ e => .inl (e ▸ his)))
    have own3 := own.updne se' (by decide) u3
    clear u3 b1' b2' bp2 bw2 pm2 huI se' bp bw b1 b2 pm hu' zz own
    generalize W2.setCell ⟨sb, 2, none⟩ (.bool true) = W3 at *
    have s2 := Blk.cell se3 2
    have s0 := Blk.cell se3 0
    have s1 := Blk.cell se3 1
    have hsz3 : W.heap.size ≤ W3.heap.size := hu3.size
    rw [hkd.out] at s0
    replace hd := Lib.hid hd
    have hgl : got.length ≤ 60000 := by have := got_len hd.out; omega
    have kc := came_any W3 gp cb pb nw wb word' left' seen' base home lv ov pv k.list got b13 b23 bp3 (own3.monoB (by omega)) hgl (by omega) (by omega)
    replace kc := Lib.hid kc
    replace hcb := Lib.hid hcb
    replace hsp := Lib.hid hsp
    replace hlv := Lib.hid hlv
    clear hic' his'
    go_wp2_with fail
    refine kc.out.mono ?_
    rintro e W4 ⟨rfl, home', lv', b4, own4, hnr, hu4⟩
    go_wp2_with fail
    go_ret
    have hdk := hd.out k
    rw [hdk]
    have hov := hov.out
    subst hov
    have hn : ∀ x, (∀ b, I b → b ≠ x) → ¬ (x = cb ∨ lv.ownBlock = some x) := fun x hx e => by
      rcases e with e | e
      · exact hx cb hic e.symm
      · exact hx x (b3 x e) rfl
    exact ⟨rfl, pm3.upd hu4 (hn gp fun b hb => (hI.out b hb).1) (hn gc fun b hb => (hI.out b hb).2.1) (hn h fun b hb => (hI.out b hb).2.2.1),
      hu3.trans (hu4.mono (fun b _ e => by rcases e with e | e; exact .inl (e ▸ hic); exact .inl (b3 b e))),
      ⟨_, ⟨.inl hic, home', lv', b4, own4, fun g hg => (hnr g hg).elim (fun e => .inl (b3 g e)) (fun e => .inr (Nat.le_trans hsz3 e))⟩, rfl, rfl⟩⟩
end Go.Proofs.YtilhkhnjloplfaaGreatDoor
