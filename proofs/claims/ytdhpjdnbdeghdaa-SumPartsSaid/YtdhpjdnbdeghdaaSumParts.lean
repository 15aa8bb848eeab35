/- Every input of SumParts answers true, and reads behind the call as it read before. No condition. -/
import Derived.Test.YtdhpjdnbdeghdaaSumWalkB
import Derived.Test.YtdhpjdnbdeghdaaSumPlain2
import Derived.Test.YtdhpjdnbdeghdaaFrame
namespace Go.Proofs.Ytdhpjdnbdeghdaa
open Go.RowKit
structure PartsRel (n B : Nat) (w : World) (k : Nat) (va : Value) (s : Int) (wr : World) : Prop where
  hk : k ≤ n
  hk10 : k ≤ 10
  a : ∃ la, Own .u8 5 wr B va la ∧ la.length % 2 = 0 ∧ la.length ≤ 60 * k ∧ fo (sb true la) = s
  bel : Below B w wr
/-- the rows: slice values, each reads as bytes -/
def RowsRd (w : World) (A : Option Addr) (n : Nat) : Prop :=
  0 < n → ∃ b o, A = some ⟨b, o, none⟩ ∧ b < w.heap.size ∧ ∀ i, i < n → ∃ A' len cap l, w.cell? ⟨b, o + i, none⟩ = some (.slice A' len cap) ∧ len ≤ cap ∧ cap ≤ maxLen ∧ Rd .u8 w w.heap.size A' len l
set_option maxHeartbeats 400000 in
theorem SumParts_walk (A : Option Addr) (n cap : Nat) (w : World) (hr : RowsRd w A n) (hlc : n ≤ cap) (hm : cap ≤ maxLen) :
    Calls Try.prog 7 #[.slice A n cap] w fun e w' => e = .returned (.bool true) ∧ Below w.heap.size w w' := by
  obtain ⟨i0, hi, hz0, hz1, hz2⟩ := info_parts info_u8
  unfold maxLen at hm
  go_enter Try.func7, Try.ntmps7
  go_wp2
  go_loopw [3, 4, 5] (fun va s i wr => ∃ (k : Nat) (x : Int), i = .int .i64 k ∧ s = .int .u32 x ∧ PartsRel n w.heap.size w k va x wr) (fun _ _ i _ => n - (intOf i).toNat)
  case atStart => exact ⟨0, 0, rfl, rfl, Nat.zero_le _, Nat.zero_le _, ⟨[], Own.nil _ _ _ _, rfl, by simp, rfl⟩, Below.refl _ _⟩
  case round =>
    obtain ⟨k, x, rfl, rfl, hk, hk10, ⟨la, owna, hla, hla6, hsa⟩, bel⟩ := hrel
    replace hla := Lib.hid hla
    have h8 := sb_bd la (fun y hy => inr_u8 (owna.rng y hy)) true
    have hxb := fo_bd h8.1
    rw [hsa] at hxb
    replace hsa := Lib.hid hsa
    by_cases hlt : k < n ∧ k < 10
    · obtain ⟨hlt, hlt10⟩ := hlt
      obtain ⟨b, o, rfl, hbl, hrow⟩ := hr (by omega)
      obtain ⟨A', len, cap', l, hc, h1, h2, rd⟩ := hrow k hlt
      clear hrow
      replace hc := bel.cell (p := ⟨b, o + k, none⟩) hbl |>.trans hc
      unfold maxLen at h2
      obtain ⟨m0, hmn0, hm10, hm20⟩ := minc 60 (by omega) len
      obtain ⟨m, hmn, hm1, hm2, hme⟩ : ∃ m : Nat, (m0 : Int) / 2 * 2 = (m : Int) ∧ m ≤ len ∧ m ≤ 60 ∧ m % 2 = 0 := ⟨m0 / 2 * 2, by push_cast; rfl, by omega, by omega, by omega⟩
      replace hme := Lib.hid hme
      have rd1 := (rd.take hm1).below bel
      have hlm : (l.take m).length = m := by rw [List.length_take, rd.len]; omega
      obtain ⟨L, hL⟩ : ∃ L, L = l.take m := ⟨_, rfl⟩
      rw [← hL] at rd1 hlm
      clear hL rd
      replace hlm := Lib.hid hlm
      have h8L := sb_bd L (fun y hy => inr_u8 (rd1.rng y hy)) true
      have hd : decide ((k : Int) < n) = true := by simpa using hlt
      have hd2 : decide ((k : Int) < 10) = true := by simp; omega
      have hsum := sb_app la L hla.out
      have hfa := fo_add (sb true la) (sb true L) h8.1 h8L.1
      rw [hsa.out] at hfa
      have hfb := fo_bd (n := x + sb true L) (by omega)
      replace hsum := Lib.hid hsum
      replace hfa := Lib.hid hfa
      go_wp2
      go_quiet (fail)
      go_wp2_with (first
        | (at_builtin; (refine wpList_app _ rfl (.tmp 30) (.tmp 31) 22 rfl .u8 w.heap.size 5 i0 (.int .u8 0) 1 Try.underlying22 hi hz0 hz1 hz2 rfl u3 rfl la (owna.drewN nq) w.heap.size _ _ _ rfl L (rd1.drewN nq) (by omega) (by decide) (by have := bel.size; simp; omega) ?_); intro va' w1 owna' hg1 _; have bel1 : Below w.heap.size w w1 := (below_drewN bel nq).grown hg1 (by have := bel.size; simp; omega) (fun g h => (owna.lt g h).1); have rd2 := (rd1.drewN nq).grown hg1 (by have := bel.size; simp; omega) (fun g h => (owna.lt g h).1); clear hg1)
        | (go_at_call 13; refine (More_any _ _ _ _ _ _ _ (by omega) (by omega) (by omega) rd2).mono ?_; rintro e w' ⟨rfl, rfl⟩))
      go_roundw
      case rel =>
        have e1 := hlm.out
        have e2 := hla.out
        have e3 := hme.out
        exact ⟨k + 1, fo (x + sb true L), by go_num, rfl, by omega, by omega, ⟨_, owna', by rw [List.length_append]; omega, by rw [List.length_append]; omega, by rw [hsum.out]; exact hfa.out.symm⟩, bel1⟩
      case measure => simp [intOf]; omega
    · obtain ⟨Aa, ca, rfl, _, _, rda⟩ := owna.form rfl
      have hE : Hid (fo (0 + sb true la) = x) := by show fo (0 + sb true la) = x; rw [Int.zero_add]; exact hsa.out
      have hE2 : Hid (sumOf la = 65535 - fo x) := by show sumOf la = 65535 - fo x; unfold sumOf; rw [← hsa.out, fo_fo _ h8.1]
      have hl1 : la.length ≤ 600 := by omega
      obtain ⟨L1, hL1⟩ : ∃ L1, L1 = la.length := ⟨_, rfl⟩
      rw [← hL1] at rda hl1 ⊢
      clear hL1
      have hlast : decide (x ≤ 65535) = true := by simp; omega
      by_cases hk1 : k < n
      · have hd : decide ((k : Int) < n) = true := by simpa using hk1
        have hd2 : decide ((k : Int) < 10) = false := by simp; omega
        go_wp2_with (first
          | (go_at_call 10; refine (sums_any _).mono ?_; rintro e w2 ⟨rfl, hb2⟩; have rda2 := rda.below hb2)
          | (go_at_call 13; refine (More_any _ _ _ _ _ _ _ (by omega) (by omega) (by omega) rda2).mono ?_; rw [hE.out]; rintro e w' ⟨rfl, rfl⟩)
          | (go_at_call 15; refine (Done_any _ _ (by omega) (by omega)).mono ?_; rintro e w' ⟨rfl, rfl⟩)
          | (go_at_call 11; refine (Of_any _ _ _ _ _ _ (by omega) rda2).mono ?_; rw [hE2.out]; rintro e w' ⟨rfl, rfl⟩))
        go_ret
        exact ⟨by simp, bel.trans (hb2.mono bel.size)⟩
      · have hd : decide ((k : Int) < n) = false := by simpa using hk1
        go_wp2_with (first
          | (go_at_call 10; refine (sums_any _).mono ?_; rintro e w2 ⟨rfl, hb2⟩; have rda2 := rda.below hb2)
          | (go_at_call 13; refine (More_any _ _ _ _ _ _ _ (by omega) (by omega) (by omega) rda2).mono ?_; rw [hE.out]; rintro e w' ⟨rfl, rfl⟩)
          | (go_at_call 15; refine (Done_any _ _ (by omega) (by omega)).mono ?_; rintro e w' ⟨rfl, rfl⟩)
          | (go_at_call 11; refine (Of_any _ _ _ _ _ _ (by omega) rda2).mono ?_; rw [hE2.out]; rintro e w' ⟨rfl, rfl⟩))
        go_ret
        exact ⟨by simp, bel.trans (hb2.mono bel.size)⟩
theorem SumParts_args (W : World) (args : Array Value) (hs : args.size = Try.f7.params.size) (hA : ∀ (j : Nat) t v, Try.f7.params[j]? = some t → args[j]? = some v → Arg Try.prog W t v) :
    Calls Try.prog 7 args W fun e W' => e = .returned (.bool true) ∧ Below W.heap.size W W' := by
  obtain ⟨v0, rfl⟩ := args1 hs
  obtain ⟨A, len, cap, m, rfl, h1, h2, h3⟩ := arg_slice Try.underlying38 (hA 0 38 v0 rfl rfl)
  have hC : Try.prog.cellsOf 22 = 1 := by kernel_rfl
  rw [hC] at h3
  refine SumParts_walk A len cap W (fun hp => ?_) h1 h2
  obtain ⟨a, rfl, hi⟩ := h3 hp
  have hcell : ∀ i, i < len → ∃ A' len' cap' l, W.cell? (a.add i) = some (.slice A' len' cap') ∧ len' ≤ cap' ∧ cap' ≤ maxLen ∧ Rd .u8 W W.heap.size A' len' l := by
    intro i hil
    obtain ⟨ys, hy, hr⟩ := hi i hil
    obtain ⟨A', len', cap', l, rfl, q1, q2, q3⟩ := rdg_ints Try.underlying22 Try.underlying5 (by kernel_rfl) hr
    rw [Nat.mul_one] at hy
    exact ⟨A', len', cap', l, cells_one hy, q1, q2, q3⟩
  obtain ⟨_, _, _, _, c0, _⟩ := hcell 0 hp
  have hsp := cell_block c0
  have e0 : a.add 0 = a := by simp [Addr.add]
  rw [e0] at hsp
  obtain ⟨b, o, s⟩ := a
  obtain ⟨hs1, hs2⟩ := hsp
  simp only at hs1 hs2
  subst hs1
  refine ⟨b, o, rfl, hs2, fun i hil => ?_⟩
  have e : (⟨b, o, none⟩ : Addr).add i = ⟨b, o + i, none⟩ := by simp [Addr.add]
  rw [← e]; exact hcell i hil

set_option maxRecDepth 100000 in
theorem SumParts_lifted (os : Os) (started : os.Started) (H : Type) (enc : TypeId × Value → H) :
    ReturnsInHanded {} Try.checked os 7 .any (Rows.sumPartsSpec.pre6 enc Try.prog Try.f7 Rows.sumPartsRow.domain false) (Rows.sumPartsSpec.post enc Try.prog Try.f7 false true false false) :=
  law_lifted os started H enc (by kernel_rfl) Try.func7 rfl rfl (fun H ds h => by match ds, h with | [_], _ => exact ⟨rfl, rfl, rfl⟩) (by kernel_rfl)
    (ChangeSpec.witness6 (enc := enc) (C := Try.checked) false ⟨#[], #[.slice none 0 0], []⟩ 8 (by kernel_rfl) (by kernel_rfl) (by kernel_rfl) (by kernel_rfl))
    SumParts_args

/-- the statement -/
theorem sumParts_holds : Rows.SumPartsSaid :=
  OpenClaim.holds_of_wide 7 Try.f7 rfl rfl rfl rfl rfl rfl rfl ⟨rfl, rfl, rfl, rfl, rfl⟩ rfl rfl rfl rfl rfl (by kernel_rfl) Try.func7 (by kernel_rfl)
    (of_decide_eq_true (by kernel_rfl)) (by unfold Func.isWrapper; first | (rw [if_pos (by decide +kernel)]; kernel_rfl) | (rw [if_neg (by decide +kernel)]; exact ⟨rfl, rfl⟩))
    (fun os started H enc _ => SumParts_lifted os started H enc)

end Go.Proofs.Ytdhpjdnbdeghdaa
