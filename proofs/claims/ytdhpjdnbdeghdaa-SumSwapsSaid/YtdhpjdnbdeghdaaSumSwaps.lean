/- Every input of SumSwaps answers true, and reads behind the call as it read before. No condition. -/
import Derived.Test.YtdhpjdnbdeghdaaSumWalkB
import Derived.Test.YtdhpjdnbdeghdaaSumPlain2
import Derived.Test.YtdhpjdnbdeghdaaFrame
namespace Go.Proofs.Ytdhpjdnbdeghdaa
open Go.RowKit
theorem shl8_u16 (s : Int) : IntKind.u16.wrap (s * 256) = s % 256 * 256 := by rw [IntKind.wrap_u16]; omega
theorem or_u16 (s : Int) (h : 0 ≤ s ∧ s ≤ 65535) : bits .or .u16 (s % 256 * 256) (s / 256) = swp s := by
  rw [u16_or _ _ (by omega) (by omega) (by omega) (by omega), nat_join 8 _ _ (by omega) (by omega)]
  unfold swp; omega
structure SwapsRel (ws : List Int) (m B : Nat) (w : World) (k : Nat) (va vb : Value) (wr : World) : Prop where
  hk : k ≤ m
  a : ∃ la, Own .u8 5 wr B va la ∧ la.length = 2 * k ∧ sb true la = sw ws k
  b : ∃ lb, Own .u8 5 wr B vb lb ∧ lb.length = 2 * k ∧ (∃ q, sb true lb = 256 * sw ws k - 65535 * q) ∧ (sw ws k = 0 → sb true lb = 0) ∧ (sb true lb = 0 → sw ws k = 0)
  far : Far va vb
  bel : Below B w wr
  pos : 0 ≤ sw ws k
set_option maxHeartbeats 1000000 in
theorem SumSwaps_walk (A : Option Addr) (len cap : Nat) (l : List Int) (w : World) (hr : Rd .u16 w w.heap.size A len l) (hlc : len ≤ cap) (hm : cap ≤ maxLen) :
    Calls Try.prog 5 #[.slice A len cap] w fun e w' => e = .returned (.bool true) ∧ Below w.heap.size w w' := by
  obtain ⟨i0, hi, hz0, hz1, hz2⟩ := info_parts info_u8
  unfold maxLen at hm
  obtain ⟨m, hmn, hm1, hm2⟩ := minc 100 (by omega) len
  have hr2 := hr.take hm1
  obtain ⟨L, hL⟩ : ∃ L, L = l.take m := ⟨_, rfl⟩
  rw [← hL] at hr2
  have hlen := Lib.hid hr2.len
  clear hL hr
  go_enter Try.func5, Try.ntmps5
  go_wp2
  go_loopw [3, 4, 5] (fun va vb i wr => ∃ k : Nat, i = .int .i64 k ∧ SwapsRel L m w.heap.size w k va vb wr) (fun _ _ i _ => m - (intOf i).toNat)
  case atStart => exact ⟨0, rfl, Nat.zero_le _, ⟨[], Own.nil _ _ _ _, rfl, rfl⟩, ⟨[], Own.nil _ _ _ _, rfl, ⟨0, rfl⟩, fun _ => rfl, fun _ => rfl⟩, Far.nil _, Below.refl _ _, Int.le_refl _⟩
  case round =>
    obtain ⟨k, rfl, hk, ⟨la, owna, hla, hsa⟩, ⟨lb, ownb, hlb, ⟨q, hsb⟩, hz, hz'⟩, far, bel, hpos⟩ := hrel
    replace hla := Lib.hid hla
    replace hlb := Lib.hid hlb
    replace hsa := Lib.hid hsa
    replace hsb := Lib.hid hsb
    replace hz := Lib.hid hz
    replace hz' := Lib.hid hz'
    by_cases hlt : k < m
    · obtain ⟨b, o, rfl, hbl, hc, hx⟩ := hr2.at_ hlt
      have hc := bel.cell (p := ⟨b, o + k, none⟩) hbl |>.trans hc
      have hx := inr_u16 hx
      have hss := sw_succ L k (by rw [hlen.out]; exact hlt)
      obtain ⟨x, hxe⟩ : ∃ x, x = L.getD k 0 := ⟨_, rfl⟩
      rw [← hxe] at hc hx hss
      clear hxe
      replace hss := Lib.hid hss
      have hw8 := IntKind.wrap_u8' x
      have hw8' := IntWalk.u8_in (x / 256) (by omega)
      have hra := Rd.new .u8 wr 5 [x / 256, x % 256] (by intro y hy; simp at hy; rcases hy with rfl | rfl <;> exact u8_inr (by omega)) #[.int .u8 (x / 256), .int .u8 (x % 256)] rfl 2 rfl
      go_wp2_with (first
        | (at_builtin; (refine wpList_app _ rfl (.tmp 23) (.tmp 29) 22 rfl .u8 w.heap.size 5 i0 (.int .u8 0) 1 Try.underlying22 hi hz0 hz1 hz2 rfl u3 rfl la (owna.alloc _) (wr.heap.size + 1) _ 2 2 rfl [x / 256, x % 256] hra (by rw [hla.out]; omega) (by decide) (by have := bel.size; simp; omega) ?_); intro va' w1 owna' hg1 hv1; obtain ⟨ownb1, far1⟩ := (ownb.alloc _).far hg1 far hv1 owna'; have bel1 : Below w.heap.size w w1 := (bel.alloc bel.size _).grown hg1 (by simp; have := bel.size; omega) (fun g h => (owna.lt g h).1); clear hg1 hv1)
        | (at_builtin; have hrb := Rd.new .u8 w1 5 [x % 256, x / 256] (by intro y hy; simp at hy; rcases hy with rfl | rfl <;> exact u8_inr (by omega)) #[.int .u8 (x % 256), .int .u8 (x / 256)] rfl 2 rfl; go_loud (refine wpList_app _ rfl (.tmp 31) (.tmp 37) 22 rfl .u8 w.heap.size 5 i0 (.int .u8 0) 1 Try.underlying22 hi hz0 hz1 hz2 rfl u4 rfl lb (ownb1.alloc _) (w1.heap.size + 1) _ 2 2 rfl [x % 256, x / 256] hrb (by rw [hlb.out]; omega) (by decide) (by have := bel1.size; simp; omega) ?_); intro vb' w2 ownb' hg2 hv2; obtain ⟨owna2, far2⟩ := (owna'.alloc _).far hg2 far1.symm hv2 ownb'; have bel2 : Below w.heap.size w w2 := (bel1.alloc bel1.size _).grown hg2 (by simp; have := bel1.size; omega) (fun g h => (ownb1.lt g h).1); clear hg2 hv2))
      go_roundw
      case rel =>
        have e1 := hss.out
        refine ⟨k + 1, by go_num, by omega, ⟨_, owna2, by simp [hla.out]; omega, ?_⟩, ⟨_, ownb', by simp [hlb.out]; omega, ⟨q + x / 256, ?_⟩, ?_, ?_⟩, far2.symm, bel2, by rw [e1]; omega⟩
        · rw [sb_word la _ _ (by rw [hla.out]; omega), hsa.out, e1]; omega
        · rw [sb_word lb _ _ (by rw [hlb.out]; omega), hsb.out, e1]; omega
        · rw [sb_word lb _ _ (by rw [hlb.out]; omega), e1]
          intro h; have := hz.out (by omega); omega
        · rw [sb_word lb _ _ (by rw [hlb.out]; omega), e1]
          have := (sb_bd lb (fun y hy => inr_u8 (ownb.rng y hy)) true).1
          intro h; have := hz'.out (by omega); omega
      case measure => simp [intOf]; omega
    · obtain ⟨Aa, ca, rfl, _, _, rda⟩ := owna.form rfl
      obtain ⟨Ab, cb, rfl, _, _, rdb⟩ := ownb.form rfl
      have h8a := sb_bd la (fun y hy => inr_u8 (owna.rng y hy)) true
      have h8b := sb_bd lb (fun y hy => inr_u8 (ownb.rng y hy)) true
      have hE := sumOf_swp la lb h8a.1 h8b.1 q (by rw [hsb.out, hsa.out]) (fun h => hz.out (by rw [← hsa.out]; exact h)) (fun h => by rw [hsa.out]; exact hz'.out h)
      have hsO : 0 ≤ sumOf la ∧ sumOf la ≤ 65535 := by have := fo_bd h8a.1; unfold sumOf; omega
      have hl1 : la.length ≤ 200 := by rw [hla.out]; omega
      have hl2 : lb.length ≤ 200 := by rw [hlb.out]; omega
      have ho1 := or_u16 (sumOf la) hsO
      have ho2 := shl8_u16 (sumOf la)
      replace hE := Lib.hid hE
      obtain ⟨L1, hL1⟩ : ∃ L1, L1 = la.length := ⟨_, rfl⟩
      obtain ⟨L2, hL2⟩ : ∃ L2, L2 = lb.length := ⟨_, rfl⟩
      rw [← hL1] at rda hl1 ⊢
      rw [← hL2] at rdb hl2 ⊢
      clear hL1 hL2
      go_wp2_with (first
        | (go_at_call 10; refine (sums_any _).mono ?_; rintro e w2 ⟨rfl, hb2⟩; have rda2 := rda.below hb2; have rdb2 := rdb.below hb2)
        | (go_at_call_of 11 (Value.slice Aa L1 ca); refine (Of_any _ _ _ _ _ _ (by omega) rda).mono ?_; rintro e w' ⟨rfl, rfl⟩)
        | (go_at_call 11; refine (Of_any _ _ _ _ _ _ (by omega) rdb2).mono ?_; rw [hE.out]; rintro e w' ⟨rfl, rfl⟩))
      go_ret
      exact ⟨by simp, bel.trans (hb2.mono bel.size)⟩
theorem SumSwaps_args (W : World) (args : Array Value) (hs : args.size = Try.f5.params.size) (hA : ∀ (j : Nat) t v, Try.f5.params[j]? = some t → args[j]? = some v → Arg Try.prog W t v) :
    Calls Try.prog 5 args W fun e W' => e = .returned (.bool true) ∧ Below W.heap.size W W' := by
  obtain ⟨v0, rfl⟩ := args1 hs
  obtain ⟨A, len, cap, l, rfl, h1, h2, h3⟩ := arg_ints Try.underlying33 Try.underlying26 (by kernel_rfl) (hA 0 33 v0 rfl rfl)
  exact SumSwaps_walk A len cap l W h3 h1 h2

set_option maxRecDepth 100000 in
theorem SumSwaps_lifted (os : Os) (started : os.Started) (H : Type) (enc : TypeId × Value → H) :
    ReturnsInHanded {} Try.checked os 5 .any (Rows.sumSwapsSpec.pre6 enc Try.prog Try.f5 Rows.sumSwapsRow.domain false) (Rows.sumSwapsSpec.post enc Try.prog Try.f5 false true false false) :=
  law_lifted os started H enc (by kernel_rfl) Try.func5 rfl rfl (fun H ds h => by match ds, h with | [_], _ => exact ⟨rfl, rfl, rfl⟩) (by kernel_rfl)
    (ChangeSpec.witness6 (enc := enc) (C := Try.checked) false ⟨#[], #[.slice none 0 0], []⟩ 8 (by kernel_rfl) (by kernel_rfl) (by kernel_rfl) (by kernel_rfl))
    SumSwaps_args

/-- the statement -/
theorem sumSwaps_holds : Rows.SumSwapsSaid :=
  OpenClaim.holds_of_wide 5 Try.f5 rfl rfl rfl rfl rfl rfl rfl ⟨rfl, rfl, rfl, rfl, rfl⟩ rfl rfl rfl rfl rfl (by kernel_rfl) Try.func5 (by kernel_rfl)
    (of_decide_eq_true (by kernel_rfl)) (by unfold Func.isWrapper; first | (rw [if_pos (by decide +kernel)]; kernel_rfl) | (rw [if_neg (by decide +kernel)]; exact ⟨rfl, rfl⟩))
    (fun os started H enc _ => SumSwaps_lifted os started H enc)

end Go.Proofs.Ytdhpjdnbdeghdaa
