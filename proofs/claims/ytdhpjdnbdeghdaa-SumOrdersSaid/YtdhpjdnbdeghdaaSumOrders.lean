/- Every input of SumOrders answers true, and reads behind the call as it read before. No condition. -/
import Derived.Test.YtdhpjdnbdeghdaaSumWalkB
import Derived.Test.YtdhpjdnbdeghdaaSumPlain2
import Derived.Test.YtdhpjdnbdeghdaaFrame
namespace Go.Proofs.Ytdhpjdnbdeghdaa
open Go.RowKit
structure OrdersRel (ws vs : List Int) (m B : Nat) (w : World) (k : Nat) (va vb : Value) (wr : World) : Prop where
  hk : k ≤ m
  a : ∃ la, Own .u8 5 wr B va la ∧ la.length = 2 * k ∧ sb true la = sw ws k
  b : ∃ lb, Own .u8 5 wr B vb lb ∧ lb.length % 2 = 0 ∧ lb.length ≤ 6 * k ∧ sb true lb = sw vs k
  far : Far va vb
  bel : Below B w wr
theorem two_bytes {x : Int} (hx : 0 ≤ x ∧ x ≤ 65535) : ∀ y, y ∈ [x / 256, x % 256] → inr .u8 y := by intro y hy; simp at hy; rcases hy with rfl | rfl <;> exact u8_inr (by omega)
set_option maxHeartbeats 1000000 in
theorem SumOrders_walk (A : Option Addr) (len cap : Nat) (l : List Int) (tu ze : Int) (w : World) (hr : Rd .u16 w w.heap.size A len l) (hlc : len ≤ cap) (hm : cap ≤ maxLen) :
    Calls Try.prog 4 #[.slice A len cap, .int .i64 tu, .int .i64 ze] w fun e w' => e = .returned (.bool true) ∧ Below w.heap.size w w' := by
  obtain ⟨i0, hi, hz0, hz1, hz2⟩ := info_parts info_u8
  unfold maxLen at hm
  obtain ⟨m, hmn, hm1, hm2⟩ := minc 100 (by omega) len
  have hr2 := hr.take hm1
  obtain ⟨L, hL⟩ : ∃ L, L = l.take m := ⟨_, rfl⟩
  rw [← hL] at hr2
  have hlen := Lib.hid hr2.len
  clear hL hr
  obtain ⟨t, ht⟩ : ∃ t : Nat, 0 < m → (IntKind.u64.wrap tu).tmod m = (t : Int) ∧ (t : Int) < m := by
    rcases Nat.eq_zero_or_pos m with h | h
    · exact ⟨0, fun h' => absurd h' (by omega)⟩
    · obtain ⟨t, h1, h2⟩ := modn tu m (by omega); exact ⟨t, fun _ => ⟨h1, h2⟩⟩
  replace ht := Lib.hid ht
  go_enter Try.func4, Try.ntmps4
  go_wp2
  go_loopw [7, 8, 10] (fun va vb i wr => ∃ k : Nat, i = .int .i64 k ∧ OrdersRel L (rot L t) m w.heap.size w k va vb wr) (fun _ _ i _ => m - (intOf i).toNat)
  case atStart => exact ⟨0, rfl, Nat.zero_le _, ⟨[], Own.nil _ _ _ _, rfl, rfl⟩, ⟨[], Own.nil _ _ _ _, rfl, by simp, rfl⟩, Far.nil _, Below.refl _ _⟩
  case round =>
    obtain ⟨k, rfl, hk, ⟨la, owna, hla, hsa⟩, ⟨lb, ownb, hlb, hlb6, hsb⟩, far, bel⟩ := hrel
    replace hla := Lib.hid hla
    replace hlb := Lib.hid hlb
    replace hsa := Lib.hid hsa
    replace hsb := Lib.hid hsb
    by_cases hlt : k < m
    · obtain ⟨ht1, ht2⟩ := ht.out (by omega)
      obtain ⟨z, hz1', hz2'⟩ := modn ze m (by omega)
      obtain ⟨ix, hix, hixm, hixn⟩ : ∃ ix : Nat, ((k : Int) + (t : Int)) % (m : Int) = (ix : Int) ∧ ix < m ∧ (k + t) % m = ix := ⟨(k + t) % m, by push_cast; rfl, Nat.mod_lt _ (by omega), rfl⟩
      obtain ⟨b, o, rfl, hbl, hc, hx⟩ := hr2.at_ hlt
      obtain ⟨b', o', ea, hbl', hc', hx'⟩ := hr2.at_ hixm
      simp only [Option.some.injEq, Addr.mk.injEq, and_true] at ea
      obtain ⟨rfl, rfl⟩ := ea
      replace hc := bel.cell (p := ⟨b, o + k, none⟩) hbl |>.trans hc
      have hcx := fun w1 (h : Below w.heap.size w w1) => h.cell (p := ⟨b, o + ix, none⟩) hbl |>.trans hc'
      replace hcx := Lib.hid hcx
      clear hc'
      replace hx := inr_u16 hx
      replace hx' := inr_u16 hx'
      have hss := sw_succ L k (by rw [hlen.out]; exact hlt)
      have hst := sw_succ (rot L t) k (by rw [rot_length L t (by rw [hlen.out]; omega), hlen.out]; exact hlt)
      rw [rot_get L t k ix (by rw [hlen.out]; omega) (by rw [hlen.out]; omega) (by rw [hlen.out]; exact hixn)] at hst
      clear hixn
      obtain ⟨x, hxe⟩ : ∃ x, x = L.getD k 0 := ⟨_, rfl⟩
      obtain ⟨y, hye⟩ : ∃ y, y = L.getD ix 0 := ⟨_, rfl⟩
      rw [← hxe] at hc hx hss
      rw [← hye] at hcx hx' hst
      clear hxe hye
      replace hss := Lib.hid hss
      replace hst := Lib.hid hst
      have hw8 := IntKind.wrap_u8' x
      have hw8' := IntWalk.u8_in (x / 256) (by omega)
      have hv8 := IntKind.wrap_u8' y
      have hv8' := IntWalk.u8_in (y / 256) (by omega)
      have hra := Rd.new .u8 wr 5 [x / 256, x % 256] (two_bytes hx) #[.int .u8 (x / 256), .int .u8 (x % 256)] rfl 2 rfl
      by_cases hkz : (k : Int) = z
      all_goals
        first
        | have hkb : ((k : Int) == (z : Int)) = true := by simpa using hkz
        | have hkb : ((k : Int) == (z : Int)) = false := by simpa using hkz
        clear hkz
        go_wp2_with (first
          | (at_builtin; (refine wpList_app _ rfl (.tmp 29) (.tmp 35) 22 rfl .u8 w.heap.size 5 i0 (.int .u8 0) 1 Try.underlying22 hi hz0 hz1 hz2 rfl u7 rfl la (owna.alloc _) (wr.heap.size + 1) _ 2 2 rfl [x / 256, x % 256] hra (by rw [hla.out]; omega) (by decide) (by have := bel.size; simp; omega) ?_); intro va' w1 owna' hg1 hv1; obtain ⟨ownb1, far1⟩ := (ownb.alloc _).far hg1 far hv1 owna'; have bel1 : Below w.heap.size w w1 := (bel.alloc bel.size _).grown hg1 (by simp; have := bel.size; omega) (fun g h => (owna.lt g h).1); have hcy := hcx.out w1 bel1; clear hg1 hv1)
          | (at_builtin; have hrb := Rd.new .u8 w1 5 [y / 256, y % 256] (two_bytes hx') #[.int .u8 (y / 256), .int .u8 (y % 256)] rfl 2 rfl; (refine wpList_app _ rfl (.tmp 50) (.tmp 56) 22 rfl .u8 w.heap.size 5 i0 (.int .u8 0) 1 Try.underlying22 hi hz0 hz1 hz2 rfl u8 rfl lb (ownb1.alloc _) (w1.heap.size + 1) _ 2 2 rfl [y / 256, y % 256] hrb (by omega) (by decide) (by have := bel1.size; simp; omega) ?_); intro vb' w2 ownb' hg2 hv2; obtain ⟨owna2, far2⟩ := (owna'.alloc _).far hg2 far1.symm hv2 ownb'; have bel2 : Below w.heap.size w w2 := (bel1.alloc bel1.size _).grown hg2 (by simp; have := bel1.size; omega) (fun g h => (ownb1.lt g h).1); clear hg2 hv2)
          | (at_builtin; have hrn := Rd.new .u8 w2 5 [0, 0, 0, 0] (by simp [inr]; decide) #[.int .u8 0, .int .u8 0, .int .u8 0, .int .u8 0] rfl 4 rfl; (refine wpList_app _ rfl (.tmp 66) (.tmp 67) 22 rfl .u8 w.heap.size 5 i0 (.int .u8 0) 1 Try.underlying22 hi hz0 hz1 hz2 rfl vb' rfl (lb ++ [y / 256, y % 256]) (ownb'.alloc _) (w2.heap.size + 1) _ 4 4 rfl [0, 0, 0, 0] hrn (by simp; omega) (by decide) (by have := bel2.size; simp; omega) ?_); intro vc' w3 ownc' hg3 hv3; obtain ⟨owna3, far3⟩ := (owna2.alloc _).far hg3 far2 hv3 ownc'; have bel3 : Below w.heap.size w w3 := (bel2.alloc bel2.size _).grown hg3 (by simp; have := bel2.size; omega) (fun g h => (ownb'.lt g h).1); clear hg3 hv3))
        go_roundw
        case rel =>
          have e1 := hss.out
          have e2 := hst.out
          have e3 := hlb.out
          first
          | exact ⟨k + 1, by go_num, by omega, ⟨_, owna3, by simp [hla.out]; omega, by rw [sb_word la _ _ (by rw [hla.out]; omega), hsa.out, e1]; omega⟩, ⟨_, ownc', by simp; omega, by simp; omega, by rw [sb_nulls _ (by simp; omega), sb_word lb _ _ (by omega), hsb.out, e2]; omega⟩, far3.symm, bel3⟩
          | exact ⟨k + 1, by go_num, by omega, ⟨_, owna2, by simp [hla.out]; omega, by rw [sb_word la _ _ (by rw [hla.out]; omega), hsa.out, e1]; omega⟩, ⟨_, ownb', by simp; omega, by simp; omega, by rw [sb_word lb _ _ (by omega), hsb.out, e2]; omega⟩, far2.symm, bel2⟩
        case measure => simp [intOf]; omega
    · obtain ⟨Aa, ca, rfl, _, _, rda⟩ := owna.form rfl
      obtain ⟨Ab, cb, rfl, _, _, rdb⟩ := ownb.form rfl
      have hE : Hid (sb true lb = sb true la) := by
        show sb true lb = sb true la
        obtain rfl : k = m := by omega
        have hl := hlen.out
        rw [hsb.out, hsa.out]
        rcases Nat.eq_zero_or_pos k with h | h
        · subst h; simp [sw]
        · have h2 := (ht.out h).2
          have := sw_rot L t (by omega); rw [hl] at this; exact this
      have hE2 : Hid (sumOf lb = sumOf la) := by show sumOf lb = sumOf la; unfold sumOf; rw [hE.out]
      have hl1 : la.length ≤ 600 := by rw [hla.out]; omega
      have hl2 : lb.length ≤ 600 := by omega
      obtain ⟨L1, hL1⟩ : ∃ L1, L1 = la.length := ⟨_, rfl⟩
      obtain ⟨L2, hL2⟩ : ∃ L2, L2 = lb.length := ⟨_, rfl⟩
      rw [← hL1] at rda hl1 ⊢
      rw [← hL2] at rdb hl2 hlb6 ⊢
      clear hL1 hL2
      go_wp2_with (first
        | (go_at_call 10; refine (sums_any _).mono ?_; rintro e w2 ⟨rfl, hb2⟩; have rda2 := rda.below hb2; have rdb2 := rdb.below hb2)
        | (go_at_call_of 11 (Value.slice Aa L1 ca); refine (Of_any _ _ _ _ _ _ (by omega) rda2).mono ?_; rintro e w' ⟨rfl, rfl⟩)
        | (go_at_call 11; refine (Of_any _ _ _ _ _ _ (by omega) rdb2).mono ?_; rw [hE2.out]; rintro e w' ⟨rfl, rfl⟩)
        | (go_at_call_of 13 (Value.slice Aa L1 ca); refine (More_any _ _ _ _ _ _ _ (by omega) (by omega) (by omega) rda2).mono ?_; rintro e w' ⟨rfl, rfl⟩)
        | (go_at_call 13; refine (More_any _ _ _ _ _ _ _ (by omega) (by omega) (by omega) rdb2).mono ?_; rw [hE.out]; rintro e w' ⟨rfl, rfl⟩))
      go_ret
      exact ⟨by simp, bel.trans (hb2.mono bel.size)⟩
theorem SumOrders_args (W : World) (args : Array Value) (hs : args.size = Try.f4.params.size) (hA : ∀ (j : Nat) t v, Try.f4.params[j]? = some t → args[j]? = some v → Arg Try.prog W t v) :
    Calls Try.prog 4 args W fun e W' => e = .returned (.bool true) ∧ Below W.heap.size W W' := by
  obtain ⟨v0, v1, v2, rfl⟩ := args3 hs
  obtain ⟨A, len, cap, l, rfl, h1, h2, h3⟩ := arg_ints Try.underlying33 Try.underlying26 (by kernel_rfl) (hA 0 33 v0 rfl rfl)
  obtain ⟨a, rfl, wa⟩ := arg_int Try.underlying3 (hA 1 3 v1 rfl rfl)
  obtain ⟨n, rfl, wn⟩ := arg_int Try.underlying3 (hA 2 3 v2 rfl rfl)
  exact SumOrders_walk A len cap l a n W h3 h1 h2

set_option maxRecDepth 100000 in
theorem SumOrders_lifted (os : Os) (started : os.Started) (H : Type) (enc : TypeId × Value → H) :
    ReturnsInHanded {} Try.checked os 4 .any (Rows.sumOrdersSpec.pre6 enc Try.prog Try.f4 Rows.sumOrdersRow.domain false) (Rows.sumOrdersSpec.post enc Try.prog Try.f4 false true false false) :=
  law_lifted os started H enc (by kernel_rfl) Try.func4 rfl rfl (fun H ds h => by match ds, h with | [_, _, _], _ => exact ⟨rfl, rfl, rfl⟩) (by kernel_rfl)
    (ChangeSpec.witness6 (enc := enc) (C := Try.checked) false ⟨#[], #[.slice none 0 0, .int .i64 0, .int .i64 0], []⟩ 8 (by kernel_rfl) (by kernel_rfl) (by kernel_rfl) (by kernel_rfl))
    SumOrders_args

/-- the statement -/
theorem sumOrders_holds : Rows.SumOrdersSaid :=
  OpenClaim.holds_of_wide 4 Try.f4 rfl rfl rfl rfl rfl rfl rfl ⟨rfl, rfl, rfl, rfl, rfl⟩ rfl rfl rfl rfl rfl (by kernel_rfl) Try.func4 (by kernel_rfl)
    (of_decide_eq_true (by kernel_rfl)) (by unfold Func.isWrapper; first | (rw [if_pos (by decide +kernel)]; kernel_rfl) | (rw [if_neg (by decide +kernel)]; exact ⟨rfl, rfl⟩))
    (fun os started H enc _ => SumOrders_lifted os started H enc)

end Go.Proofs.Ytdhpjdnbdeghdaa
