/- Every input of RingRounds answers true, and reads behind the call as it read before. No condition. -/
import Derived.Test.YtpkcajnlcpmmcaaRing5
import Derived.Test.YtpkcajnlcpmmcaaFrame
namespace Go.Proofs.Ytpkcajnlcpmmcaa
set_option linter.unusedVariables false
set_option linter.unusedSimpArgs false
open Go.RowKit
attribute [local irreducible] Rg.runF
def qs (got len : Nat) : List Int := (List.range len).map fun j => ((got + j : Nat) : Int) * 3 + 1
theorem qs_len (got len : Nat) : (qs got len).length = len := by simp [qs]
theorem qs_snoc (got len : Nat) : qs got (len + 1) = qs got len ++ [((got + len : Nat) : Int) * 3 + 1] := by simp [qs, List.range_succ]
theorem qs_cons (got len : Nat) : qs got (len + 1) = (((got : Nat) : Int) * 3 + 1) :: qs (got + 1) len := by
  unfold qs
  rw [List.range_succ_eq_map, List.map_cons, List.map_map]
  congr 1
  apply List.map_congr_left
  intro j _
  simp only [Function.comp]
  rw [show got + 1 + j = got + Nat.succ j by omega]
theorem wr_nat (a : Nat) (h : a ≤ 2000000) : Value.int .u64 (IntKind.u64.wrap (a : Int)) = .int .u64 (a : Int) := by rw [wrap_nat a h]
theorem wr_mul (a : Nat) (h : a ≤ 100000) : Value.int .u64 (IntKind.u64.wrap ((a : Int) * 3)) = .int .u64 ((a : Int) * 3) := by rw [show (a : Int) * 3 = ((a * 3 : Nat) : Int) by omega, wrap_nat _ (by omega)]
theorem wr_mul1 (a : Nat) (h : a ≤ 100000) : Value.int .u64 (IntKind.u64.wrap ((a : Int) * 3 + 1)) = .int .u64 ((a : Int) * 3 + 1) := by rw [show (a : Int) * 3 + 1 = ((a * 3 + 1 : Nat) : Int) by omega, wrap_nat _ (by omega)]
theorem wr_add (a c : Nat) (h : a ≤ 100000) (hc : c ≤ 100000) : Value.int .u64 (IntKind.u64.wrap ((a : Int) + (c : Int))) = .int .u64 ((a : Int) + (c : Int)) := by rw [show (a : Int) + (c : Int) = ((a + c : Nat) : Int) by omega, wrap_nat _ (by omega)]
theorem wr_sub (a b c : Nat) (h : a ≤ 100000) (hc : a = b + c) : Value.int .u64 (IntKind.u64.wrap ((a : Int) - (b : Int))) = .int .u64 (c : Int) := by rw [wrap_sub' a b (by omega) (by omega), show a - b = c by omega]
set_option maxRecDepth 100000 in
set_option maxHeartbeats 1000000 in
theorem RingRounds_any (x0 : Int) (A : Option Addr) (m cap : Nat) (ps : List Int) (w : World) (rd : Rd .i64 w w.heap.size A m ps) (hmx : m ≤ 9223372036854775807) :
    Calls Try.prog 4 #[.int .i64 x0, .slice A m cap] w fun e w' => e = .returned (.bool true) ∧ Below w.heap.size w w' := by
  obtain ⟨q, hq, hq8⟩ := modn x0 256 (by omega)
  obtain ⟨k, hk⟩ : ∃ k : Nat, k = 1 + q := ⟨_, rfl⟩
  have hqv : (Value.int .u64 ((IntKind.u64.wrap x0).tmod 256)) = .int .u64 q := by rw [hq]
  have hw2 : 1 + (q : Int) = (k : Int) := by omega
  have hk1 : 1 ≤ k := by omega
  have hk2 : k ≤ 256 := by omega
  clear hq
  replace hk := Lib.hid hk
  go_enter Try.func4, Try.ntmps4
  go_wp2_with fail
  refine (RgNew_yes k _ hk1 hk2).mono ?_
  rintro e w1 ⟨b, g, h, rfl, bel, hb, hh, rg⟩
  have m1 : QM w b g h k (qs 0 0) 0 none none _ w1 := ⟨rg, .inl rfl, .inl rfl, q_new k hk1, rfl, bel, hb, hh⟩
  clear rg bel hqv hw2 hq8
  go_wp2_with fail
  refine (waits_any _).mono ?_
  rintro e w2 ⟨rfl, bel2⟩
  have m2 := m1.bel' bel2
  clear m1 bel2
  go_wp2_with fail
  have hkv := wr_nat k (by omega)
  have hkv2 : Value.int .u64 (IntKind.u64.wrap ((k : Int) + 2)) = .int .u64 ((k : Int) + 2) := wr_add k 2 (by omega) (by omega)
  go_loopg [8, 9, 10] m (fun gk s8 s9 s10 wr => ∃ (i got len pt : Nat) (P G : Option Addr) (r : Rg), gk = m - i ∧ i ≤ m ∧ i ≤ 12 ∧ s10 = .int .i64 i ∧ s8 = .int .u64 pt ∧ s9 = .int .u64 got ∧ pt = got + len ∧ pt ≤ 300 * i ∧ QM w b g h k (qs got len) got P G r wr)
  case atStart => exact ⟨0, 0, 0, 0, none, none, _, rfl, Nat.zero_le _, by omega, rfl, rfl, rfl, rfl, by omega, m2⟩
  case round =>
    clear m2
    obtain ⟨i, got, len, pt, P, G, r, hgk, him, hi12, rfl, rfl, rfl, hpt, hpt3, qm⟩ := hrel
    by_cases hlt : i < m ∧ i < 12
    · obtain ⟨hlt, hlt12⟩ := hlt
      have hd : decide (i < m) = true := by simpa using hlt
      have hd2 : decide ((i : Int) < 12) = true := by simp; omega
      obtain ⟨pb, po, rfl, hpb, pc, _⟩ := rd.at_ hlt
      generalize ps.getD i 0 = p at *
      obtain ⟨n1, hn1, hn1k⟩ := modn p ((k : Int) + 2) (by omega)
      obtain ⟨n2, hn2, hn2k⟩ := modn ((IntKind.u64.wrap p).tdiv 7) ((k : Int) + 2) (by omega)
      have hv1 : Value.int .u64 ((IntKind.u64.wrap p).tmod ((k : Int) + 2)) = .int .u64 (n1 : Int) := by rw [hn1]
      have hv2 : Value.int .u64 ((IntKind.u64.wrap ((IntKind.u64.wrap p).tdiv 7)).tmod ((k : Int) + 2)) = .int .u64 (n2 : Int) := by rw [hn2]
      clear hn1 hn2
      replace hgk := Lib.hid hgk
      go_wp2_with fail
      go_loopg [8, 11] n1 (fun gt s8 s11 wx => ∃ (j len pt : Nat) (P : Option Addr) (r : Rg), gt = n1 - j ∧ j ≤ n1 ∧ s11 = .int .i64 j ∧ s8 = .int .u64 pt ∧ pt = got + len ∧ pt ≤ 300 * i + j ∧ QM w b g h k (qs got len) got P G r wx)
      case atStart => exact ⟨0, len, pt, P, r, rfl, Nat.zero_le _, rfl, rfl, hpt, by omega, qm⟩
      case round =>
        clear qm hpt hpt3 len pt P r
        obtain ⟨j, len, pt, P, r, hgt, hj, rfl, rfl, hpt, hpt3, qm⟩ := hrel
        have pcx : wr.cell? ⟨pb, po + i, none⟩ = some (.int .i64 p) := (qm.bel.cell (p := ⟨pb, po + i, none⟩) hpb).trans pc
        by_cases hltj : j < n1
        · have hd3 : decide (j < n1) = true := by simpa using hltj
          replace hgt := Lib.hid hgt
          have a1 := wr_mul pt (by omega)
          have a2 := wr_mul1 pt (by omega)
          have hrng : inr .u64 ((pt : Int) * 3 + 1) := u64_inr (by omega)
          replace hpt := Lib.hid hpt
          go_wp2_with fail
          refine (Put_yes ((pt : Int) * 3 + 1) b g h _ _ _ _ qm.rg qm.hp).mono ?_
          rintro e w3 ⟨nb, rfl, hnb, rg3, st3, up3⟩
          go_wp2_with fail
          refine (run_any b g h nb _ _ _ _ _ rg3 st3 rfl hrng rfl).mono ?_
          rintro e w4 ⟨rfl, rs4, hd4⟩
          have hbig : got + (qs got len).length + 1 ≤ 1000000 := by rw [qs_len]; have := hpt.out; omega
          rcases QM.put (v := (pt : Int) * 3 + 1) qm hnb up3 rs4 hd4 hbig with ⟨hl, hfin, r4, m4⟩ | ⟨hl, hfin, r4, m4⟩
          · rw [qs_len] at hl
            rw [hfin]
            have a3 := wr_sub pt got k (by omega) (by have := hpt.out; omega)
            clear hfin rs4 hd4 rg3 st3 up3 qm pcx a1 a2 hrng
            replace hl := Lib.hid hl
            go_wp2_with fail
            go_roundg (n1 - (j + 1))
            case measure => have := hgt.out; omega
            case rel => exact ⟨j + 1, len, pt, _, r4, rfl, by omega, by go_num, rfl, hpt.out, by omega, m4⟩
          · rw [qs_len] at hl
            rw [hfin]
            have a3 := wr_sub pt got len (by omega) hpt.out
            have a4 : Value.int .u64 (IntKind.u64.wrap ((pt : Int) + 1)) = .int .u64 ((pt : Int) + 1) := wr_add pt 1 (by omega) (by omega)
            have hnk : ((len : Int) == (k : Int)) = false := by simp; omega
            have hpt2 : pt + 1 = got + (len + 1) := by have := hpt.out; omega
            rw [show qs got len ++ [(pt : Int) * 3 + 1] = qs got (len + 1) by rw [qs_snoc, hpt.out]] at m4
            clear hfin rs4 hd4 rg3 st3 up3 qm pcx a1 a2 hrng hl
            replace hpt2 := Lib.hid hpt2
            go_wp2_with fail
            go_roundg (n1 - (j + 1))
            case measure => have := hgt.out; omega
            case rel => exact ⟨j + 1, len + 1, pt + 1, _, r4, rfl, by omega, by go_num, by go_num, hpt2.out, by omega, m4⟩
        · obtain rfl : j = n1 := by omega
          have hpt4 : pt ≤ 300 * (i + 1) := by omega
          replace hpt := Lib.hid hpt
          go_wp2_with fail
          go_loopg [9, 13] n2 (fun gt s9 s13 wx => ∃ (j got len : Nat) (G : Option Addr) (r : Rg), gt = n2 - j ∧ j ≤ n2 ∧ s13 = .int .i64 j ∧ s9 = .int .u64 got ∧ pt = got + len ∧ QM w b g h k (qs got len) got P G r wx)
          case atStart => exact ⟨0, got, len, G, r, rfl, Nat.zero_le _, rfl, rfl, hpt.out, qm⟩
          case round =>
            clear qm hpt pcx hpt3
            obtain ⟨j2, got, len, G, r, hgt, hj2, rfl, rfl, hpt, qm⟩ := hrel
            have pcx : wr.cell? ⟨pb, po + i, none⟩ = some (.int .i64 p) := (qm.bel.cell (p := ⟨pb, po + i, none⟩) hpb).trans pc
            by_cases hltj : j2 < n2
            · have hd3 : decide (j2 < n2) = true := by simpa using hltj
              replace hgt := Lib.hid hgt
              have a1 := wr_mul got (by omega)
              have a2 := wr_mul1 got (by omega)
              have a4 : Value.int .u64 (IntKind.u64.wrap ((got : Int) + 1)) = .int .u64 ((got : Int) + 1) := wr_add got 1 (by omega) (by omega)
              have hz0 : inr .u64 (0 : Int) := u64_inr (by omega)
              replace hpt := Lib.hid hpt
              go_wp2_with fail
              refine (Get_yes b g h _ _ _ _ qm.rg qm.hg).mono ?_
              rintro e w3 ⟨nb, rfl, hnb, rg3, st3, up3⟩
              go_wp2_with fail
              refine (run_any b g h nb _ _ _ _ _ rg3 st3 rfl hz0 rfl).mono ?_
              rintro e w4 ⟨rfl, rs4, hd4⟩
              have st4 := rs4.st
              rcases qm.get hnb up3 rs4 hd4 with ⟨hq, hfin, r4, m4⟩ | ⟨x, t, hq, hfin, hval, r4, m4⟩
              · have hl0 : len = 0 := by rw [← qs_len got len, hq]; rfl
                rw [hfin]
                have heq : ((pt : Int) == (got : Int)) = true := by simp; have := hpt.out; omega
                clear hfin rs4 hd4 rg3 st3 up3 qm pcx a1 a2 hz0 hq st4
                replace hl0 := Lib.hid hl0
                go_wp2_with fail
                go_roundg (n2 - (j2 + 1))
                case measure => have := hgt.out; omega
                case rel => exact ⟨j2 + 1, got, len, _, r4, rfl, by omega, by go_num, rfl, hpt.out, m4⟩
              · obtain ⟨len2, rfl⟩ : ∃ len2, len = len2 + 1 := by
                  cases len with
                  | zero => simp [qs] at hq
                  | succ l => exact ⟨l, rfl⟩
                rw [qs_cons] at hq
                simp only [List.cons.injEq] at hq
                obtain ⟨hx, ht⟩ := hq
                rw [← ht] at m4
                rw [← hx] at hval
                rw [hfin]
                have heq : ((pt : Int) == (got : Int)) = false := by simp; have := hpt.out; omega
                have hpt2 : pt = (got + 1) + len2 := by have := hpt.out; omega
                generalize (Rg.runF 3 r ⟨true, 0, 0, 11, false⟩).2 = s4 at *
                clear hfin rs4 hd4 rg3 st3 up3 qm pcx hz0 hx ht
                replace hpt2 := Lib.hid hpt2
                replace hval := Lib.hid hval
                go_wp2_with fail
                refine (Value_any nb s4 w4 st4).mono ?_
                rw [hval.out]
                rintro e w5 ⟨rfl, rfl⟩
                go_wp2_with fail
                go_roundg (n2 - (j2 + 1))
                case measure => have := hgt.out; omega
                case rel => exact ⟨j2 + 1, got + 1, len2, _, r4, rfl, by omega, by go_num, by go_num, hpt2.out, m4⟩
            · obtain rfl : j2 = n2 := by omega
              have a3 := wr_sub pt got len (by omega) hpt
              have hl100 : len ≤ 100000 := by omega
              replace hpt := Lib.hid hpt
              go_wp2_with fail
              refine qm.len.mono ?_
              rw [qs_len]
              rintro e w3 ⟨rfl, bel3⟩
              have m3 := qm.bel' bel3
              clear qm bel3 pcx
              go_wp2_with fail
              go_roundg (m - (i + 1))
              case measure => have := hgk.out; omega
              case rel => exact ⟨i + 1, got, len, pt, _, _, r, rfl, by omega, by omega, by go_num, rfl, rfl, hpt.out, by omega, m3⟩
    · have hcond : decide (i < m) = false ∨ (decide (i < m) = true ∧ decide ((i : Int) < 12) = false) := by
        rcases Nat.lt_or_ge i m with h | h
        · exact .inr ⟨by simpa using h, by simp; omega⟩
        · exact .inl (by simp; omega)
      rcases hcond with hd | ⟨hd, hd2⟩
      · go_wp2
        go_ret
        exact ⟨rfl, qm.bel⟩
      · go_wp2
        go_ret
        exact ⟨rfl, qm.bel⟩
theorem RingRounds_args (W : World) (args : Array Value) (hs : args.size = Try.f4.params.size) (hA : ∀ (j : Nat) t v, Try.f4.params[j]? = some t → args[j]? = some v → Arg Try.prog W t v) :
    Calls Try.prog 4 args W fun e W' => e = .returned (.bool true) ∧ Below W.heap.size W W' := by
  obtain ⟨v0, v1, rfl⟩ := args2 hs
  obtain ⟨x0, rfl, _⟩ := arg_int Try.underlying3 (hA 0 3 v0 rfl rfl)
  obtain ⟨A, len, cap, l, rfl, h1, h2, rd⟩ := arg_ints Try.underlying40 Try.underlying3 (by kernel_rfl) (hA 1 40 v1 rfl rfl)
  unfold maxLen at h2
  exact RingRounds_any x0 A len cap l W rd (by omega)

set_option maxRecDepth 100000 in
theorem RingRounds_lifted (os : Os) (started : os.Started) (H : Type) (enc : TypeId × Value → H) :
    ReturnsInHanded {} Try.checked os 4 .any (Rows.ringRoundsSpec.pre6 enc Try.prog Try.f4 Rows.ringRoundsRow.domain false) (Rows.ringRoundsSpec.post enc Try.prog Try.f4 false true false false) :=
  law_lifted os started H enc (by kernel_rfl) Try.func4 rfl rfl (fun H ds h => by match ds, h with | [_, _], _ => exact ⟨rfl, rfl, rfl⟩) (by kernel_rfl)
    (ChangeSpec.witness6 (enc := enc) (C := Try.checked) false ⟨#[], #[.int .i64 0, .slice none 0 0], []⟩ 8 (by kernel_rfl) (by kernel_rfl) (by kernel_rfl) (by kernel_rfl))
    RingRounds_args

/-- the statement -/
theorem ringRounds_holds : Rows.RingRoundsSaid :=
  OpenClaim.holds_of_wide 4 Try.f4 rfl rfl rfl rfl rfl rfl rfl ⟨rfl, rfl, rfl, rfl, rfl⟩ rfl rfl rfl rfl rfl (by kernel_rfl) Try.func4 (by kernel_rfl)
    (of_decide_eq_true (by kernel_rfl)) (by unfold Func.isWrapper; first | (rw [if_pos (by decide +kernel)]; kernel_rfl) | (rw [if_neg (by decide +kernel)]; exact ⟨rfl, rfl⟩))
    (fun os started H enc _ => RingRounds_lifted os started H enc)

end Go.Proofs.Ytpkcajnlcpmmcaa
