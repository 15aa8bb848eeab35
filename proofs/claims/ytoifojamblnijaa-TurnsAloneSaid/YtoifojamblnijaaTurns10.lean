/- The walk of the laws' helper: to. -/
import Derived.Test.YtoifojamblnijaaTurns9
namespace Go.Proofs.Ytoifojamblnijaa
set_option linter.unusedVariables false
set_option linter.unusedSimpArgs false
open Go.RowKit
/-- the document's programs in memory -/
structure RProgs (w : World) (A : Option Addr) (n : Nat) (hs : List Hdr) (ps : List (List TOp)) : Prop where
  rd : RdT Hdr.cs 1 w w.heap.size A n hs
  len : hs.length = ps.length
  prg : ∀ (i : Nat) hd p, hs[i]? = some hd → ps[i]? = some p → RdT TOp.cs 5 w w.heap.size hd.A hd.n p ∧ p.length ≤ 1000 ∧ ∀ x ∈ p, x.ok
theorem RProgs.bel {w w' : World} {A : Option Addr} {n : Nat} {hs : List Hdr} {ps : List (List TOp)} (h : RProgs w A n hs ps) (hb : Below w.heap.size w w') : RProgs w' A n hs ps :=
  ⟨(h.rd.below hb).more hb.size, h.len, fun i hd p a b => by obtain ⟨b1, b2, b3⟩ := h.prg i hd p a b; exact ⟨(b1.below hb).more hb.size, b2, b3⟩⟩
set_option maxRecDepth 100000 in
set_option maxHeartbeats 1000000 in
theorem to_any (A : Option Addr) (n cap : Nat) (hs : List Hdr) (ps : List (List TOp)) (w : World) (rp : RProgs w A n hs ps) (hn : n ≤ 1000) :
    Calls Try.prog 13 #[.slice A n cap] w fun e w' => ∃ v hs', e = .returned v ∧ Below w.heap.size w w' ∧ POwn w' w.heap.size v hs' ps := by
  obtain ⟨i0, hi, hz0, hz1, hz2⟩ := info_parts info_ops
  obtain ⟨j0, hj, hy0, hy1, hy2⟩ := info_parts info_op
  have hpl : ps.length = n := by rw [← rp.len]; exact rp.rd.len
  replace hpl := Lib.hid hpl
  go_enter Try.func13, Try.ntmps13
  go_wp2_with fail
  go_loopg [3, 4] n (fun gk s3 s4 wr => ∃ (i : Nat) (hs' : List Hdr), gk = n - i ∧ i ≤ n ∧ s4 = .int .i64 i ∧ POwn wr w.heap.size s3 hs' (ps.take i) ∧ Below w.heap.size w wr)
  case atStart => exact ⟨0, [], rfl, Nat.zero_le _, rfl, POwn.nil _ _, Below.refl _ _⟩
  case round =>
    obtain ⟨i, hs', hgk, hin, rfl, po, bel⟩ := hrel
    by_cases hlt : i < n
    · have hd : decide (i < n) = true := by simpa using hlt
      replace hgk := Lib.hid hgk
      obtain ⟨b, o, rfl, hb, hcl⟩ := rp.rd.cel (by omega)
      obtain ⟨x, hxi⟩ : ∃ x, hs[i]? = some x := ⟨_, List.getElem?_eq_getElem (by have := rp.rd.len; omega)⟩
      obtain ⟨p, hpi⟩ : ∃ p, ps[i]? = some p := ⟨_, List.getElem?_eq_getElem (by have := hpl.out; omega)⟩
      obtain ⟨rdp, hp1000, hpok⟩ := rp.prg i x p hxi hpi
      have htk : ps.take (i + 1) = ps.take i ++ [p] := by rw [List.take_add_one, hpi]; rfl
      replace htk := Lib.hid htk
      obtain ⟨xA, xn, xc⟩ := x
      simp only at rdp
      have hpn := rdp.len
      have y0 : w.cell? ⟨b, o + i, none⟩ = some (.slice xA xn xc) := by have := hcl i _ hxi 0 _ rfl; simpa using this
      replace hpn := Lib.hid hpn
      clear hcl hxi hpi
      generalize hW0 : wr = W0 at *
      clear hW0
      go_wp2_with fail
      go_loopg [5, 6] xn (fun gt s5 s6 wx => ∃ (j : Nat), gt = xn - j ∧ j ≤ xn ∧ s6 = .int .i64 j ∧ OwnT TOp.cs 5 27 wx W0.heap.size s5 (p.take j) ∧ Below W0.heap.size W0 wx)
      case atStart => exact ⟨0, rfl, Nat.zero_le _, rfl, OwnT.nil _ _ _ _ _, Below.refl _ _⟩
      case round =>
        obtain ⟨j, hgt, hjn, rfl, own, bel2⟩ := hrel
        have hbw : b < W0.heap.size := Nat.lt_of_lt_of_le hb bel.size
        have c0 : wr.cell? ⟨b, o + i, none⟩ = some (.slice xA xn xc) := (bel2.cell (p := ⟨b, o + i, none⟩) hbw).trans ((bel.cell (p := ⟨b, o + i, none⟩) hb).trans y0)
        by_cases hltj : j < xn
        · have hd2 : decide (j < xn) = true := by simpa using hltj
          replace hgt := Lib.hid hgt
          obtain ⟨b1, o1, rfl, hb1, hcl1⟩ := rdp.cel (by omega)
          obtain ⟨q, hqj⟩ : ∃ q, p[j]? = some q := ⟨_, List.getElem?_eq_getElem (by have := hpn.out; omega)⟩
          have htk2 : p.take (j + 1) = p.take j ++ [q] := by rw [List.take_add_one, hqj]; rfl
          replace htk2 := Lib.hid htk2
          have hb1w : b1 < W0.heap.size := Nat.lt_of_lt_of_le hb1 bel.size
          have cc : ∀ f u, q.cs[f]? = some u → wr.cell? ⟨b1, o1 + j * 5 + f, none⟩ = some u := fun f u hu => (bel2.cell (p := ⟨b1, o1 + j * 5 + f, none⟩) hb1w).trans ((bel.cell (p := ⟨b1, o1 + j * 5 + f, none⟩) hb1).trans (hcl1 j q hqj f u hu))
          obtain ⟨q0, q1, q2, q3, q4⟩ := q
          have e0 : wr.cell? ⟨b1, o1 + j * 5, none⟩ = some (.int .i64 q0) := cc 0 _ rfl
          have e1 : wr.cell? ⟨b1, o1 + j * 5 + 1, none⟩ = some (.int .i64 q1) := cc 1 _ rfl
          have e2 : wr.cell? ⟨b1, o1 + j * 5 + 2, none⟩ = some (.int .u64 q2) := cc 2 _ rfl
          have e3 : wr.cell? ⟨b1, o1 + j * 5 + 3, none⟩ = some (.int .u64 q3) := cc 3 _ rfl
          have e4 : wr.cell? ⟨b1, o1 + j * 5 + 4, none⟩ = some (.bool q4) := cc 4 _ rfl
          have hlen : (p.take j).length = j := by rw [List.length_take, hpn.out]; omega
          replace hlen := Lib.hid hlen
          have hj1000 : j ≤ 1000 := by have := hpn.out; omega
          clear cc hcl1 hqj
          have hx := RdT.new (cs := TOp.cs) (sz := 5) TOp.cs_len (wr.alloc (.cells #[.int .i64 q0, .int .i64 q1, .int .u64 q2, .int .u64 q3, .bool q4] 82)) 27 [⟨q0, q1, q2, q3, q4⟩] #[.int .i64 q0, .int .i64 q1, .int .u64 q2, .int .u64 q3, .bool q4] rfl 1 rfl
          rw [show (wr.alloc (.cells #[.int .i64 q0, .int .i64 q1, .int .u64 q2, .int .u64 q3, .bool q4] 82)).heap.size = wr.heap.size + 1 by simp] at hx
          have own2 := (own.alloc (.cells #[.int .i64 q0, .int .i64 q1, .int .u64 q2, .int .u64 q3, .bool q4] 82)).alloc (.cells #[.int .i64 q0, .int .i64 q1, .int .u64 q2, .int .u64 q3, .bool q4] 27)
          have bel3 := (bel2.alloc bel2.size (.cells #[.int .i64 q0, .int .i64 q1, .int .u64 q2, .int .u64 q3, .bool q4] 82))
          replace bel3 := bel3.alloc bel3.size (.cells #[.int .i64 q0, .int .i64 q1, .int .u64 q2, .int .u64 q3, .bool q4] 27)
          go_wp2_with (at_builtin; go_loud (refine wpList_appT TOp.cs_len TOp.cs_one (by decide) _ rfl (.tmp 30) (.tmp 42) 25 rfl W0.heap.size 27 j0 (.agg #[.int .i64 0, .int .i64 0, .int .u64 0, .int .u64 0, .bool false]) 40 Try.underlying25 hj hy0 hy1 hy2 rfl u5 rfl (p.take j) own2 _ _ 1 1 rfl [⟨q0, q1, q2, q3, q4⟩] hx (by rw [hlen.out]; omega) (by decide) bel3.size ?_; intro v1 w1 own1 hg1 hb1))
          have bel4 : Below W0.heap.size W0 w1 := bel3.grown hg1 bel3.size (fun g h => (own2.lt g h).1)
          rw [← htk2.out] at own1
          clear own2 bel3 hg1 hb1 hx own bel2 c0 e0 e1 e2 e3 e4
          go_wp2_with fail
          go_roundg (xn - (j + 1))
          case measure => have := hgt.out; omega
          case rel => exact ⟨j + 1, rfl, by omega, by go_num, own1, bel4⟩
        · obtain rfl : j = xn := by omega
          rw [List.take_of_length_le (by rw [hpn.out]; exact Nat.le_refl _)] at own
          obtain ⟨A1, c1, rfl, hc1, hc2⟩ := own.form hpn.out
          have pa := own.prgAt hpn.out hpok
          have qo := po.bel bel2
          have bel3 := bel_after bel bel2
          have hx := RdT.new (cs := Hdr.cs) (sz := 1) Hdr.cs_len wr 25 [⟨A1, j, c1⟩] #[.slice A1 j c1] rfl 1 rfl
          replace pa := pa.bel (bel_alloc wr (.cells #[.slice A1 j c1] 25))
          replace qo := qo.bel (bel_alloc wr (.cells #[.slice A1 j c1] 25))
          replace bel3 := bel3.alloc bel3.size (.cells #[.slice A1 j c1] 25)
          have hlen : (ps.take i).length = i := by rw [List.length_take, hpl.out]; omega
          have hl2 := qo.len
          rw [hlen] at hl2
          replace hl2 := Lib.hid hl2
          clear own po bel bel2 hlen
          go_wp2_with (at_builtin; go_loud (refine wpList_appT Hdr.cs_len Hdr.cs_one (by decide) _ rfl (.tmp 44) (.tmp 46) 24 rfl w.heap.size 25 i0 (.slice none 0 0) 24 Try.underlying24 hi hz0 hz1 hz2 rfl u3 rfl hs' qo.own _ _ 1 1 rfl [⟨A1, j, c1⟩] hx (by rw [hl2.out]; omega) (by decide) bel3.size ?_; intro v1 w1 own1 hg1 hb1))
          have to1 := qo.app own1 hg1 (by simp only; exact hpn.out.symm) hc1 hc2 pa
          have bel4 : Below w.heap.size w w1 := bel3.grown hg1 bel3.size (fun g h => (qo.own.lt g h).1)
          rw [← htk.out] at to1
          clear qo bel3 hg1 hb1 hx own1 pa c0
          go_wp2_with fail
          go_roundg (n - (i + 1))
          case measure => have := hgk.out; omega
          case rel => exact ⟨i + 1, _, rfl, by omega, by go_num, to1, bel4⟩
    · obtain rfl : i = n := by omega
      rw [List.take_of_length_le (by rw [hpl.out]; exact Nat.le_refl _)] at po
      go_wp2
      go_ret
      exact ⟨_, _, rfl, bel, po⟩
end Go.Proofs.Ytoifojamblnijaa
