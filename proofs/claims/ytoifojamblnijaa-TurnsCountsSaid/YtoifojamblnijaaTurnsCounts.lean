/- Every input of TurnsCounts answers true, and reads behind the call as it read before. No condition. -/
import Derived.Test.YtoifojamblnijaaTurns6
import Derived.Test.YtoifojamblnijaaCountsPlain
namespace Go.Proofs.Ytoifojamblnijaa
set_option linter.unusedVariables false
set_option linter.unusedSimpArgs false
open Go.RowKit
theorem OwnT.far {α β : Type} {cs : α → List Value} {cs' : β → List Value} {sz sz' : Nat} {e e' : TypeId} {w w' : World} {v u v' : Value} {base base' : Nat} {l : List α} {l' : List β} (h : OwnT cs sz e w base u l) (hg : w.grownBy w' v.ownBlock) (hf : Far v u)
    (hv : v'.ownBlock = v.ownBlock ∨ v'.ownBlock = some w.heap.size) (_ : OwnT cs' sz' e' w' base' v' l') : OwnT cs sz e w' base u l ∧ Far v' u := by
  refine ⟨h.keep hg ?_, fun g hg' hu => ?_⟩
  · cases hu : u.ownBlock with
    | none => exact .inl rfl
    | some g => exact .inr (fun e => hf g e.symm hu)
  · rcases hv with hv | hv
    · exact hf g (hv ▸ hg') hu
    · have := (h.lt g hu).2; rw [hv] at hg'; injection hg' with hg'; omega
theorem POwn.far {w w' : World} {base : Nat} {v u v' : Value} {hs hs' : List Hdr} {ps : List (List TOp)} (h : POwn w base u hs ps) (ho : OwnT Hdr.cs 1 25 w base v hs') (hg : w.grownBy w' v.ownBlock) (hf : Far v u)
    (hv : v'.ownBlock = v.ownBlock ∨ v'.ownBlock = some w.heap.size) {hs2 : List Hdr} (ho' : OwnT Hdr.cs 1 25 w' base v' hs2) : POwn w' base u hs ps ∧ Far v' u := by
  obtain ⟨h1, h2⟩ := h.own.far hg hf hv ho'
  refine ⟨⟨h1, h.len, fun i hd p a b => ?_⟩, h2⟩
  obtain ⟨b1, b2, b3, b4⟩ := h.prg i hd p a b
  exact ⟨b1, b2, b3, b4.upd (Upd.of_grown hg (fun g h => h)) (fun b cs hb => ho.ne hb (by decide))⟩
/-- the inner loop: the rows that are being built, over the world W0 -/
structure CtIn (W0 : World) (va vb : Value) (q k t : Nat) (wr : World) : Prop where
  a : OwnT TOp.cs 5 27 wr W0.heap.size va (List.replicate t addOp)
  b : OwnT TOp.cs 5 27 wr W0.heap.size vb (sops q k t)
  far : Far va vb
  bel : Below W0.heap.size W0 wr
theorem CtIn.alloc {W0 wr : World} {va vb : Value} {q k t : Nat} (h : CtIn W0 va vb q k t wr) (o : Obj) : CtIn W0 va vb q k t (wr.alloc o) := ⟨h.a.alloc _, h.b.alloc _, h.far, h.bel.alloc h.bel.size _⟩
theorem u64_id (a : Int) (h0 : 0 ≤ a) (h1 : a ≤ 9223372036854775807) : IntKind.u64.wrap a = a := by rw [IntKind.wrap_u64]; omega
theorem u64_id3 (a b : Nat) (ha : a ≤ 1000) (hb : b ≤ 1000) : IntKind.u64.wrap ((a : Int) + b + 1) = (a : Int) + b + 1 := by rw [IntKind.wrap_u64]; omega
theorem sops_ok (q k t : Nat) (hq : q ≤ 8) (hk : k ≤ 8) (ht : t ≤ 8) : ∀ x ∈ sops q k t, x.ok := by
  intro x hx
  simp only [sops, List.mem_map, List.mem_range] at hx
  obtain ⟨p, hp, rfl⟩ := hx
  have h1 : q * k ≤ 64 := Nat.mul_le_mul hq hk
  unfold sop
  split
  · constructor <;> simp
  · refine ⟨by simp, ?_⟩
    generalize q * k = z at *
    simp only
    omega
structure CtOut (w : World) (g h g2 h2 : Nat) (V : Value) (out : List Dn) (l1 l2 : List Int) (wr : World) : Prop where
  c : Cel wr g h l1
  d : Cel wr g2 h2 l2
  own : OwnT Dn.cs 3 35 wr w.heap.size V out
  bel : Below w.heap.size w wr
theorem CtOut.bel5 {w : World} {g h g2 h2 : Nat} {V : Value} {out : List Dn} {l1 l2 : List Int} {wr w' : World} (r : CtOut w g h g2 h2 V out l1 l2 wr) (hb : Below wr.heap.size wr w') : CtOut w g h g2 h2 V out l1 l2 w' :=
  ⟨r.c.bel hb, r.d.bel hb, r.own.below hb, bel_after r.bel hb⟩
set_option maxRecDepth 100000 in
set_option maxHeartbeats 1000000 in
theorem TurnsCounts_any (x0 y0 : Int) (A : Option Addr) (m cap : Nat) (picks : List Int) (w : World) (rd : Rd .i64 w w.heap.size A m picks) (hmc : m ≤ cap) (hcap : cap ≤ maxLen) :
    Calls Try.prog 3 #[.int .i64 x0, .int .i64 y0, .slice A m cap] w fun e w' => e = .returned (.bool true) ∧ Below w.heap.size w w' := by
  have rd0 := rd
  obtain ⟨i0, hi, hz0, hz1, hz2⟩ := info_parts info_ops
  obtain ⟨j0, hj, hy0, hy1, hy2⟩ := info_parts info_op
  obtain ⟨q, hq, hq8⟩ := modn x0 8 (by omega)
  obtain ⟨q', hq', hq8'⟩ := modn y0 8 (by omega)
  have hqv : (Value.int .u64 ((IntKind.u64.wrap x0).tmod 8)) = .int .u64 q := by rw [hq]
  have hqv' : (Value.int .u64 ((IntKind.u64.wrap y0).tmod 8)) = .int .u64 q' := by rw [hq']
  clear hq hq'
  obtain ⟨n, hn⟩ : ∃ n : Nat, n = 1 + q := ⟨_, rfl⟩
  obtain ⟨k, hk⟩ : ∃ k : Nat, k = 1 + q' := ⟨_, rfl⟩
  have hw2 : 1 + (q : Int) = (n : Int) := by omega
  have hw2' : 1 + (q' : Int) = (k : Int) := by omega
  have hn8 : n ≤ 8 := by omega
  have hn1 : 1 ≤ n := by omega
  have hk8 : k ≤ 8 := by omega
  have hk1 : 1 ≤ k := by omega
  have hnk : n * k ≤ 64 := Nat.mul_le_mul hn8 hk8
  replace hn := Lib.hid hn
  replace hk := Lib.hid hk
  replace hnk := Lib.hid hnk
  go_enter Try.func3, Try.ntmps3
  go_wp2_with fail
  clear hqv hqv' hw2 hw2' hq8 hq8'
  go_loopg [9, 10, 11] n (fun gk s9 s10 s11 wr => ∃ (i : Nat) (hs hs' : List Hdr), gk = n - i ∧ i ≤ n ∧ s11 = .int .i64 i ∧ POwn wr w.heap.size s9 hs (addPs i k) ∧ POwn wr w.heap.size s10 hs' (stoPs i k) ∧ Far s9 s10 ∧ Below w.heap.size w wr)
  case atStart => exact ⟨0, [], [], rfl, Nat.zero_le _, rfl, POwn.nil _ _, POwn.nil _ _, Far.nil _, Below.refl _ _⟩
  case round =>
    obtain ⟨i, hs, hs', hgk, hin, rfl, po, po', far, bel⟩ := hrel
    by_cases hlt : i < n
    · have hd : decide (i < n) = true := by simpa using hlt
      replace hgk := Lib.hid hgk
      have hik64 : i * k ≤ 64 := Nat.le_trans (Nat.mul_le_mul_right k hin) hnk.out
      obtain ⟨ik, hik⟩ : ∃ ik : Nat, ik = i * k := ⟨_, rfl⟩
      have hik2 : (i : Int) * (k : Int) = (ik : Int) := by rw [hik]; simp
      rw [← hik] at hik64
      replace hik := Lib.hid hik
      go_wp2_with fail
      generalize wr = W0 at *
      go_loopg [12, 13, 14] k (fun gt s12 s13 s14 wx => ∃ (t : Nat), gt = k - t ∧ t ≤ k ∧ s14 = .int .i64 t ∧ CtIn W0 s12 s13 i k t wx)
      case atStart => exact ⟨0, rfl, Nat.zero_le _, rfl, OwnT.nil _ _ _ _ _, OwnT.nil _ _ _ _ _, Far.nil _, Below.refl _ _⟩
      case round =>
        obtain ⟨t, hgt, htk, rfl, ci⟩ := hrel
        by_cases hlt2 : t < k
        · have hd2 : decide (t < k) = true := by simpa using hlt2
          replace hgt := Lib.hid hgt
          have hv3 : Value.int .u64 (IntKind.u64.wrap ((ik : Int) + t + 1)) = .int .u64 ((ik : Int) + t + 1) := by rw [u64_id3 ik t (Nat.le_trans hik64 (by decide)) (Nat.le_trans htk (Nat.le_trans hk8 (by decide)))]
          have hbase := ci.bel.size
          have c1 := ci.alloc (.cells #[.int .i64 3, .int .i64 0, .int .u64 1, .int .u64 0, .bool false] 27)
          have hx1 := RdT.new (cs := TOp.cs) (sz := 5) TOp.cs_len wr 27 [addOp] #[.int .i64 3, .int .i64 0, .int .u64 1, .int .u64 0, .bool false] rfl 1 rfl
          go_upto_region 11 with (at_builtin; go_loud (refine wpList_appT TOp.cs_len TOp.cs_one (by decide) _ rfl (.tmp 42) (.tmp 44) 25 rfl W0.heap.size 27 j0 (.agg #[.int .i64 0, .int .i64 0, .int .u64 0, .int .u64 0, .bool false]) 40 Try.underlying25 hj hy0 hy1 hy2 rfl u12 rfl (List.replicate t addOp) c1.a _ _ 1 1 rfl [addOp] hx1 (by rw [List.length_replicate]; omega) (by decide) c1.bel.size ?_; intro v1 w1 own1 hg1 hb1))
          obtain ⟨ob1, far1⟩ := c1.b.far hg1 c1.far hb1 own1
          rw [← List.replicate_succ'] at own1
          have bel1 : Below W0.heap.size W0 w1 := c1.bel.grown hg1 c1.bel.size (fun g h => (c1.a.lt g h).1)
          clear c1 hx1 ci hg1 hb1
          have hx2 := RdT.new (cs := TOp.cs) (sz := 5) TOp.cs_len w1 27 [⟨0, 0, 0, 0, false⟩, ⟨2, 0, 0, (ik : Int) + t + 1, true⟩] #[.int .i64 0, .int .i64 0, .int .u64 0, .int .u64 0, .bool false, .int .i64 2, .int .i64 0, .int .u64 0, .int .u64 ((ik : Int) + t + 1), .bool true] rfl 2 rfl
          have ob2 := ob1.alloc (.cells #[.int .i64 0, .int .i64 0, .int .u64 0, .int .u64 0, .bool false, .int .i64 2, .int .i64 0, .int .u64 0, .int .u64 ((ik : Int) + t + 1), .bool true] 27)
          have oa2 := own1.alloc (.cells #[.int .i64 0, .int .i64 0, .int .u64 0, .int .u64 0, .bool false, .int .i64 2, .int .i64 0, .int .u64 0, .int .u64 ((ik : Int) + t + 1), .bool true] 27)
          have bel2 := bel1.alloc bel1.size (.cells #[.int .i64 0, .int .i64 0, .int .u64 0, .int .u64 0, .bool false, .int .i64 2, .int .i64 0, .int .u64 0, .int .u64 ((ik : Int) + t + 1), .bool true] 27)
          go_wp2_with (at_builtin; go_loud (refine wpList_appT TOp.cs_len TOp.cs_one (by decide) _ rfl (.tmp 46) (.tmp 56) 25 rfl W0.heap.size 27 j0 (.agg #[.int .i64 0, .int .i64 0, .int .u64 0, .int .u64 0, .bool false]) 40 Try.underlying25 hj hy0 hy1 hy2 rfl u13 rfl (sops i k t) ob2 _ _ 2 2 rfl _ hx2 (by simp only [sops, List.length_map, List.length_range]; omega) (by decide) bel2.size ?_; intro v2 w2 own2 hg2 hb2))
          obtain ⟨oa3, far3⟩ := oa2.far hg2 far1.symm hb2 own2
          have bel3 : Below W0.heap.size W0 w2 := bel2.grown hg2 bel2.size (fun g h => (ob2.lt g h).1)
          rw [show sops i k t ++ [⟨0, 0, 0, 0, false⟩, ⟨2, 0, 0, (ik : Int) + t + 1, true⟩] = sops i k (t + 1) by rw [sops_succ, ← hik.out]; simp] at own2
          clear hx2 ob2 oa2 bel2 bel1 hg2 hb2 own1 ob1 hv3
          go_wp2_with fail
          go_roundg (k - (t + 1))
          case measure => have := hgt.out; omega
          case rel => exact ⟨t + 1, rfl, by omega, by go_num, oa3, own2, far3.symm, bel3⟩
        · obtain rfl : t = k := by omega
          have pa := ci.a
          have pb := ci.b
          obtain ⟨A1, c1, hva, hc1, hc1m⟩ := pa.form (List.length_replicate ..)
          obtain ⟨A2, c2, hvb, hc2, hc2m⟩ := pb.form (show (sops i t t).length = 2 * t by simp [sops])
          subst hva hvb
          have ga := pa.prgAt (List.length_replicate ..) (by intro x hx; rw [List.mem_replicate] at hx; rw [hx.2]; constructor <;> simp [addOp])
          have gb := pb.prgAt (show (sops i t t).length = 2 * t by simp [sops]) (sops_ok i t t (Nat.le_trans hin hn8) hk8 hk8)
          have bel2 := bel_after bel ci.bel
          have qo := po.bel ci.bel
          have qo' := po'.bel ci.bel
          clear pa pb po po' bel ci
          replace qo := qo.bel (bel_alloc wr (.cells #[.slice A1 t c1] 25))
          replace qo' := qo'.bel (bel_alloc wr (.cells #[.slice A1 t c1] 25))
          have ga2 := ga.bel (bel_alloc wr (.cells #[.slice A1 t c1] 25))
          have gb2 := gb.bel (bel_alloc wr (.cells #[.slice A1 t c1] 25))
          have bel3 := bel_after bel2 (bel_alloc wr (.cells #[.slice A1 t c1] 25))
          have hx1 := RdT.new (cs := Hdr.cs) (sz := 1) Hdr.cs_len wr 25 [⟨A1, t, c1⟩] #[.slice A1 t c1] rfl 1 rfl
          go_wp2_with (first
            | (at_builtin; go_loud (refine wpList_appT Hdr.cs_len Hdr.cs_one (by decide) _ rfl (.tmp 58) (.tmp 60) 24 rfl w.heap.size 25 i0 (.slice none 0 0) 24 Try.underlying24 hi hz0 hz1 hz2 rfl u9 rfl hs qo.own _ _ 1 1 rfl [⟨A1, t, c1⟩] hx1 (by rw [qo.len]; simp [addPs]; omega) (by decide) bel3.size ?_; intro v1 w1 own1 hg1 hb1; have far1 := (qo'.far qo.own hg1 far hb1 own1); obtain ⟨ro', far1⟩ := far1; have ro := qo.app own1 hg1 (by simp) hc1 hc1m ga2; have gb3 := gb2.upd (Upd.of_grown hg1 (fun g h => h)) (fun b cs hb => qo.own.ne hb (by decide)); have bel4 : Below w.heap.size w w1 := bel3.grown hg1 bel3.size (fun g h => (qo.own.lt g h).1); replace ro := ro.bel (bel_alloc w1 (.cells #[.slice A2 (2 * t) c2] 25)); replace ro' := ro'.bel (bel_alloc w1 (.cells #[.slice A2 (2 * t) c2] 25)); replace gb3 := gb3.bel (bel_alloc w1 (.cells #[.slice A2 (2 * t) c2] 25)); have bel5 := bel_after bel4 (bel_alloc w1 (.cells #[.slice A2 (2 * t) c2] 25)); have hx2 := RdT.new (cs := Hdr.cs) (sz := 1) Hdr.cs_len w1 25 [⟨A2, 2 * t, c2⟩] #[.slice A2 (2 * t) c2] rfl 1 rfl; clear own1 hb1 hg1 bel3 bel4 hx1 ga2 gb2 qo qo'))
            | (at_builtin; go_loud (refine wpList_appT Hdr.cs_len Hdr.cs_one (by decide) _ rfl (.tmp 62) (.tmp 64) 24 rfl w.heap.size 25 i0 (.slice none 0 0) 24 Try.underlying24 hi hz0 hz1 hz2 rfl u10 rfl hs' ro'.own _ _ 1 1 rfl [⟨A2, 2 * t, c2⟩] hx2 (by rw [ro'.len]; simp [stoPs]; omega) (by decide) bel5.size ?_; intro v2 w2 own2 hg2 hb2)))
          obtain ⟨ta, far2⟩ := ro.far ro'.own hg2 far1.symm hb2 own2
          have tb := ro'.app own2 hg2 (by simp [sops]) hc2 hc2m gb3
          have bel6 : Below w.heap.size w w2 := bel5.grown hg2 bel5.size (fun g h => (ro'.own.lt g h).1)
          rw [← stoPs_succ] at tb
          rw [show addPs i t ++ [List.replicate t addOp] = addPs (i + 1) t by simp [addPs, List.replicate_succ']] at ta
          clear ro ro' far1 gb3 bel5 hx2 own2 hg2 hb2 ga gb bel2 far
          go_wp2_with fail
          go_roundg (n - (i + 1))
          case measure => have := hgk.out; omega
          case rel => exact ⟨i + 1, _, _, rfl, by omega, by go_num, ta, tb, far2.symm, bel6⟩
    · obtain rfl : i = n := by omega
      go_wp2_with fail
      refine (CellsNew_yes 1 _ (by omega) (by omega)).mono ?_
      rintro e w1 ⟨g, h, rfl, bel1, hg, hh, hc, _⟩
      replace po := po.bel bel1
      replace po' := po'.bel bel1
      have hwr := bel.size
      replace bel := bel_after bel bel1
      replace rd := (rd.below bel).more bel.size
      obtain ⟨m2, hm2, hm3, hm4⟩ := minc 100 (by omega) m
      have hm5 : (m2 : Int) ≤ cap := by omega
      have hm6 : m2 ≤ cap := by omega
      have hm7 : (0 : Int) ≤ m2 := by omega
      obtain ⟨A3, cap3, rfl, hc1, hc2⟩ := po.own.form (po.len.trans (by simp [addPs] : (addPs i k).length = i))
      obtain ⟨A4, cap4, rfl, hc3, hc4⟩ := po'.own.form (po'.len.trans (by simp [stoPs] : (stoPs i k).length = i))
      go_wp2_with fail
      refine (Rest_any g h A3 i cap3 (addPs i k) [0] _ A m2 _ (picks.take m2) (po.prgs (by simp [addPs])) hc1 hc2 hc (by simp) (rd.take hm3) (fun h0 a ha => ?_) (by omega) (fun p hp => by simp [addPs] at hp; rw [hp.2]; simp; omega)).mono ?_
      · obtain ⟨b, o, rfl, hb, _⟩ := rd0.cel (by omega)
        simp only [Option.some.injEq] at ha
        subst ha
        simp only
        constructor <;> omega
      have hcr := hc.row
      rintro e w2 ⟨v, ord, s, out, rfl, told, hfin, hc, own, up⟩
      have hcg := hc.obj
      have hl1 := ad_rest (by omega) (Nat.le_trans hnk.out (by decide)) told hfin
      clear told hfin own po
      replace po' := po'.upd up (fun b c hb e => by subst e; exact hb.ne_ hcr (by decide) rfl) (fun b c hb e => by subst e; exact hb.ne_ hcr (by decide) rfl)
      rw [hl1] at hc
      have hwr2 := bel.size
      have hhw := hc.row.lt
      replace bel := bel.trans (up.below bel.size (fun k hk e => by subst e; omega))
      replace rd := (rd0.below bel).more bel.size
      clear hl1 up
      go_wp2_with fail
      refine (CellsNew_yes 1 _ (by omega) (by omega)).mono ?_
      rintro e w3 ⟨g2, h2, rfl, bel3, hg2, hh2, hc2', _⟩
      replace po' := po'.bel bel3
      have hwr3 := bel.size
      replace bel := bel_after bel bel3
      replace hc := hc.bel bel3
      replace rd := (rd.below bel3).more bel3.size
      have hgg : g < w2.heap.size := by obtain ⟨_, _, _, ho⟩ := hcg; exact ho.lt
      go_wp2_with fail
      refine (Rest_any g2 h2 A4 i cap4 (stoPs i k) [0] _ A m2 _ (picks.take m2) (po'.prgs (by simp [stoPs])) hc3 hc4 hc2' (by simp) (rd.take hm3) (fun h0 a ha => ?_) (by omega) (fun p hp => by simp only [stoPs, List.mem_map] at hp; obtain ⟨i, _, rfl⟩ := hp; simp [sops]; omega)).mono ?_
      · obtain ⟨b, o, rfl, hb, _⟩ := rd0.cel (by omega)
        simp only [Option.some.injEq] at ha
        subst ha
        simp only
        constructor <;> omega
      rintro e w4 ⟨v, ord, s2, out, rfl, told, hfin, hd2, own, up⟩
      obtain ⟨hlen, hfine, hl2⟩ := st_rest (by omega) told hfin
      rw [hl2] at hd2
      have hh2lt : h < w3.heap.size := hc.row.lt
      have hgc : ¬ g = h2 := by have := hc.row.lt; omega
      replace hc := hc.upd up (by omega) (by omega)
      replace bel := bel.trans (up.below bel.size (fun k hk e => by subst e; omega))
      replace own := own.mono (base' := w.heap.size) (Nat.le_trans (Nat.le_trans hwr3 (by omega)) bel3.size)
      clear told hfin po' rd hc2' bel3 bel1 up
      have hnk2 := hnk.out
      obtain ⟨nk, hnkv⟩ : ∃ nk : Nat, nk = i * k := ⟨_, rfl⟩
      rw [← hnkv] at hlen hc hnk2
      have hnk3 : (i : Int) * (k : Int) = (nk : Int) := by rw [hnkv]; simp
      have hnk4 : 2 * (i : Int) * (k : Int) = ((2 * nk : Nat) : Int) := by rw [Int.mul_assoc, hnk3]; simp
      clear hnk hl2
      replace hnkv := Lib.hid hnkv
      replace hnk4 := Lib.hid hnk4
      replace hnk3 := Lib.hid hnk3
      replace hlen := Lib.hid hlen
      replace hfine := Lib.hid hfine
      obtain ⟨A5, cap5, rfl, hc5, hc6⟩ := own.form hlen.out
      have r0 : CtOut w g h g2 h2 (.slice A5 (2 * nk) cap5) out [((nk : Nat) : Int)] [out.foldl (lastOf k) 0] w4 := ⟨hc, hd2, own, bel⟩
      have hn8' := hn8
      clear hc hd2 own bel hn8 hwr hwr2 hwr3 hcr hcg hh2lt hgc hgg hg hh hg2 hh2 hhw far rd0
      go_wp2_with fail
      go_loopg [20, 21] (2 * nk) (fun gk s20 s21 wr => ∃ (t : Nat), gk = 2 * nk - t ∧ t ≤ 2 * nk ∧ s21 = .int .i64 t ∧ s20 = .int .u64 ((out.take t).foldl (lastOf k) 0) ∧ CtOut w g h g2 h2 (.slice A5 (2 * nk) cap5) out [((nk : Nat) : Int)] [out.foldl (lastOf k) 0] wr)
      case atStart => exact ⟨0, rfl, Nat.zero_le _, rfl, by simp, r0⟩
      case round =>
        clear r0
        obtain ⟨t, hgt, htk, rfl, rfl, r⟩ := hrel
        by_cases hlt2 : t < 2 * nk
        · have hd : decide ((t : Int) < 2 * (nk : Int)) = true := by simp; omega
          obtain ⟨d, hdi⟩ : ∃ d, out[t]? = some d := ⟨_, List.getElem?_eq_getElem (by rw [hlen.out]; omega)⟩
          obtain ⟨q2, p2, hq2, hq2n, hp2, hp2k⟩ := hfine.out d (List.mem_of_getElem? hdi)
          have hfold : (out.take (t + 1)).foldl (lastOf k) 0 = lastOf k ((out.take t).foldl (lastOf k) 0) d := by rw [List.take_add_one, hdi, List.foldl_append]; rfl
          generalize (out.take t).foldl (lastOf k) 0 = lv at *
          replace hfold := Lib.hid hfold
          replace hgt := Lib.hid hgt
          obtain ⟨who, idx, gv⟩ := d
          simp only at hq2 hp2
          subst hq2 hp2
          obtain ⟨g4, c4, hVe, _, _, _, hg4, cur, hcur⟩ := r.own.formG hlen.out (by omega)
          simp only [Value.slice.injEq, true_and] at hVe
          obtain ⟨rfl, rfl⟩ := hVe
          have c0 : wr.cell? ⟨g4, t * 3, none⟩ = some (.int .i64 q2) := r.own.at_ Dn.cs_len hdi (f := 0) rfl
          have c1 : wr.cell? ⟨g4, t * 3 + 1, none⟩ = some (.int .i64 p2) := r.own.at_ Dn.cs_len hdi (f := 1) rfl
          have c2 : wr.cell? ⟨g4, t * 3 + 2, none⟩ = some (.int .u64 gv) := r.own.at_ Dn.cs_len hdi (f := 2) rfl
          clear hdi
          by_cases hup : (p2 : Int) % 2 = 1 ∧ gv = 1
          · obtain ⟨hp21, rfl⟩ := hup
            have hlo : lastOf k lv ⟨q2, p2, 1⟩ = (q2 : Int) * k + (p2 : Int) / 2 + 1 := by unfold lastOf; rw [if_pos ⟨hp21, rfl⟩]
            have hqk64 : q2 * k ≤ 64 := Nat.mul_le_mul (Nat.le_of_lt (Nat.lt_of_lt_of_le hq2n hn8')) hk8
            obtain ⟨qk, hqk⟩ : ∃ qk : Nat, qk = q2 * k := ⟨_, rfl⟩
            rw [← hqk] at hqk64
            have hqk2 : (q2 : Int) * (k : Int) = (qk : Int) := by rw [hqk]; simp
            obtain ⟨ph, hph⟩ : ∃ ph : Nat, ph = p2 / 2 := ⟨_, rfl⟩
            have hph1 : (p2 : Int).tdiv 2 = (ph : Int) := by rw [Int.tdiv_eq_ediv_of_nonneg (by omega)]; omega
            have hph2 : (p2 : Int) / 2 = (ph : Int) := by omega
            have hph8 : ph ≤ 8 := by omega
            rw [hqk2, hph2] at hlo
            have hm1 : ((p2 : Int).tmod 2 == 1) = true := by rw [Int.tmod_eq_emod_of_nonneg (by omega)]; simpa using hp21
            have hv3 : Value.int .u64 (IntKind.u64.wrap ((qk : Int) + ph + 1)) = .int .u64 ((qk : Int) + ph + 1) := by rw [u64_id3 qk ph (Nat.le_trans hqk64 (by decide)) (Nat.le_trans hph8 (by decide))]
            replace hlo := Lib.hid hlo
            replace hqk := Lib.hid hqk
            replace hph := Lib.hid hph
            clear hph2 hm1
            go_wp2_with fail
            have z0 : ∀ u : Tw (fun w' => Below wr.heap.size wr w'), u.w.cell? ⟨g4, t * 3, none⟩ = some (.int .i64 q2) := fun u => (u.h.cell (p := ⟨g4, t * 3, none⟩) hg4).trans c0
            have z1 : ∀ u : Tw (fun w' => Below wr.heap.size wr w'), u.w.cell? ⟨g4, t * 3 + 1, none⟩ = some (.int .i64 p2) := fun u => (u.h.cell (p := ⟨g4, t * 3 + 1, none⟩) hg4).trans c1
            have : Nonempty (Tw (fun w' => Below wr.heap.size wr w')) := ⟨⟨wr, Below.refl _ _⟩⟩
            refine region_tw (fun w' => Below (wr).heap.size (wr) w') (by kernel_rfl) (by kernel_rfl) (Below.refl _ _).drew ?_
            unfold clsS
            repeat (first
              | go_big_quiet_skip
              | (go_big_quiet_want; go_big_quiet_op; first | go_big_quiet_on | go_big_quiet_call (
                (first  | (fail)))))
            refine wpQuiet_nil ?_
            intro tq
            have r1 := r.bel5 tq.h
            clear z0 z1
            go_wp2_with fail
            go_roundg (2 * nk - (t + 1))
            case measure => have := hgt.out; omega
            case rel => exact ⟨t + 1, rfl, by omega, by go_num, by rw [hfold.out, hlo.out], r1⟩
          · have hlo : lastOf k lv ⟨q2, p2, gv⟩ = lv := by unfold lastOf; rw [if_neg hup]
            replace hlo := Lib.hid hlo
            rcases (by omega : (p2 : Int) % 2 = 0 ∨ (p2 : Int) % 2 = 1) with hm | hm
            · have hm1 : ((p2 : Int).tmod 2 == 1) = false := by rw [Int.tmod_eq_emod_of_nonneg (by omega)]; simp [hm]
              clear hup hm1
              go_wp2_with fail
              go_roundg (2 * nk - (t + 1))
              case measure => have := hgt.out; omega
              case rel => exact ⟨t + 1, rfl, by omega, by go_num, by rw [hfold.out, hlo.out], r⟩
            · have hm1 : ((p2 : Int).tmod 2 == 1) = true := by rw [Int.tmod_eq_emod_of_nonneg (by omega)]; simp [hm]
              have hg1 : ¬ gv = 1 := fun hh => hup ⟨hm, hh⟩
              clear hup hm1
              go_wp2_with fail
              go_roundg (2 * nk - (t + 1))
              case measure => have := hgt.out; omega
              case rel => exact ⟨t + 1, rfl, by omega, by go_num, by rw [hfold.out, hlo.out], r⟩
        · obtain rfl : t = 2 * nk := by omega
          rw [show out.take (2 * nk) = out from List.take_of_length_le (by rw [hlen.out]; exact Nat.le_refl _)]
          have e3 := hnk3.out
          have e4 : 2 * (i : Int) * (k : Int) = 2 * (nk : Int) := by rw [hnk4.out]; simp
          have hv3 : Value.int .u64 (IntKind.u64.wrap (nk : Int)) = .int .u64 (nk : Int) := by rw [u64_id _ (by omega) (by omega)]
          have hcl1 : celAt [(nk : Int)] 0 = nk := rfl
          obtain ⟨lv, hlv⟩ : ∃ lv, lv = out.foldl (lastOf k) 0 := ⟨_, rfl⟩
          rw [← hlv] at r
          rw [← hlv]
          have hcl2 : celAt [lv] 0 = lv := rfl
          replace hlv := Lib.hid hlv
          go_wp2_with fail
          refine (goes_any _).mono ?_
          rintro e w5 ⟨rfl, bel5⟩
          replace r := r.bel5 bel5
          go_wp2_with fail
          refine (Load_any 0 g h _ w5 r.c (by simp)).mono ?_
          rintro e w6 ⟨rfl, rfl⟩
          rw [hcl1]
          go_wp2_with fail
          refine (Load_any 0 g2 h2 _ _ r.d (by simp)).mono ?_
          rintro e w6 ⟨rfl, rfl⟩
          rw [hcl2]
          go_wp2_with fail
          go_ret
          exact ⟨rfl, r.bel⟩
theorem TurnsCounts_args (W : World) (args : Array Value) (hs : args.size = Try.f3.params.size) (hA : ∀ (j : Nat) t v, Try.f3.params[j]? = some t → args[j]? = some v → Arg Try.prog W t v) :
    Calls Try.prog 3 args W fun e W' => e = .returned (.bool true) ∧ Below W.heap.size W W' := by
  obtain ⟨v0, v1, v2, rfl⟩ := args3 hs
  obtain ⟨x0, rfl, _⟩ := arg_int Try.underlying3 (hA 0 3 v0 rfl rfl)
  obtain ⟨y0, rfl, _⟩ := arg_int Try.underlying3 (hA 1 3 v1 rfl rfl)
  obtain ⟨A, len, cap, l, rfl, h1, h2, rd⟩ := arg_ints Try.underlying22 Try.underlying3 (by kernel_rfl) (hA 2 22 v2 rfl rfl)
  exact TurnsCounts_any x0 y0 A len cap l W rd h1 h2

set_option maxRecDepth 100000 in
theorem TurnsCounts_lifted (os : Os) (started : os.Started) (H : Type) (enc : TypeId × Value → H) :
    ReturnsInHanded {} Try.checked os 3 .any (Rows.turnsCountsSpec.pre6 enc Try.prog Try.f3 Rows.turnsCountsRow.domain false) (Rows.turnsCountsSpec.post enc Try.prog Try.f3 false true false false) :=
  law_lifted os started H enc (by kernel_rfl) Try.func3 rfl rfl (fun H ds h => by match ds, h with | [_, _, _], _ => exact ⟨rfl, rfl, rfl⟩) (by kernel_rfl)
    (ChangeSpec.witness6 (enc := enc) (C := Try.checked) false ⟨#[], #[.int .i64 0, .int .i64 0, .slice none 0 0], []⟩ 8 (by kernel_rfl) (by kernel_rfl) (by kernel_rfl) (by kernel_rfl))
    TurnsCounts_args

/-- the statement -/
theorem turnsCounts_holds : Rows.TurnsCountsSaid :=
  OpenClaim.holds_of_wide 3 Try.f3 rfl rfl rfl rfl rfl rfl rfl ⟨rfl, rfl, rfl, rfl, rfl⟩ rfl rfl rfl rfl rfl (by kernel_rfl) Try.func3 (by kernel_rfl)
    (of_decide_eq_true (by kernel_rfl)) (by unfold Func.isWrapper; first | (rw [if_pos (by decide +kernel)]; kernel_rfl) | (rw [if_neg (by decide +kernel)]; exact ⟨rfl, rfl⟩))
    (fun os started H enc _ => TurnsCounts_lifted os started H enc)

end Go.Proofs.Ytoifojamblnijaa
