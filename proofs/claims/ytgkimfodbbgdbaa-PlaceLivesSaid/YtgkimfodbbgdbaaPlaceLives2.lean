/- The walk of PlaceLives. -/
import Derived.Test.YtgkimfodbbgdbaaPlaceMay
import Derived.Deep.DeepCutAuto
namespace Go.Proofs.Ytgkimfodbbgdbaa
set_option linter.unusedVariables false
set_option linter.unusedSimpArgs false
open Go.RowKit
/-- an act in a row -/
structure Ac where
  what : Int
  idx : Int
  old : Wd
  now : Wd
  kp : Int
  ka : Int
  kr : Int
def Wd.rng (x : Wd) : Prop := inr .i64 x.st ∧ inr .i64 x.gen ∧ inr .i64 x.tr ∧ inr .i64 x.seen
def Ac.rng (x : Ac) : Prop := inr .i64 x.what ∧ inr .i64 x.idx ∧ x.old.rng ∧ x.now.rng ∧ inr .i64 x.kp ∧ inr .u32 x.ka ∧ inr .u16 x.kr
def Ac.cs (x : Ac) : List Value := [.int .i64 x.what, .int .i64 x.idx, .int .i64 x.old.st, .int .i64 x.old.gen, .int .i64 x.old.tr, .int .i64 x.old.seen, .int .i64 x.now.st, .int .i64 x.now.gen, .int .i64 x.now.tr, .int .i64 x.now.seen, .int .i64 x.kp, .int .u32 x.ka, .int .u16 x.kr]
def AcRd (w : World) (A : Option Addr) (n : Nat) : Prop :=
  0 < n → ∃ b o, A = some ⟨b, o, none⟩ ∧ b < w.heap.size ∧ ∀ i, i < n → ∃ x : Ac, x.rng ∧ ∀ j v, x.cs[j]? = some v → w.cell? ⟨b, o + i * 13 + j, none⟩ = some v
structure LvRel (m : Nat) (w : World) (p g h : Nat) (k M : Nat) (N : Wd) (wr : World) : Prop where
  hk : k ≤ m
  hM : M ≤ k
  pl : Pl wr p g h 1 [N.num, 0]
  ok : N.ok
  gen : N.gen = M % 65536
  bel : Below w.heap.size w wr
structure LvCut (w : World) (p g h go gn : Nat) (N : Wd) (y0 y1 y2 y3 : Int) (wr : World) : Prop where
  pl : Pl wr p g h 1 [N.num, 0]
  bo : Blk wr go 28 #[.int .i64 N.st, .int .i64 N.gen, .int .i64 N.tr, .int .i64 N.seen]
  bn : Blk wr gn 28 #[.int .i64 y0, .int .i64 y1, .int .i64 y2, .int .i64 y3]
  bel : Below w.heap.size w wr
def LvC (w : World) (p g h go gn : Nat) (N : Wd) (wr : World) : Prop := ∃ y0 y1 y2 y3 : Int, LvCut w p g h go gn N y0 y1 y2 y3 wr
theorem LvC.set {w W : World} {p g h go gn : Nat} {N : Wd} (hc : LvC w p g h go gn N W) (hnp : p ≠ gn) (hng : g ≠ gn) (hnh : h ≠ gn) (hog : go ≠ gn) (hwn : w.heap.size ≤ gn) (i : Nat) (hi : i < 4) (v : Int) :
    LvC w p g h go gn N (W.setCell ⟨gn, i, none⟩ (.int .i64 v)) := by
  obtain ⟨y0, y1, y2, y3, hc⟩ := hc
  have up := Upd.one W gn i (.int .i64 v)
  have bn := hc.bn.set_ i (.int .i64 v)
  have h4 : i = 0 ∨ i = 1 ∨ i = 2 ∨ i = 3 := by omega
  have hpl := Pl.upd (S := (· = gn)) hc.pl up hnp hng hnh
  have hbo := Blk.upd (S := (· = gn)) hc.bo up hog
  have hbel : Below w.heap.size w (W.setCell ⟨gn, i, none⟩ (.int .i64 v)) := hc.bel.trans (up.below hc.bel.size (fun k hk e => by subst e; omega))
  rcases h4 with rfl | rfl | rfl | rfl
  · exact ⟨v, y1, y2, y3, hpl, hbo, bn, hbel⟩
  · exact ⟨y0, v, y2, y3, hpl, hbo, bn, hbel⟩
  · exact ⟨y0, y1, v, y3, hpl, hbo, bn, hbel⟩
  · exact ⟨y0, y1, y2, v, hpl, hbo, bn, hbel⟩
set_option maxRecDepth 100000 in
set_option maxHeartbeats 1000000 in
theorem PlaceLives_yes (A : Option Addr) (m cap : Nat) (w : World) (hr : AcRd w A m) (hmm : m ≤ 9223372036854775807) :
    Calls Try.prog 6 #[.slice A m cap] w fun e w' => e = .returned (.bool true) ∧ Below w.heap.size w w' := by
  go_enter Try.func6, Try.ntmps6
  go_wp2_with fail
  refine (PlNew_yes 1 _ (by omega) (by omega)).mono ?_
  rintro e w1 ⟨p, g, h, rfl, bel1, hh, hp1⟩
  go_wp2_with fail
  refine (moves_any _).mono ?_
  rintro e w3 ⟨rfl, b3⟩
  replace hp1 := hp1.bel b3
  replace b3 := bel_after bel1 b3
  clear bel1
  go_wp2_with fail
  go_loopg [5, 6] m (fun gk s5 s6 wx => ∃ (k M : Nat) (N : Wd), gk = m - k ∧ s5 = .int .i64 M ∧ s6 = .int .i64 k ∧ LvRel m w p g h k M N wx)
  case atStart => exact ⟨0, 0, ⟨0, 0, 0, 0⟩, rfl, rfl, rfl, Nat.zero_le _, Nat.zero_le _, hp1, by decide +kernel, rfl, b3⟩
  case round =>
    clear hp1 b3
    obtain ⟨k, M, N, hgk, rfl, rfl, rel⟩ := hrel
    obtain ⟨hk, hM, pl, ok, gen, bel⟩ := rel
    by_cases hlt : k < m ∧ k < 80
    · obtain ⟨hlt, hlt80⟩ := hlt
      obtain ⟨b, o, rfl, hbl, hcl⟩ := hr (by omega)
      obtain ⟨⟨x0, x1, ⟨o0, o1, o2, o3⟩, ⟨n0, n1, n2, n3⟩, kp, ka, kr⟩, hrg, hcl⟩ := hcl k hlt
      have c0 := bel.cell (p := ⟨b, o + k * 13, none⟩) hbl |>.trans (hcl 0 _ rfl)
      have c1 := bel.cell (p := ⟨b, o + k * 13 + 1, none⟩) hbl |>.trans (hcl 1 _ rfl)
      have c2 := bel.cell (p := ⟨b, o + k * 13 + 2, none⟩) hbl |>.trans (hcl 2 _ rfl)
      have c3 := bel.cell (p := ⟨b, o + k * 13 + 3, none⟩) hbl |>.trans (hcl 3 _ rfl)
      have c4 := bel.cell (p := ⟨b, o + k * 13 + 4, none⟩) hbl |>.trans (hcl 4 _ rfl)
      have c5 := bel.cell (p := ⟨b, o + k * 13 + 5, none⟩) hbl |>.trans (hcl 5 _ rfl)
      have c6 := bel.cell (p := ⟨b, o + k * 13 + 6, none⟩) hbl |>.trans (hcl 6 _ rfl)
      have c7 := bel.cell (p := ⟨b, o + k * 13 + 7, none⟩) hbl |>.trans (hcl 7 _ rfl)
      have c8 := bel.cell (p := ⟨b, o + k * 13 + 8, none⟩) hbl |>.trans (hcl 8 _ rfl)
      have c9 := bel.cell (p := ⟨b, o + k * 13 + 9, none⟩) hbl |>.trans (hcl 9 _ rfl)
      have c10 := bel.cell (p := ⟨b, o + k * 13 + 10, none⟩) hbl |>.trans (hcl 10 _ rfl)
      have c11 := bel.cell (p := ⟨b, o + k * 13 + 11, none⟩) hbl |>.trans (hcl 11 _ rfl)
      have c12 := bel.cell (p := ⟨b, o + k * 13 + 12, none⟩) hbl |>.trans (hcl 12 _ rfl)
      clear hcl
      have hd : decide (k < m) = true := by simpa using hlt
      have hd2 : decide ((k : Int) < 80) = true := by simp; omega
      have ba := Blk.new wr 49 #[.int .i64 x0, .int .i64 x1, .int .i64 o0, .int .i64 o1, .int .i64 o2, .int .i64 o3, .int .i64 n0, .int .i64 n1, .int .i64 n2, .int .i64 n3, .int .i64 kp, .int .u32 ka, .int .u16 kr]
      have pl1 := pl.alloc (.cells #[.int .i64 x0, .int .i64 x1, .int .i64 o0, .int .i64 o1, .int .i64 o2, .int .i64 o3, .int .i64 n0, .int .i64 n1, .int .i64 n2, .int .i64 n3, .int .i64 kp, .int .u32 ka, .int .u16 kr] 49)
      have bel1 := bel.alloc bel.size (.cells #[.int .i64 x0, .int .i64 x1, .int .i64 o0, .int .i64 o1, .int .i64 o2, .int .i64 o3, .int .i64 n0, .int .i64 n1, .int .i64 n2, .int .i64 n3, .int .i64 kp, .int .u32 ka, .int .u16 kr] 49)
      replace hgk := Lib.hid hgk
      replace gen := Lib.hid gen
      go_wp2_with fail
      clear c0 c1 c2 c3 c4 c5 c6 c7 c8 c9 c10 c11 c12
      generalize wr.alloc (.cells #[.int .i64 x0, .int .i64 x1, .int .i64 o0, .int .i64 o1, .int .i64 o2, .int .i64 o3, .int .i64 n0, .int .i64 n1, .int .i64 n2, .int .i64 n3, .int .i64 kp, .int .u32 ka, .int .u16 kr] 49) = W1 at *
      refine (PlLoad_any 0 p g h 1 _ _ pl1 (by omega)).mono ?_
      rw [show (unW (celAt [N.num, 0] (2 * 0))).val = N.val by rw [show celAt [N.num, 0] (2 * 0) = N.num from rfl, un_num ok]]
      unfold Wd.val
      rintro r w2 ⟨rfl, b2⟩
      replace ba := ba.bel b2
      replace pl1 := pl1.bel b2
      replace bel1 := bel_after bel1 b2
      clear b2
      generalize wr.heap.size = ga at *
      have bo := Blk.new w2 28 #[.int .i64 N.st, .int .i64 N.gen, .int .i64 N.tr, .int .i64 N.seen]
      replace ba := ba.alloc (.cells #[.int .i64 N.st, .int .i64 N.gen, .int .i64 N.tr, .int .i64 N.seen] 28)
      replace pl1 := pl1.alloc (.cells #[.int .i64 N.st, .int .i64 N.gen, .int .i64 N.tr, .int .i64 N.seen] 28)
      replace bel1 := bel1.alloc bel1.size (.cells #[.int .i64 N.st, .int .i64 N.gen, .int .i64 N.tr, .int .i64 N.seen] 28)
      have a0 := ba.cell 0
      have a6 := ba.cell 6
      have a7 := ba.cell 7
      have a8 := ba.cell 8
      have a9 := ba.cell 9
      go_wp2_with fail
      clear a6 a7 a8 a9
      generalize hW3 : w2.alloc (.cells #[.int .i64 N.st, .int .i64 N.gen, .int .i64 N.tr, .int .i64 N.seen] 28) = W3 at *
      refine (To_any _ _ _ _ _).mono ?_
      rintro r w4 ⟨rfl, b4⟩
      replace ba := ba.bel b4
      replace bo := bo.bel b4
      replace pl1 := pl1.bel b4
      replace bel1 := bel_after bel1 b4
      clear b4 hW3 a0
      have hog : w2.heap.size ≠ w4.heap.size := by have := bo.lt; omega
      have hag : ga ≠ w4.heap.size := by have := ba.lt; omega
      have hpn : ∀ Z, Blk (w4.alloc (.cells #[.int .i64 n0, .int .i64 n1, .int .i64 n2, .int .i64 n3] 28)) w4.heap.size 28 Z → p ≠ w4.heap.size ∧ g ≠ w4.heap.size ∧ h ≠ w4.heap.size := by
        intro Z bZ
        have pl2 := pl1.alloc (.cells #[.int .i64 n0, .int .i64 n1, .int .i64 n2, .int .i64 n3] 28)
        exact ⟨pl2.obj.ne_ bZ (by decide), (by obtain ⟨_, _, _, ho⟩ := pl2.cel.obj; exact ho.ne_ bZ (by decide)), pl2.cel.row.ne_ bZ (by decide)⟩
      have hwn : w.heap.size ≤ w4.heap.size := bel1.size
      have bn := Blk.new w4 28 #[.int .i64 n0, .int .i64 n1, .int .i64 n2, .int .i64 n3]
      obtain ⟨hnp, hng, hnh⟩ := hpn _ bn
      clear hpn
      replace ba := ba.alloc (.cells #[.int .i64 n0, .int .i64 n1, .int .i64 n2, .int .i64 n3] 28)
      replace bo := bo.alloc (.cells #[.int .i64 n0, .int .i64 n1, .int .i64 n2, .int .i64 n3] 28)
      replace pl1 := pl1.alloc (.cells #[.int .i64 n0, .int .i64 n1, .int .i64 n2, .int .i64 n3] 28)
      replace bel1 := bel1.alloc bel1.size (.cells #[.int .i64 n0, .int .i64 n1, .int .i64 n2, .int .i64 n3] 28)
      have a0 := ba.cell 0
      go_upto_if 43 with fail
      generalize w2.heap.size = go at *
      generalize w4.heap.size = gn at *
      go_cut [] (fun wx => LvC w p g h go gn N wx)
      case first =>
        have hL : LvC w p g h go gn N (w4.alloc (.cells #[.int .i64 n0, .int .i64 n1, .int .i64 n2, .int .i64 n3] 28)) := ⟨_, _, _, _, pl1, bo, bn, bel1⟩
        have a6 := ba.cell 6
        have a8 := ba.cell 8
        have a9 := ba.cell 9
        have q0 := bo.cell 0
        have q1 := bo.cell 1
        have q2 := bo.cell 2
        have q3 := bo.cell 3
        have e0 := bn.cell 0
        have e1 := bn.cell 1
        have e2 := bn.cell 2
        have e3 := bn.cell 3
        have f0 := bn.frozen 0
        have f1 := bn.frozen 1
        have f2 := bn.frozen 2
        have f3 := bn.frozen 3
        go_wp2_with fail
        all_goals (go_meet; repeat (first | with_reducible (refine LvC.set ?_ hnp hng hnh hog hwn _ (by omega) _) | with_reducible exact hL))
      case rest =>
        clear ba bo bn pl1 bel1 a0 hnp hng hnh hag pl bel
        obtain ⟨y0, y1, y2, y3, pl1, bo, bn, bel1⟩ := hcut
        have q0 := bo.cell 0
        have q1 := bo.cell 1
        have q2 := bo.cell 2
        have q3 := bo.cell 3
        have e0 := bn.cell 0
        have e1 := bn.cell 1
        have e2 := bn.cell 2
        have e3 := bn.cell 3
        go_wp2_with fail
        obtain ⟨s0, s1, s2, s3⟩ := N
        by_cases hB : (Wd.mk s0 s1 s2 s3).may ⟨y0, y1, y2, y3⟩
        · refine (PlCas_any 0 s0 s1 s2 s3 y0 y1 y2 y3 p g h 1 _ _ pl1 (by omega) true (decide_eq_true ⟨by omega, hB, rfl⟩)).mono ?_
          rintro r u1 ⟨rfl, pl2, up2⟩
          have hgo : go ≠ h := Ne.symm (pl1.cel.row.ne_ bo (by decide))
          replace bo := bo.upd up2 hgo
          replace bel1 : Below w.heap.size w u1 := bel1.trans (up2.below bel1.size (fun k hk e => by subst e; omega))
          replace pl2 : Pl u1 p g h 1 [(Wd.mk y0 y1 y2 y3).num, 0] := pl2
          clear q0 q1 q2 q3 e0 e1 e2 e3 up2 bn pl1
          go_wp2_with fail
          refine (PlLoad_any 0 p g h 1 _ _ pl2 (by omega)).mono ?_
          rw [show (unW (celAt [(Wd.mk y0 y1 y2 y3).num, 0] (2 * 0))).val = (Wd.mk y0 y1 y2 y3).val by rw [show celAt [(Wd.mk y0 y1 y2 y3).num, 0] (2 * 0) = (Wd.mk y0 y1 y2 y3).num from rfl, un_num hB.2.1]]
          unfold Wd.val
          rintro r u2 ⟨rfl, b2⟩
          replace bo := bo.bel b2
          replace bel1 := bel_after bel1 b2
          replace pl2 := pl2.bel b2
          have hgx : go ≠ u2.heap.size := by have := bo.lt; omega
          have bx := Blk.new u2 28 #[.int .i64 y0, .int .i64 y1, .int .i64 y2, .int .i64 y3]
          replace bo := bo.alloc (.cells #[.int .i64 y0, .int .i64 y1, .int .i64 y2, .int .i64 y3] 28)
          replace bel1 := bel1.alloc bel1.size (.cells #[.int .i64 y0, .int .i64 y1, .int .i64 y2, .int .i64 y3] 28)
          replace pl2 := pl2.alloc (.cells #[.int .i64 y0, .int .i64 y1, .int .i64 y2, .int .i64 y3] 28)
          obtain ⟨_, hok2, hmay⟩ := hB
          have hg1 : s1 = (M : Int) := by have := gen.out; omega
          subst hg1
          simp only [Wd.same] at hmay
          have hM1 : ((M : Int)).tmod 65536 = M := by rw [Int.tmod_eq_emod_of_nonneg (by omega)]; omega
          have hM2 : ((M : Int) + 1).tmod 65536 = M + 1 := by rw [Int.tmod_eq_emod_of_nonneg (by omega)]; omega
          have hok3 := hok2
          simp only [Wd.ok] at hok3
          rcases hmay with ⟨rfl, rfl, hg2⟩ | ⟨rfl, hst, hg2, -, rfl⟩ | ⟨rfl, ⟨rfl, hg2, hle⟩ | ⟨rfl, hg2, -, rfl⟩⟩ | ⟨rfl, rfl, hg2, -, -⟩
          · obtain rfl : y1 = (M : Int) + 1 := by omega
            clear hg2
            have q0 := bo.cell 0
            have q3 := bo.cell 3
            have i0 := bx.cell 0
            have i1 := bx.cell 1
            have i3 := bx.cell 3
            go_wp2_with fail
            go_roundg (m - (k + 1))
            case measure => have := hgk.out; omega
            case rel => exact ⟨k + 1, M + 1, _, rfl, rfl, rfl, by omega, by omega, pl2, hok2, by simp only; omega, bel1⟩
          · obtain rfl : y1 = (M : Int) := by omega
            clear hg2
            rcases hst with rfl | rfl
            · have q0 := bo.cell 0
              have q3 := bo.cell 3
              have i0 := bx.cell 0
              have i1 := bx.cell 1
              have i3 := bx.cell 3
              go_wp2_with fail
              go_roundg (m - (k + 1))
              case measure => have := hgk.out; omega
              case rel => exact ⟨k + 1, M, _, rfl, rfl, rfl, by omega, by omega, pl2, hok2, by simp only; omega, bel1⟩
            · have q0 := bo.cell 0
              have q3 := bo.cell 3
              have i0 := bx.cell 0
              have i1 := bx.cell 1
              have i3 := bx.cell 3
              go_wp2_with fail
              go_roundg (m - (k + 1))
              case measure => have := hgk.out; omega
              case rel => exact ⟨k + 1, M, _, rfl, rfl, rfl, by omega, by omega, pl2, hok2, by simp only; omega, bel1⟩
          · obtain rfl : y1 = (M : Int) := by omega
            clear hg2
            have hlt3 : decide (y3 < s3) = false := by simp; omega
            have q0 := bo.cell 0
            have q3 := bo.cell 3
            have i0 := bx.cell 0
            have i1 := bx.cell 1
            have i3 := bx.cell 3
            go_wp2_with fail
            go_roundg (m - (k + 1))
            case measure => have := hgk.out; omega
            case rel => exact ⟨k + 1, M, _, rfl, rfl, rfl, by omega, by omega, pl2, hok2, by simp only; omega, bel1⟩
          · obtain rfl : y1 = (M : Int) := by omega
            clear hg2
            have hlt3 : decide (y3 < y3) = false := by simp
            have q0 := bo.cell 0
            have q3 := bo.cell 3
            have i0 := bx.cell 0
            have i1 := bx.cell 1
            have i3 := bx.cell 3
            go_wp2_with fail
            go_roundg (m - (k + 1))
            case measure => have := hgk.out; omega
            case rel => exact ⟨k + 1, M, _, rfl, rfl, rfl, by omega, by omega, pl2, hok2, by simp only; omega, bel1⟩
          · obtain rfl : y1 = (M : Int) := by omega
            clear hg2
            have q0 := bo.cell 0
            have q3 := bo.cell 3
            have i0 := bx.cell 0
            have i1 := bx.cell 1
            have i3 := bx.cell 3
            go_wp2_with fail
            go_roundg (m - (k + 1))
            case measure => have := hgk.out; omega
            case rel => exact ⟨k + 1, M, _, rfl, rfl, rfl, by omega, by omega, pl2, hok2, by simp only; omega, bel1⟩
        · refine (PlCas_any 0 s0 s1 s2 s3 y0 y1 y2 y3 p g h 1 _ _ pl1 (by omega) false (decide_eq_false fun hh => hB hh.2.1)).mono ?_
          rintro r u1 ⟨rfl, pl2, up2⟩
          have hgo : go ≠ h := Ne.symm (pl1.cel.row.ne_ bo (by decide))
          replace bo := bo.upd up2 hgo
          replace bel1 : Below w.heap.size w u1 := bel1.trans (up2.below bel1.size (fun k hk e => by subst e; omega))
          replace pl2 : Pl u1 p g h 1 [(Wd.mk s0 s1 s2 s3).num, 0] := pl2
          clear q0 q1 q2 q3 e0 e1 e2 e3 up2 bn pl1
          go_wp2_with fail
          have hL := fun W (hW : Below u1.heap.size u1 W) => PlLoad_any 0 p g h 1 _ W (pl2.bel hW) (by omega)
          rw [show (unW (celAt [(Wd.mk s0 s1 s2 s3).num, 0] (2 * 0))).val = (Wd.mk s0 s1 s2 s3).val by rw [show celAt [(Wd.mk s0 s1 s2 s3).num, 0] (2 * 0) = (Wd.mk s0 s1 s2 s3).num from rfl, un_num ok]] at hL
          unfold Wd.val at hL
          simp only at hL
          replace hL := Lib.hid hL
          have z0 : ∀ t : Tw (fun w' => Below u1.heap.size u1 w'), t.w.cell? ⟨go, 0, none⟩ = _ := fun t => bo.tw bo.lt t 0
          have z1 : ∀ t : Tw (fun w' => Below u1.heap.size u1 w'), t.w.cell? ⟨go, 1, none⟩ = _ := fun t => bo.tw bo.lt t 1
          have z2 : ∀ t : Tw (fun w' => Below u1.heap.size u1 w'), t.w.cell? ⟨go, 2, none⟩ = _ := fun t => bo.tw bo.lt t 2
          have z3 : ∀ t : Tw (fun w' => Below u1.heap.size u1 w'), t.w.cell? ⟨go, 3, none⟩ = _ := fun t => bo.tw bo.lt t 3
          simp only [List.getElem?_toArray, List.getElem?_cons_zero, List.getElem?_cons_succ] at z0 z1 z2 z3
          have : Nonempty (Tw (fun w' => Below u1.heap.size u1 w')) := ⟨⟨u1, Below.refl _ _⟩⟩
          refine region_tw (fun w' => Below u1.heap.size u1 w') (by kernel_rfl) (by kernel_rfl) (Below.refl _ _).drew ?_
          unfold clsS
          repeat (first
            | go_big_quiet_skip
            | (go_big_quiet_want; go_big_quiet_op; first | go_big_quiet_on | go_big_quiet_call (
              (go_at_call 19; exact q_tw (Nat.le_refl _) (hL.out _ (Tw.h _))))))
          refine wpQuiet_nil ?_
          intro tq
          go_wp2_with fail
          go_roundg (m - (k + 1))
          case measure => have := hgk.out; omega
          case rel => exact ⟨k + 1, M, _, rfl, rfl, rfl, by omega, by omega, pl2.bel tq.h, ok, gen.out, bel_after bel1 tq.h⟩
    · have hcond : decide (k < m) = false ∨ (decide (k < m) = true ∧ decide ((k : Int) < 80) = false) := by
        rcases Nat.lt_or_ge k m with h | h
        · exact .inr ⟨by simpa using h, by simp; omega⟩
        · exact .inl (by simp; omega)
      rcases hcond with hd | ⟨hd, hd2⟩
      · go_wp2
        go_ret
        exact ⟨rfl, bel⟩
      · go_wp2
        go_ret
        exact ⟨rfl, bel⟩
end Go.Proofs.Ytgkimfodbbgdbaa
