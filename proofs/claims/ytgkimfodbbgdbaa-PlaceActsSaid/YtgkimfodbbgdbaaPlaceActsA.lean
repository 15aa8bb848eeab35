/- What the walk of PlaceActs keeps; the call with a number of places that may not be. -/
import Derived.Test.YtgkimfodbbgdbaaPlaceSt
import Derived.Test.YtgkimfodbbgdbaaFrame
import Derived.Deep.DeepCutAuto
import Derived.Deep.CutBlock
import Derived.RegionTactic
import Derived.Outline
import Derived.Deep.Cut
namespace Go.Proofs.Ytgkimfodbbgdbaa
set_option linter.unusedVariables false
set_option linter.unusedSimpArgs false
open Go.RowKit
/-- an act in a row -/
structure Ac where
  what : Int
  idx : Int
  old : Wd
  now : Wd
  kp : Int
  ka : Int
  kr : Int
def Wd.rng (x : Wd) : Prop := inr .i64 x.st ∧ inr .i64 x.gen ∧ inr .i64 x.tr ∧ inr .i64 x.seen
def Ac.rng (x : Ac) : Prop := inr .i64 x.what ∧ inr .i64 x.idx ∧ x.old.rng ∧ x.now.rng ∧ inr .i64 x.kp ∧ inr .u32 x.ka ∧ inr .u16 x.kr
def Ac.cs (x : Ac) : List Value := [.int .i64 x.what, .int .i64 x.idx, .int .i64 x.old.st, .int .i64 x.old.gen, .int .i64 x.old.tr, .int .i64 x.old.seen, .int .i64 x.now.st, .int .i64 x.now.gen, .int .i64 x.now.tr, .int .i64 x.now.seen, .int .i64 x.kp, .int .u32 x.ka, .int .u16 x.kr]
def AcRd (w : World) (A : Option Addr) (n : Nat) : Prop :=
  0 < n → ∃ b o, A = some ⟨b, o, none⟩ ∧ b < w.heap.size ∧ ∀ i, i < n → ∃ x : Ac, x.rng ∧ ∀ j v, x.cs[j]? = some v → w.cell? ⟨b, o + i * 13 + j, none⟩ = some v
set_option maxRecDepth 100000 in
theorem PlaceActs_no (n : Int) (A : Option Addr) (m cap : Nat) (w : World) (h : n < 1 ∨ 3072 < n) :
    Calls Try.prog 8 #[.int .i64 n, .slice A m cap] w fun e w' => e = .returned (.bool true) ∧ Below w.heap.size w w' := by
  go_enter Try.func8, Try.ntmps8
  go_wp2_with (first
    | (go_at_call 12; refine (moves_any _).mono ?_; rintro e w1 ⟨rfl, b1⟩)
    | (go_at_call 22; refine (none_any _).mono ?_; rintro e w' ⟨rfl, rfl⟩)
    | (go_at_call 19; refine (PlLoad_nil _ _).mono ?_; rintro e w2 ⟨rfl, b2⟩; replace b1 := bel_after b1 b2; clear b2)
    | (go_at_call 20; refine (PlCas_nil _ _ _ _ _ _ _ _ _ _).mono ?_; rintro e w3 ⟨rfl, b3⟩; replace b1 := bel_after b1 b3; clear b3)
    | (go_at_call 23; refine (PlKey_nil _ _).mono ?_; rintro e w4 ⟨rfl, b4⟩; replace b1 := bel_after b1 b4; clear b4)
    | (go_at_call 24; refine (PlSetKey_nil _ _).mono ?_; rintro e w5 ⟨rfl, b5⟩; replace b1 := bel_after b1 b5; clear b5)
    | (go_at_call 25; refine (PlSize_nil _).mono ?_; rintro e w' ⟨rfl, rfl⟩)
    | (go_at_call 26; refine (PlCount_nil _ _).mono ?_; rintro e w' ⟨rfl, rfl⟩)
    | (go_at_call 27; refine (PlCopy_nil _).mono ?_; rintro e w' ⟨rfl, rfl⟩))
  refine (PlNew_no n _ h).mono ?_
  rintro e w' ⟨rfl, rfl⟩
  rcases h with h | h
  · have hd : decide (n < 1) = true := by simpa using h
    go_wp2
    go_ret
    exact ⟨rfl, b1⟩
  · have hd : decide (n < 1) = false := by simp; omega
    have hd2 : decide (3072 < n) = true := by simpa using h
    go_wp2
    go_ret
    exact ⟨rfl, b1⟩
theorem pa_new {w W : World} {p g h n : Nat} (pl : Pl W p g h n (List.replicate (2 * n) 0)) (bel : Below w.heap.size w W) (hh : w.heap.size ≤ h) :
    PA w p g h W.heap.size (W.heap.size + 1) n (List.replicate (2 * n) 0) (List.replicate n ⟨0, 0, 0, 0⟩) (List.replicate n ⟨0, 0, 0⟩) ((W.alloc (.cells ((List.replicate n (Wd.mk 0 0 0 0)).flatMap Wd.cs).toArray 23)).alloc (.cells ((List.replicate n (Ky.mk 0 0 0)).flatMap Ky.cs).toArray 47)).drew ∧
    PA w p g h (W.heap.size + 1) W.heap.size n (List.replicate (2 * n) 0) (List.replicate n ⟨0, 0, 0, 0⟩) (List.replicate n ⟨0, 0, 0⟩) ((W.alloc (.cells ((List.replicate n (Ky.mk 0 0 0)).flatMap Ky.cs).toArray 47)).alloc (.cells ((List.replicate n (Wd.mk 0 0 0 0)).flatMap Wd.cs).toArray 23)).drew := by
  have hs := bel.size
  refine ⟨⟨((pl.alloc _).alloc _).drewN 1, ((Blk.new W _ _).alloc _).drew, (Blk.new1 W _ _ _).drew, prel_new n, hh, hs, by omega, ((bel.alloc bel.size _).alloc (by simp; omega) _).drew⟩, ⟨((pl.alloc _).alloc _).drewN 1, (Blk.new1 W _ _ _).drew, ((Blk.new W _ _).alloc _).drew, prel_new n, hh, by omega, hs, ((bel.alloc bel.size _).alloc (by simp; omega) _).drew⟩⟩
/-- the boxes of old and now beside them, and of the act -/
structure AB (w0 : World) (p g h lb kb n : Nat) (L : List Int) (ws : List Wd) (ks : List Ky) (ga : Nat) (AX : Array Value) (go gn : Nat) (O N : Wd) (W : World) : Prop where
  pa : PA w0 p g h lb kb n L ws ks W
  ba : Blk W ga 49 AX
  bo : Blk W go 23 #[.int .i64 O.st, .int .i64 O.gen, .int .i64 O.tr, .int .i64 O.seen]
  bn : Blk W gn 23 #[.int .i64 N.st, .int .i64 N.gen, .int .i64 N.tr, .int .i64 N.seen]
  ho : lb < go ∧ w0.heap.size ≤ go
  hn : lb < gn ∧ w0.heap.size ≤ gn
  ne : go ≠ gn
section
variable {w0 W W' : World} {p g h lb kb n ga go gn : Nat} {L : List Int} {ws : List Wd} {ks : List Ky} {AX : Array Value} {O N : Wd}
theorem AB.bel' (k : AB w0 p g h lb kb n L ws ks ga AX go gn O N W) (hb : Below W.heap.size W W') : AB w0 p g h lb kb n L ws ks ga AX go gn O N W' := ⟨k.pa.bel' hb, k.ba.bel hb, k.bo.bel hb, k.bn.bel hb, k.ho, k.hn, k.ne⟩
theorem AB.drew (k : AB w0 p g h lb kb n L ws ks ga AX go gn O N W) : AB w0 p g h lb kb n L ws ks ga AX go gn O N W.drew := ⟨k.pa.drew, k.ba.drew, k.bo.drew, k.bn.drew, k.ho, k.hn, k.ne⟩
theorem AB.setN {N' : Wd} (k : AB w0 p g h lb kb n L ws ks ga AX go gn O N W) (i : Nat) (v : Int) (hN : #[Value.int .i64 N'.st, .int .i64 N'.gen, .int .i64 N'.tr, .int .i64 N'.seen] = #[Value.int .i64 N.st, .int .i64 N.gen, .int .i64 N.tr, .int .i64 N.seen].setIfInBounds i (.int .i64 v)) :
    AB w0 p g h lb kb n L ws ks ga AX go gn O N' (W.setCell ⟨gn, i, none⟩ (.int .i64 v)) :=
  ⟨k.pa.box k.hn k.bn i _, k.ba.upd (Upd.one W gn i _) (k.ba.ne_ k.bn (by decide)), k.bo.upd (Upd.one W gn i _) k.ne, by rw [hN]; exact k.bn.set_ i _, k.ho, k.hn, k.ne⟩
theorem AB.setO {O' : Wd} (k : AB w0 p g h lb kb n L ws ks ga AX go gn O N W) (i : Nat) (v : Int) (hO : #[Value.int .i64 O'.st, .int .i64 O'.gen, .int .i64 O'.tr, .int .i64 O'.seen] = #[Value.int .i64 O.st, .int .i64 O.gen, .int .i64 O.tr, .int .i64 O.seen].setIfInBounds i (.int .i64 v)) :
    AB w0 p g h lb kb n L ws ks ga AX go gn O' N (W.setCell ⟨go, i, none⟩ (.int .i64 v)) :=
  ⟨k.pa.box k.ho k.bo i _, k.ba.upd (Upd.one W go i _) (k.ba.ne_ k.bo (by decide)), by rw [hO]; exact k.bo.set_ i _, k.bn.upd (Upd.one W go i _) (Ne.symm k.ne), k.ho, k.hn, k.ne⟩
theorem AB.setO4 (k : AB w0 p g h lb kb n L ws ks ga AX go gn O N W) (x : Wd) : AB w0 p g h lb kb n L ws ks ga AX go gn x N ((((W.setCell ⟨go, 0, none⟩ (.int .i64 x.st)).setCell ⟨go, 1, none⟩ (.int .i64 x.gen)).setCell ⟨go, 2, none⟩ (.int .i64 x.tr)).setCell ⟨go, 3, none⟩ (.int .i64 x.seen)) :=
  (((k.setO (O' := ⟨x.st, O.gen, O.tr, O.seen⟩) 0 _ rfl).setO (O' := ⟨x.st, x.gen, O.tr, O.seen⟩) 1 _ rfl).setO (O' := ⟨x.st, x.gen, x.tr, O.seen⟩) 2 _ rfl).setO (O' := x) 3 _ rfl
theorem AB.setN4 (k : AB w0 p g h lb kb n L ws ks ga AX go gn O N W) (x : Wd) : AB w0 p g h lb kb n L ws ks ga AX go gn O x ((((W.setCell ⟨gn, 0, none⟩ (.int .i64 x.st)).setCell ⟨gn, 1, none⟩ (.int .i64 x.gen)).setCell ⟨gn, 2, none⟩ (.int .i64 x.tr)).setCell ⟨gn, 3, none⟩ (.int .i64 x.seen)) :=
  (((k.setN (N' := ⟨x.st, N.gen, N.tr, N.seen⟩) 0 _ rfl).setN (N' := ⟨x.st, x.gen, N.tr, N.seen⟩) 1 _ rfl).setN (N' := ⟨x.st, x.gen, x.tr, N.seen⟩) 2 _ rfl).setN (N' := x) 3 _ rfl
theorem AB.setN0 {y0 y1 y2 y3 : Int} (k : AB w0 p g h lb kb n L ws ks ga AX go gn O ⟨y0, y1, y2, y3⟩ W) (v : Int) : AB w0 p g h lb kb n L ws ks ga AX go gn O ⟨v, y1, y2, y3⟩ (W.setCell ⟨gn, 0, none⟩ (.int .i64 v)) := k.setN 0 v rfl
theorem AB.setN1 {y0 y1 y2 y3 : Int} (k : AB w0 p g h lb kb n L ws ks ga AX go gn O ⟨y0, y1, y2, y3⟩ W) (v : Int) : AB w0 p g h lb kb n L ws ks ga AX go gn O ⟨y0, v, y2, y3⟩ (W.setCell ⟨gn, 1, none⟩ (.int .i64 v)) := k.setN 1 v rfl
theorem AB.setN2 {y0 y1 y2 y3 : Int} (k : AB w0 p g h lb kb n L ws ks ga AX go gn O ⟨y0, y1, y2, y3⟩ W) (v : Int) : AB w0 p g h lb kb n L ws ks ga AX go gn O ⟨y0, y1, v, y3⟩ (W.setCell ⟨gn, 2, none⟩ (.int .i64 v)) := k.setN 2 v rfl
theorem AB.setN3 {y0 y1 y2 y3 : Int} (k : AB w0 p g h lb kb n L ws ks ga AX go gn O ⟨y0, y1, y2, y3⟩ W) (v : Int) : AB w0 p g h lb kb n L ws ks ga AX go gn O ⟨y0, y1, y2, v⟩ (W.setCell ⟨gn, 3, none⟩ (.int .i64 v)) := k.setN 3 v rfl
theorem ab_new (pa : PA w0 p g h lb kb n L ws ks W) (ba : Blk W ga 49 AX) (o v : Wd) :
    AB w0 p g h lb kb n L ws ks ga AX W.heap.size (W.heap.size + 1) o v ((W.alloc (.cells #[.int .i64 o.st, .int .i64 o.gen, .int .i64 o.tr, .int .i64 o.seen] 23)).alloc (.cells #[.int .i64 v.st, .int .i64 v.gen, .int .i64 v.tr, .int .i64 v.seen] 23)).drew ∧
    AB w0 p g h lb kb n L ws ks ga AX (W.heap.size + 1) W.heap.size o v ((W.alloc (.cells #[.int .i64 v.st, .int .i64 v.gen, .int .i64 v.tr, .int .i64 v.seen] 23)).alloc (.cells #[.int .i64 o.st, .int .i64 o.gen, .int .i64 o.tr, .int .i64 o.seen] 23)).drew := by
  have hs := pa.bel.size
  have hb := pa.bw.lt
  exact ⟨⟨((pa.alloc _).alloc _).drew, ((ba.alloc _).alloc _).drew, ((Blk.new W _ _).alloc _).drew, (Blk.new1 W _ _ _).drew, ⟨hb, hs⟩, ⟨by omega, by omega⟩, by omega⟩,
    ⟨((pa.alloc _).alloc _).drew, ((ba.alloc _).alloc _).drew, (Blk.new1 W _ _ _).drew, ((Blk.new W _ _).alloc _).drew, ⟨by omega, by omega⟩, ⟨hb, hs⟩, by omega⟩⟩
end
instance (a b : Wd) : Decidable (a = b) := decidable_of_iff (a.st = b.st ∧ a.gen = b.gen ∧ a.tr = b.tr ∧ a.seen = b.seen) ⟨fun h => Wd.ext' h.1 h.2.1 h.2.2.1 h.2.2.2, fun h => by subst h; exact ⟨rfl, rfl, rfl, rfl⟩⟩
theorem cas_test {n : Nat} {L : List Int} {ws : List Wd} {ks : List Ky} (rel : PRel n L ws ks) (i : Int) (O N : Wd) (T : Bool) (hT : T = decide (0 ≤ i ∧ i < n)) :
    decide ((0 ≤ i ∧ i < n) ∧ O.may N ∧ celAt L (2 * i) = O.num) = decide (T = true ∧ O.may N ∧ ws[i.toNat]? = some O) := by
  rw [hT]
  congr 1
  apply propext
  rw [decide_eq_true_iff]
  constructor
  · rintro ⟨hi, hm, he⟩
    obtain ⟨j, rfl⟩ := Int.eq_ofNat_of_zero_le hi.1
    obtain ⟨x, y, hx, hy, hxo, hyo, e1, e2⟩ := rel.get (i := j) (by omega)
    refine ⟨hi, hm, ?_⟩
    rw [Int.toNat_natCast, hx, num_inj hxo hm.1 (e1.symm.trans he)]
  · rintro ⟨hi, hm, he⟩
    obtain ⟨j, rfl⟩ := Int.eq_ofNat_of_zero_le hi.1
    obtain ⟨x, y, hx, hy, hxo, hyo, e1, e2⟩ := rel.get (i := j) (by omega)
    rw [Int.toNat_natCast, hx] at he
    obtain rfl : x = O := Option.some.inj he
    exact ⟨hi, hm, e1⟩
theorem PA.casno {w0 W u : World} {p g h lb kb n : Nat} {L : List Int} {ws : List Wd} {ks : List Ky} (k : PA w0 p g h lb kb n L ws ks W) (pl : Pl u p g h n L) (up : Upd (· = h) W u) : PA w0 p g h lb kb n L ws ks u :=
  ⟨pl, k.bw.upd up (Ne.symm (k.pl.cel.row.ne_ k.bw (by decide))), k.bk.upd up (Ne.symm (k.pl.cel.row.ne_ k.bk (by decide))), k.rel, k.hh, k.hlb, k.hkb, k.bel.trans (up.below k.bel.size (fun k' hk' e => by have := k.hh; omega))⟩
/-- at the end: the counts at cb, the copy of the cells -/
structure Fin4 (w0 : World) (p g h lb kb n : Nat) (L : List Int) (ws : List Wd) (ks : List Ky) (cb g2 c2 b2 i : Nat) (W : World) : Prop where
  pa : PA w0 p g h lb kb n L ws ks W
  bc : Blk W cb 66 #[.int .i64 (cntL L 0 i : Nat), .int .i64 (cntL L 1 i : Nat), .int .i64 (cntL L 2 i : Nat), .int .i64 (cntL L 3 i : Nat)]
  own : Own .u64 24 W b2 (.slice (some ⟨g2, 0, none⟩) (2 * n) c2) L
  hcb : w0.heap.size ≤ cb
section
variable {w0 W W' : World} {p g h lb kb n cb g2 c2 b2 i : Nat} {L : List Int} {ws : List Wd} {ks : List Ky}
theorem Fin4.bel' (k : Fin4 w0 p g h lb kb n L ws ks cb g2 c2 b2 i W) (hb : Below W.heap.size W W') : Fin4 w0 p g h lb kb n L ws ks cb g2 c2 b2 i W' := ⟨k.pa.bel' hb, k.bc.bel hb, k.own.below hb, k.hcb⟩
theorem cntL_step {n : Nat} {L : List Int} {ws : List Wd} {ks : List Ky} (rel : PRel n L ws ks) {i : Nat} {x : Wd} (hx : ws[i]? = some x) (hi : i < n) (s : Int) : cntL L s (i + 1) = cntL L s i + (if x.st = s then 1 else 0) := by
  obtain ⟨x', y, h1, h2, hxo, hyo, e1, e2⟩ := rel.get hi
  obtain rfl : x' = x := by rw [hx] at h1; exact (Option.some.inj h1).symm
  rw [show cntL L s (i + 1) = cntL L s i + (if (unW (celAt L (2 * (i : Int)))).st = s then 1 else 0) from rfl, e1, un_num hxo]
theorem Fin4.inc (k : Fin4 w0 p g h lb kb n L ws ks cb g2 c2 b2 i W) {x : Wd} (hx : ws[i]? = some x) (hi : i < n) (s : Nat) (hs : x.st = s) (hs4 : s < 4) :
    Fin4 w0 p g h lb kb n L ws ks cb g2 c2 b2 (i + 1) (W.setCell ⟨cb, s, none⟩ (.int .i64 ((cntL L s i + 1 : Nat) : Int))) := by
  have up := Upd.one W cb s (.int .i64 ((cntL L s i + 1 : Nat) : Int))
  obtain ⟨_, _, _, ho⟩ := k.pa.pl.cel.obj
  have hbel : Below w0.heap.size w0 (W.setCell ⟨cb, s, none⟩ (.int .i64 ((cntL L s i + 1 : Nat) : Int))) := k.pa.bel.trans (up.below k.pa.bel.size (fun i hi e => by have := k.hcb; omega))
  refine ⟨⟨Pl.upd (S := (· = cb)) k.pa.pl up (k.pa.pl.obj.ne_ k.bc (by decide)) (ho.ne_ k.bc (by decide)) (k.pa.pl.cel.row.ne_ k.bc (by decide)), k.pa.bw.upd up (k.pa.bw.ne_ k.bc (by decide)), k.pa.bk.upd up (k.pa.bk.ne_ k.bc (by decide)), k.pa.rel, k.pa.hh, k.pa.hlb, k.pa.hkb, hbel⟩, ?_, k.own.updne k.bc (by decide) up, k.hcb⟩
  have b := k.bc.set_ s (.int .i64 ((cntL L s i + 1 : Nat) : Int))
  have st := fun s => cntL_step k.pa.rel hx hi s
  rw [st 0, st 1, st 2, st 3, hs]
  have h4 : s = 0 ∨ s = 1 ∨ s = 2 ∨ s = 3 := by omega
  rcases h4 with rfl | rfl | rfl | rfl <;> exact b
end
/-- a frame of so many slots, by a function (a cut that forgets hundreds of slots one by one is too much for the kernel) -/
def frm (v : Nat → Value) : List Value := (List.range 373).map v
set_option maxRecDepth 100000 in
theorem frm_lit (v : Nat → Value) : frm v = v 0 :: v 1 :: v 2 :: v 3 :: v 4 :: v 5 :: v 6 :: v 7 :: v 8 :: v 9 :: v 10 :: v 11 :: v 12 :: v 13 :: v 14 :: v 15 :: v 16 :: v 17 :: v 18 :: v 19 :: v 20 :: v 21 :: v 22 :: v 23 :: v 24 :: v 25 :: v 26 :: v 27 :: v 28 :: v 29 :: v 30 :: v 31 :: v 32 :: v 33 :: v 34 :: v 35 :: v 36 :: v 37 :: v 38 :: v 39 :: v 40 :: v 41 :: v 42 :: v 43 :: v 44 :: v 45 :: v 46 :: v 47 :: v 48 :: v 49 :: v 50 :: v 51 :: v 52 :: v 53 :: v 54 :: v 55 :: v 56 :: v 57 :: v 58 :: v 59 :: v 60 :: v 61 :: v 62 :: v 63 :: v 64 :: v 65 :: v 66 :: v 67 :: v 68 :: v 69 :: v 70 :: v 71 :: v 72 :: v 73 :: v 74 :: v 75 :: v 76 :: v 77 :: v 78 :: v 79 :: v 80 :: v 81 :: v 82 :: v 83 :: v 84 :: v 85 :: v 86 :: v 87 :: v 88 :: v 89 :: v 90 :: v 91 :: v 92 :: v 93 :: v 94 :: v 95 :: v 96 :: v 97 :: v 98 :: v 99 :: v 100 :: v 101 :: v 102 :: v 103 :: v 104 :: v 105 :: v 106 :: v 107 :: v 108 :: v 109 :: v 110 :: v 111 :: v 112 :: v 113 :: v 114 :: v 115 :: v 116 :: v 117 :: v 118 :: v 119 :: v 120 :: v 121 :: v 122 :: v 123 :: v 124 :: v 125 :: v 126 :: v 127 :: v 128 :: v 129 :: v 130 :: v 131 :: v 132 :: v 133 :: v 134 :: v 135 :: v 136 :: v 137 :: v 138 :: v 139 :: v 140 :: v 141 :: v 142 :: v 143 :: v 144 :: v 145 :: v 146 :: v 147 :: v 148 :: v 149 :: v 150 :: v 151 :: v 152 :: v 153 :: v 154 :: v 155 :: v 156 :: v 157 :: v 158 :: v 159 :: v 160 :: v 161 :: v 162 :: v 163 :: v 164 :: v 165 :: v 166 :: v 167 :: v 168 :: v 169 :: v 170 :: v 171 :: v 172 :: v 173 :: v 174 :: v 175 :: v 176 :: v 177 :: v 178 :: v 179 :: v 180 :: v 181 :: v 182 :: v 183 :: v 184 :: v 185 :: v 186 :: v 187 :: v 188 :: v 189 :: v 190 :: v 191 :: v 192 :: v 193 :: v 194 :: v 195 :: v 196 :: v 197 :: v 198 :: v 199 :: v 200 :: v 201 :: v 202 :: v 203 :: v 204 :: v 205 :: v 206 :: v 207 :: v 208 :: v 209 :: v 210 :: v 211 :: v 212 :: v 213 :: v 214 :: v 215 :: v 216 :: v 217 :: v 218 :: v 219 :: v 220 :: v 221 :: v 222 :: v 223 :: v 224 :: v 225 :: v 226 :: v 227 :: v 228 :: v 229 :: v 230 :: v 231 :: v 232 :: v 233 :: v 234 :: v 235 :: v 236 :: v 237 :: v 238 :: v 239 :: v 240 :: v 241 :: v 242 :: v 243 :: v 244 :: v 245 :: v 246 :: v 247 :: v 248 :: v 249 :: v 250 :: v 251 :: v 252 :: v 253 :: v 254 :: v 255 :: v 256 :: v 257 :: v 258 :: v 259 :: v 260 :: v 261 :: v 262 :: v 263 :: v 264 :: v 265 :: v 266 :: v 267 :: v 268 :: v 269 :: v 270 :: v 271 :: v 272 :: v 273 :: v 274 :: v 275 :: v 276 :: v 277 :: v 278 :: v 279 :: v 280 :: v 281 :: v 282 :: v 283 :: v 284 :: v 285 :: v 286 :: v 287 :: v 288 :: v 289 :: v 290 :: v 291 :: v 292 :: v 293 :: v 294 :: v 295 :: v 296 :: v 297 :: v 298 :: v 299 :: v 300 :: v 301 :: v 302 :: v 303 :: v 304 :: v 305 :: v 306 :: v 307 :: v 308 :: v 309 :: v 310 :: v 311 :: v 312 :: v 313 :: v 314 :: v 315 :: v 316 :: v 317 :: v 318 :: v 319 :: v 320 :: v 321 :: v 322 :: v 323 :: v 324 :: v 325 :: v 326 :: v 327 :: v 328 :: v 329 :: v 330 :: v 331 :: v 332 :: v 333 :: v 334 :: v 335 :: v 336 :: v 337 :: v 338 :: v 339 :: v 340 :: v 341 :: v 342 :: v 343 :: v 344 :: v 345 :: v 346 :: v 347 :: v 348 :: v 349 :: v 350 :: v 351 :: v 352 :: v 353 :: v 354 :: v 355 :: v 356 :: v 357 :: v 358 :: v 359 :: v 360 :: v 361 :: v 362 :: v 363 :: v 364 :: v 365 :: v 366 :: v 367 :: v 368 :: v 369 :: v 370 :: v 371 :: v 372 :: [] := by kernel_rfl
theorem frm_self {l : List Value} (h : l.length = 373) : l = frm (fun i => l.getD i undef) := by
  apply List.ext_getElem
  · simp [frm, h]
  · intro i h1 h2
    simp [frm, List.getD_eq_getElem?_getD, List.getElem?_eq_getElem h1]
/-- what the frame keeps all along -/
structure Com (n : Nat) (A : Option Addr) (m cap p lb kb k : Nat) (v : Nat → Value) : Prop where
  v0 : v 0 = .int .i64 n
  v1 : v 1 = .slice A m cap
  v5 : v 5 = .pointer (some ⟨p, 0, none⟩)
  v6 : v 6 = .int .i64 0
  v7 : v 7 = .slice (some ⟨lb, 0, none⟩) n n
  v8 : v 8 = .slice (some ⟨kb, 0, none⟩) n n
  v9 : v 9 = .int .i64 k
theorem frm_meet {l : List Value} {d : List Deferred} {R : (Nat → Value) → Prop} (h : l.length = 373) (hR : R (fun i => l.getD i undef)) : ∃ v, (⟨l.toArray, d⟩ : Act) = ⟨(frm v).toArray, d⟩ ∧ R v := ⟨_, by rw [← frm_self h], hR⟩
end Go.Proofs.Ytgkimfodbbgdbaa
