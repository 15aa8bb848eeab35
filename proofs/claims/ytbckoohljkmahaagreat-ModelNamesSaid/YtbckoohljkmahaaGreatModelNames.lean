/- Every input of ModelNames answers true, and reads behind the call as it read before. No condition. -/
import Derived.Test.YtbckoohljkmahaaGreatPN02
import Derived.Test.YtbckoohljkmahaaGreatPN01
namespace Go.Proofs.YtbckoohljkmahaaGreat
set_option linter.unusedVariables false
set_option linter.unusedSimpArgs false
open Go.RowKit
def nmY (q0 q1 j : Nat) : Int := if j = 0 then 1000 + (q0 : Int) else 1000 + (q1 : Int)
structure NmI (w W : World) (k a p q0 q1 i : Nat) (so vl : Array Value) : Prop where
  s1 : so.size = 2
  s2 : vl.size = 2
  st : ∀ j, j < i → so[j]? = some (.string (strOfNums (nmZ k a p 1000)))
  row : ∀ j, j < i → ∃ g c, vl[j]? = some (.slice (some ⟨g, 0, none⟩) 1 c) ∧ 1 ≤ c ∧ c ≤ maxLen ∧ OwnT BdL 6 92 W w.heap.size (.slice (some ⟨g, 0, none⟩) 1 c) [nmB k a p (nmY q0 q1 j)]
  dif : 2 ≤ i → ∀ g c g' c', vl[0]? = some (.slice (some ⟨g, 0, none⟩) 1 c) → vl[1]? = some (.slice (some ⟨g', 0, none⟩) 1 c') → g ≠ g'
structure NmC (ga gk : Nat) (sb kv : Array Value) (B : Nat) (w' : World) : Prop where
  ba : Blk w' ga 24 sb
  bk : Blk w' gk 64 kv
  sz : B ≤ w'.heap.size
structure NmD (gy : Nat) (an : Array Value) (B : Nat) (v : Value) (l : List Int) (w' : World) : Prop where
  bg : Blk w' gy 55 an
  ow : Own .u8 5 w' B v l
theorem NmD.set {gy B g : Nat} {an : Array Value} {v : Value} {l : List Int} {w' : World} (h : NmD gy an B v l w') {t : TypeId} {cs : Array Value} (hb : Blk w' g t cs) (h1 : 5 ≠ t) (h2 : 55 ≠ t) (j : Nat) (u : Value) : NmD gy an B v l (w'.setCell ⟨g, j, none⟩ u) :=
  ⟨h.bg.far (p := ⟨g, j, none⟩) (h.bg.ne_ hb h2) u, h.ow.updne hb h1 ((Upd.refl (· = g) w').setCell (p := ⟨g, j, none⟩) (fun _ => rfl) u)⟩
theorem quiet_convW {o : Oper} {a : Act} {C : World → Prop} {K : Act → Prop} (x : Operand) (src dst : TypeId) (ho : o.op = .convert src dst x) (e : TypeId) (hs : Tryz.prog.underlying src = some (.slice e)) (he : Tryz.prog.underlying e = some (.int .u8)) (hd : Tryz.prog.underlying dst = some .string)
    (A : Option Addr) (n cap : Nat) (l : List Int) (hx : a.eval x = .slice A n cap) (h : ∀ w, C w → Rd .u8 w w.heap.size A n l) (hk : K (a.put o.dst (.string (strOfNums l)))) : o.quiet Tryz.prog a C K :=
  quiet_run _ (fun w hw => by
    unfold execOp
    simp only [ho, hx, Sem.run_bind]
    rw [conv_rd (P := Tryz.prog) (h w hw) src e dst hs he hd]
    rfl) hk
set_option maxRecDepth 100000 in
set_option maxHeartbeats 4000000 in
theorem ModelNames_walk (out : Bool) (wt wo po f be by_ ti x0 x1 : Int) (A : Option Addr) (len cap : Nat) (l : List Int) (w : World) (hr : Rd .u8 w w.heap.size A len l) (hlc : len ≤ cap) (hcm : cap ≤ 9223372036854775807) :
    Calls Tryz.prog 9 #[.agg #[.bool out, .int .i64 wt, .int .i64 wo, .int .i64 po, .int .i64 f, .slice A len cap, .int .i64 be, .int .u8 by_, .int .i64 ti], .agg #[.int .i64 x0, .int .i64 x1]] w fun e w' => e = .returned (.bool true) ∧ Below w.heap.size w w' := by
  have hc : (cfL 39).ok := cfL_ok (by omega)
  have hou : 0 ≤ (cfL 39).ou ∧ (cfL 39).ou ≤ 4294967295 := by decide
  have kT : ∀ W, Calls Tryz.prog 14 #[.agg #[.int .i64 1, .int .u32 3221225985, .int .i64 1000, .int .i64 1039, .int .i64 2, .int .i64 4]] W fun e w' => e = .returned (.agg #[.int .i64 1, .int .u32 3221225985, .int .i64 1000, .int .i64 1039, .int .i64 2, .int .i64 4]) ∧ Below W.heap.size W w' := fun W => To_any (cfL 39) W
  have kN : ∀ W, Calls Tryz.prog 20 #[.agg #[.int .i64 1, .int .u32 3221225985, .int .i64 1000, .int .i64 1039, .int .i64 2, .int .i64 4]] W (NewR W (cfL 39)) := fun W => New_ok (cfL 39) W hc
  obtain ⟨k, hk, hk3⟩ := modn wt 2 (by omega)
  have hk2 : k < 2 := by omega
  have hkv : Value.int .u64 ((IntKind.u64.wrap wt).tmod 2) = .int .u64 (k : Int) := by rw [hk]
  obtain ⟨q0, hq0, hq0b⟩ := modn x0 40 (by omega)
  have hq0v : Value.int .u64 ((IntKind.u64.wrap x0).tmod 40) = .int .u64 (q0 : Int) := by rw [hq0]
  obtain ⟨q1, hq1, hq1b⟩ := modn x1 40 (by omega)
  have hq1v : Value.int .u64 ((IntKind.u64.wrap x1).tmod 40) = .int .u64 (q1 : Int) := by rw [hq1]
  clear hk hq0 hq1
  obtain ⟨m, hmn, hm1, hm2⟩ := minc 20 (by omega) len
  obtain ⟨a, ha, hab⟩ := modn wo 3 (by omega)
  obtain ⟨c, hc3, hcb⟩ := modn ((IntKind.u64.wrap wo).tdiv 3) 3 (by omega)
  obtain ⟨p, hp, hpb⟩ := modn po 5 (by omega)
  have kF := fun w' (h : Below w.heap.size w w') => Frame15_k (k : Int) wo po 2 be ti A len cap l a c p m k w' ((hr.below h).more h.size) hlc hcm hmn hm1 (modk k (by omega)) (by omega) ha hab hc3 hcb hp hpb
  unfold Gives at kF
  have h8 : Bytes8 ((l.take m).take 40) := fun x hx => inr_u8 (hr.rng x (List.mem_of_mem_take (List.mem_of_mem_take hx)))
  have hn : ((l.take m).take 40).length ≤ 40 := by rw [List.length_take]; omega
  have hfb : 28 ≤ (frameL k (167772161 + (a : Int)) (134744065 + (c : Int)) (5 + (p : Int)) 53 2 ((l.take m).take 40)).length ∧ (frameL k (167772161 + (a : Int)) (134744065 + (c : Int)) (5 + (p : Int)) 53 2 ((l.take m).take 40)).length ≤ 130 := frame_bd hn
  have hag := fun (g8 : Bytes8 (frameL k (167772161 + (a : Int)) (134744065 + (c : Int)) (5 + (p : Int)) 53 2 ((l.take m).take 40))) (y : Int) (hy : 1000 ≤ y ∧ y ≤ 1039) => frame_again (k := k) (s := 167772161 + (a : Int)) (d := 134744065 + (c : Int)) (a := 5 + (p : Int)) (b := 53) (f := 2) (l := (l.take m).take 40) (by omega) (by omega) (by omega) (by omega) h8 hn (by omega) true (ou := 3221225985) (po := y) g8 (by omega) (by omega)
  have hR1 := fun (y : Int) (hy : 1000 ≤ y ∧ y ≤ 1039) => step_new (k := k) (s := 167772161 + (a : Int)) (d := 134744065 + (c : Int)) (a := 5 + (p : Int)) (b := 53) (f := 2) (l := (l.take m).take 40) (by omega) (by omega) (by omega) (by omega) h8 hn (by omega) (cfL 39) [] 1 y (fun _ => rfl) (by omega) (by omega) rfl (place39 (by omega) hy) rfl
  have hR2 := fun (y : Int) (hy : 1000 ≤ y ∧ y ≤ 1039) => nm_back (k := k) (a := a) (p := p) hk2 y hy
  have hZe : ∀ y : Int, 1000 ≤ y ∧ y ≤ 1039 → nmZ k a p y = nmZ k a p 1000 := fun y hy => by
    have := nm_eq (k := k) (a := a) (p := p) (j := (y - 1000).toNat) hk2 (by omega) (by omega) (by omega)
    rw [show 1000 + ((y - 1000).toNat : Int) = y by omega] at this
    exact this
  have hT := fun W (y : Int) (hy : 1000 ≤ y ∧ y ≤ 1039) => Frame_any (k : Int) 9 3221225985 9 y 16 [] none 0 0 k W (Rd.nil _ _ _ _) (Nat.le_refl _) (by omega) (by omega) (by omega) (by omega) (by omega) (modk k (by omega)) (by omega)
  unfold Gives at hT
  have hTb : ∀ y : Int, 28 ≤ (nmT k y).length ∧ (nmT k y).length ≤ 130 := fun y => frame_bd (by simp)
  replace hT : ∀ W (y : Int) (hy : 1000 ≤ y ∧ y ≤ 1039), Calls Tryz.prog 25 #[.agg #[.int .i64 (k : Int), .int .u32 9, .int .u32 3221225985, .int .u16 9, .int .u16 y, .int .i64 16, .slice none 0 0]] W fun e w' => ∃ v, e = .returned v ∧ Own .u8 5 w' W.heap.size v (nmT k y) ∧ Below W.heap.size W w' := hT
  have hZl := fun (y : Int) (hy : 1000 ≤ y ∧ y ≤ 1039) (g8 : Bytes8 (nmT k y)) => (frame_again (k := k) (s := 9) (d := 3221225985) (a := 9) (b := y) (f := 16) (l := []) (by omega) (by omega) (by omega) (by omega) (fun x hx => by simp at hx) (by simp) (by omega) false (ou := 167772161 + (a : Int)) (po := 5 + (p : Int)) g8 (by omega) (by omega)).len
  obtain ⟨n1, hn1⟩ : ∃ n, (frameL k (167772161 + (a : Int)) (134744065 + (c : Int)) (5 + (p : Int)) 53 2 ((l.take m).take 40)).length = n := ⟨_, rfl⟩
  rw [hn1] at hfb
  rw [hn1] at hag
  generalize frameL k (167772161 + (a : Int)) (134744065 + (c : Int)) (5 + (p : Int)) 53 2 ((l.take m).take 40) = F at *
  have hX1 := fun g8 y hy => part_src (hag g8 y hy) gotP_err
  have hXl := fun g8 y hy => (hag g8 y hy).len
  clear hag ha hc3 hp hcb hmn hm1 hm2 h8 hn
  simp only [putB_nil, show (cfL 39).ou = 3221225985 from rfl] at hR1
  replace hc := Lib.hid hc
  replace hou := Lib.hid hou
  replace kT := Lib.hid kT
  replace kN := Lib.hid kN
  replace kF := Lib.hid kF
  replace hR1 := Lib.hid hR1
  replace hR2 := Lib.hid hR2
  replace hZe := Lib.hid hZe
  replace hT := Lib.hid hT
  replace hTb := Lib.hid hTb
  replace hZl := Lib.hid hZl
  replace hX1 := Lib.hid hX1
  replace hXl := Lib.hid hXl
  replace hn1 := Lib.hid hn1
  replace hr := Lib.hid hr
  go_enter Tryz.func9, Tryz.ntmps9
  go_upto_region 1 with fail
  have ba := (Blk.new w 24 #[.bool out, .int .i64 wt, .int .i64 wo, .int .i64 po, .int .i64 f, .slice A len cap, .int .i64 be, .int .u8 by_, .int .i64 ti]).alloc (.cells #[.int .i64 x0, .int .i64 x1] 64)
  have bp := Blk.new (w.alloc (.cells #[.bool out, .int .i64 wt, .int .i64 wo, .int .i64 po, .int .i64 f, .slice A len cap, .int .i64 be, .int .u8 by_, .int .i64 ti] 24)) 64 #[.int .i64 x0, .int .i64 x1]
  rw [show (w.alloc (.cells #[.bool out, .int .i64 wt, .int .i64 wo, .int .i64 po, .int .i64 f, .slice A len cap, .int .i64 be, .int .u8 by_, .int .i64 ti] 24)).heap.size = w.heap.size + 1 by simp] at bp
  have bel : Below w.heap.size w ((w.alloc (.cells #[.bool out, .int .i64 wt, .int .i64 wo, .int .i64 po, .int .i64 f, .slice A len cap, .int .i64 be, .int .u8 by_, .int .i64 ti] 24)).alloc (.cells #[.int .i64 x0, .int .i64 x1] 64)) := (bel_alloc _ _).alloc (by simp) _
  generalize (w.alloc (.cells #[.bool out, .int .i64 wt, .int .i64 wo, .int .i64 po, .int .i64 f, .slice A len cap, .int .i64 be, .int .u8 by_, .int .i64 ti] 24)).alloc (.cells #[.int .i64 x0, .int .i64 x1] 64) = W at *
  have c0 := ba.cell 0
  have c1 := ba.cell 1
  have c4 := ba.cell 4
  have c7 := ba.cell 7
  have f0 := ba.frozen 0
  have f1 := ba.frozen 1
  have f4 := ba.frozen 4
  have f7 := ba.frozen 7
  have bs := ((((ba.set_ 0 (.bool true)).set_ 7 (.int .u8 0)).set_ 4 (.int .i64 2)).set_ 1 (.int .i64 (k : Int)))
  have hu := ((((Upd.refl (fun j => j = w.heap.size) W).setCell (p := ⟨w.heap.size, 0, none⟩) (fun _ => rfl) (.bool true)).setCell (p := ⟨w.heap.size, 7, none⟩) (fun _ => rfl) (.int .u8 0)).setCell (p := ⟨w.heap.size, 4, none⟩) (fun _ => rfl) (.int .i64 2)).setCell (p := ⟨w.heap.size, 1, none⟩) (fun _ => rfl) (.int .i64 (k : Int))
  go_upto_region 2 with fail
  generalize (((W.setCell ⟨w.heap.size, 0, none⟩ (.bool true)).setCell ⟨w.heap.size, 7, none⟩ (.int .u8 0)).setCell ⟨w.heap.size, 4, none⟩ (.int .i64 2)).setCell ⟨w.heap.size, 1, none⟩ (.int .i64 (k : Int)) = W1 at *
  replace bs : Blk W1 w.heap.size 24 #[.bool true, .int .i64 (k : Int), .int .i64 wo, .int .i64 po, .int .i64 2, .slice A len cap, .int .i64 be, .int .u8 0, .int .i64 ti] := bs
  replace bp := bp.upd hu (show ¬ (w.heap.size + 1 = w.heap.size) by omega)
  replace bel := bel.trans (hu.below bel.size (fun j hj e => by omega))
  clear c0 c1 c4 c7 f0 f1 f4 f7 hu ba hkv
  go_wp2_with fail
  refine (Config39 _).mono ?_
  rintro e w1 ⟨rfl, hb⟩
  replace bs := bs.bel hb
  replace bp := bp.bel hb
  replace bel := bel_after bel hb
  clear hb
  have bc := (Blk.new w1 27 #[.int .i64 0, .int .u32 0, .int .i64 0, .int .i64 0, .int .i64 0, .int .i64 0]).setRow #[.int .i64 1, .int .u32 3221225985, .int .i64 1000, .int .i64 1039, .int .i64 2, .int .i64 4]
  have hbK : Below w1.heap.size w1 ((w1.alloc (.cells #[.int .i64 0, .int .u32 0, .int .i64 0, .int .i64 0, .int .i64 0, .int .i64 0] 27)).setRow w1.heap.size #[.int .i64 1, .int .u32 3221225985, .int .i64 1000, .int .i64 1039, .int .i64 2, .int .i64 4]) := below_setRow (bel_alloc _ _) (Nat.le_refl _) _
  go_upto_region 3 with (refine wpList_stRow rfl rfl rfl rfl rfl (Blk.new w1 _ _) c14_size rfl (by simp [Value.oneCell']) ?_; generalize (w1.alloc (.cells #[.int .i64 0, .int .u32 0, .int .i64 0, .int .i64 0, .int .i64 0, .int .i64 0] 27)).setRow w1.heap.size #[.int .i64 1, .int .u32 3221225985, .int .i64 1000, .int .i64 1039, .int .i64 2, .int .i64 4] = W2 at *)
  replace bs := bs.bel hbK
  replace bp := bp.bel hbK
  replace bel := bel_after bel hbK
  clear hbK
  generalize w1.heap.size = gc at *
  have p0 := bp.cell 0
  have p1 := bp.cell 1
  have bk := ((Blk.new W2 64 #[.int .i64 (1000 + (q0 : Int)), .int .i64 (1000 + (q1 : Int))]).alloc (.cells #[.string ⟨#[]⟩, .string ⟨#[]⟩] 89)).alloc (.cells #[.slice none 0 0, .slice none 0 0] 90)
  have bo := (Blk.new (W2.alloc (.cells #[.int .i64 (1000 + (q0 : Int)), .int .i64 (1000 + (q1 : Int))] 64)) 89 #[.string ⟨#[]⟩, .string ⟨#[]⟩]).alloc (.cells #[.slice none 0 0, .slice none 0 0] 90)
  have bl := Blk.new ((W2.alloc (.cells #[.int .i64 (1000 + (q0 : Int)), .int .i64 (1000 + (q1 : Int))] 64)).alloc (.cells #[.string ⟨#[]⟩, .string ⟨#[]⟩] 89)) 90 #[.slice none 0 0, .slice none 0 0]
  have hbK : Below W2.heap.size W2 (((W2.alloc (.cells #[.int .i64 (1000 + (q0 : Int)), .int .i64 (1000 + (q1 : Int))] 64)).alloc (.cells #[.string ⟨#[]⟩, .string ⟨#[]⟩] 89)).alloc (.cells #[.slice none 0 0, .slice none 0 0] 90)) := ((bel_alloc _ _).alloc (by simp) _).alloc (by simp; omega) _
  rw [show (W2.alloc (.cells #[.int .i64 (1000 + (q0 : Int)), .int .i64 (1000 + (q1 : Int))] 64)).heap.size = W2.heap.size + 1 by simp] at bo
  rw [show ((W2.alloc (.cells #[.int .i64 (1000 + (q0 : Int)), .int .i64 (1000 + (q1 : Int))] 64)).alloc (.cells #[.string ⟨#[]⟩, .string ⟨#[]⟩] 89)).heap.size = W2.heap.size + 1 + 1 by simp] at bl
  go_upto_region 6 with fail
  generalize ((W2.alloc (.cells #[.int .i64 (1000 + (q0 : Int)), .int .i64 (1000 + (q1 : Int))] 64)).alloc (.cells #[.string ⟨#[]⟩, .string ⟨#[]⟩] 89)).alloc (.cells #[.slice none 0 0, .slice none 0 0] 90) = W3 at *
  replace bs := bs.bel hbK
  replace bc := bc.bel hbK
  have hgk : w.heap.size ≤ W2.heap.size := bel.size
  replace bel := bel_after bel hbK
  clear hbK p0 p1 bp hq0v hq1v
  generalize W2.heap.size = gk at *
  go_wp2_with fail
  go_loopw [9] (fun i wr => ∃ (j : Nat) (so vl : Array Value), j ≤ 2 ∧ i = .int .i64 j ∧ Blk wr w.heap.size 24 #[.bool true, .int .i64 (k : Int), .int .i64 wo, .int .i64 po, .int .i64 2, .slice A len cap, .int .i64 be, .int .u8 0, .int .i64 ti] ∧ Blk wr gc 27 #[.int .i64 1, .int .u32 3221225985, .int .i64 1000, .int .i64 1039, .int .i64 2, .int .i64 4] ∧ Blk wr gk 64 #[.int .i64 (1000 + (q0 : Int)), .int .i64 (1000 + (q1 : Int))] ∧ Blk wr (gk + 1) 89 so ∧ Blk wr (gk + 1 + 1) 90 vl ∧ NmI w wr k a p q0 q1 j so vl ∧ Below w.heap.size w wr) (fun i _ => 2 - (intOf i).toNat)
  case atStart => exact ⟨0, _, _, by omega, rfl, bs, bc, bk, bo, bl, ⟨rfl, rfl, fun j h => by omega, fun j h => by omega, fun h => by omega⟩, bel⟩
  case round =>
    clear bs bc bk bo bl bel
    obtain ⟨j, so, vl, hj, rfl, bs, bc, bk, bo, bl, hI, bel⟩ := hrel
    rcases Nat.lt_or_ge j 2 with hj2 | hj2
    · have d1 : decide ((j : Int) < 2) = true := by simp; omega
      have d2 : decide (j < 2) = true := by simpa using hj2
      obtain ⟨y, hy⟩ : ∃ y, nmY q0 q1 j = y := ⟨_, rfl⟩
      have hyb : 1000 ≤ y ∧ y ≤ 1039 := by rw [← hy]; unfold nmY; split <;> omega
      have hkc : (#[.int .i64 (1000 + (q0 : Int)), .int .i64 (1000 + (q1 : Int))] : Array Value)[j]? = some (.int .i64 y) := by
        rw [← hy]
        have h2 : j = 0 ∨ j = 1 := by omega
        rcases h2 with rfl | rfl <;> rfl
      have hkj := fun w' (h : Blk w' gk 64 #[.int .i64 (1000 + (q0 : Int)), .int .i64 (1000 + (q1 : Int))]) => (h.cell j).trans hkc
      have j0 : (0 : Int) ≤ (j : Int) := by omega
      have j1 : (j : Int) < 2 := by omega
      clear hkc
      go_wp2_with (refine wpList_ldRow rfl rfl rfl bc Tryz.underlying27 c14_size ?_)
      refine (kT.out _).mono ?_
      rintro e w2 ⟨rfl, hb⟩
      go_wp2_with fail
      refine (kN.out _).mono ?_
      intro e w3 hN
      have hb3 := hN.choose_spec.choose_spec.choose_spec.2.2.1
      obtain ⟨gn, pb, fm, rfl, ln⟩ := LN.made hb hN
      have ev : Ev wr w3 (cfL 39) gn pb fm 0 0 [] [(w.heap.size, 24, #[.bool true, .int .i64 (k : Int), .int .i64 wo, .int .i64 po, .int .i64 2, .slice A len cap, .int .i64 be, .int .u8 0, .int .i64 ti]), (gc, 27, #[.int .i64 1, .int .u32 3221225985, .int .i64 1000, .int .i64 1039, .int .i64 2, .int .i64 4]), (gk, 64, #[.int .i64 (1000 + (q0 : Int)), .int .i64 (1000 + (q1 : Int))]), (gk + 1, 89, so), (gk + 1 + 1, 90, vl)] [] :=
        ⟨ln, fun x hx => by
          rcases List.mem_cons.1 hx with rfl | hx
          · exact (bs.bel hb).bel hb3
          rcases List.mem_cons.1 hx with rfl | hx
          · exact (bc.bel hb).bel hb3
          rcases List.mem_cons.1 hx with rfl | hx
          · exact (bk.bel hb).bel hb3
          rcases List.mem_cons.1 hx with rfl | hx
          · exact (bo.bel hb).bel hb3
          rcases List.mem_cons.1 hx with rfl | hx
          · exact (bl.bel hb).bel hb3
          · exact (List.not_mem_nil hx).elim, fun x hx => (List.not_mem_nil hx).elim⟩
      clear hN hb hb3 ln bs bc bk bo bl
      have hb0 := ev.base
      go_upto_region 10 with fail
      have za : ∀ w', (∃ t : Tw (NmC w.heap.size gk #[.bool true, .int .i64 (k : Int), .int .i64 wo, .int .i64 po, .int .i64 2, .slice A len cap, .int .i64 be, .int .u8 0, .int .i64 ti] #[.int .i64 (1000 + (q0 : Int)), .int .i64 (1000 + (q1 : Int))] w3.heap.size), w' = t.w) → Blk w' w.heap.size 24 #[.bool true, .int .i64 (k : Int), .int .i64 wo, .int .i64 po, .int .i64 2, .slice A len cap, .int .i64 be, .int .u8 0, .int .i64 ti] := fun w' ⟨t, ht⟩ => ht ▸ t.h.ba
      have zk : ∀ t : Tw (NmC w.heap.size gk #[.bool true, .int .i64 (k : Int), .int .i64 wo, .int .i64 po, .int .i64 2, .slice A len cap, .int .i64 be, .int .u8 0, .int .i64 ti] #[.int .i64 (1000 + (q0 : Int)), .int .i64 (1000 + (q1 : Int))] w3.heap.size), t.w.cell? ⟨gk, j, none⟩ = some (.int .i64 y) := fun t => hkj _ t.h.bk
      have zz : Nonempty (Tw (NmC w.heap.size gk #[.bool true, .int .i64 (k : Int), .int .i64 wo, .int .i64 po, .int .i64 2, .slice A len cap, .int .i64 be, .int .u8 0, .int .i64 ti] #[.int .i64 (1000 + (q0 : Int)), .int .i64 (1000 + (q1 : Int))] w3.heap.size)) := ⟨⟨_, ev.blk 0 rfl, ev.blk 2 rfl, Nat.le_refl _⟩⟩
      refine wp_region_float (NmC w.heap.size gk #[.bool true, .int .i64 (k : Int), .int .i64 wo, .int .i64 po, .int .i64 2, .slice A len cap, .int .i64 be, .int .u8 0, .int .i64 ti] #[.int .i64 (1000 + (q0 : Int)), .int .i64 (1000 + (q1 : Int))] w3.heap.size) (.cells #[.slice none 0 0, .int .i64 0] 55) w3.heap.size (fun h => .pointer (some ⟨h, 0, none⟩)) 8 _ [(0, true), (1, true), (3, true), (4, true), (5, true), (2, false), (6, true), (7, false)] [(9, false)] (by kernel_rfl) (by kernel_rfl) (by rfl) (by rfl) (by kernel_rfl) (by kernel_rfl) ⟨ev.drew.blk 0 rfl, ev.drew.blk 2 rfl, Nat.le_refl _⟩ (fun w' h => ⟨h.ba.alloc _, h.bk.alloc _, by have := h.sz; simp; omega⟩) (fun w' h => h.sz) (by intro a w; simp [execOp, go_sem]) ?_
      refine wpFl_qs 5 _ _ _ (by kernel_rfl) (by kernel_rfl) (by simp) ?_
      unfold clsS
      simp only [List.take_succ_cons, List.take_zero, List.drop_succ_cons, List.drop_zero, List.filterMap_cons, List.filterMap_nil, List.getElem?_toArray, List.getElem?_cons_zero, List.getElem?_cons_succ]
      repeat (first
        | go_big_quiet_skip
        | (go_big_quiet_want; first | (refine quiet_ldRow rfl rfl za Tryz.underlying24 s15_size ?_; go_simp; go_big_quiet_on) | (go_big_quiet_op; go_big_quiet_on))
        | (refine id (?_ : wpQuiet _ _ _ _ (_ :: _) _); first | go_big_quiet_skip | (go_big_quiet_want; first | (refine quiet_ldRow rfl rfl za Tryz.underlying24 s15_size ?_; go_simp; go_big_quiet_on) | (go_big_quiet_op; go_big_quiet_on))))
      refine wpQuiet_nil ?_
      have evd := ev.drew
      clear ev
      refine wpFl_e (fun W => Ev wr W (cfL 39) gn pb fm 0 0 [] [(w.heap.size, 24, #[.bool true, .int .i64 (k : Int), .int .i64 wo, .int .i64 po, .int .i64 2, .slice A len cap, .int .i64 be, .int .u8 0, .int .i64 ti]), (gc, 27, #[.int .i64 1, .int .u32 3221225985, .int .i64 1000, .int .i64 1039, .int .i64 2, .int .i64 4]), (gk, 64, #[.int .i64 (1000 + (q0 : Int)), .int .i64 (1000 + (q1 : Int))]), (gk + 1, 89, so), (gk + 1 + 1, 90, vl)] []) _ (by rfl) (by kernel_rfl) evd (fun W h => h.bel (bel_alloc _ _)) (fun W4 ev hS4 K hK => ?_)
      clear evd
      go_simp
      refine (kF.out W4 (bel.trans (ev.ln.bel.mono bel.size))).mono ?_
      rintro e W5 ⟨v5, rfl, own5, hb⟩
      obtain ⟨FA, fa, rfl, hfa1, hfa2, _⟩ := own5.form hn1.out
      unfold maxLen at hfa2
      have ev5 := ev.row hb own5
      refine hK _ _ ⟨ev5.blk 0 rfl, ev5.blk 2 rfl, Nat.le_trans hS4.sz hb.size⟩ (KeepO.belA hb) ?_
      clear hK K hb own5 ev hS4
      refine wpFl_qs 1 _ _ _ (by kernel_rfl) (by kernel_rfl) (by simp) ?_
      unfold clsS
      simp only [List.take_succ_cons, List.take_zero, List.drop_succ_cons, List.drop_zero, List.filterMap_cons, List.filterMap_nil, List.getElem?_toArray, List.getElem?_cons_zero, List.getElem?_cons_succ]
      repeat (first
        | go_big_quiet_skip
        | (go_big_quiet_want; go_big_quiet_op; go_big_quiet_on)
        | (refine id (?_ : wpQuiet _ _ _ _ (_ :: _) _); first | go_big_quiet_skip | (go_big_quiet_want; go_big_quiet_op; go_big_quiet_on)))
      refine wpQuiet_nil ?_
      refine wpFl_e (fun W => Ev wr W (cfL 39) gn pb fm 0 0 [] [(w.heap.size, 24, #[.bool true, .int .i64 (k : Int), .int .i64 wo, .int .i64 po, .int .i64 2, .slice A len cap, .int .i64 be, .int .u8 0, .int .i64 ti]), (gc, 27, #[.int .i64 1, .int .u32 3221225985, .int .i64 1000, .int .i64 1039, .int .i64 2, .int .i64 4]), (gk, 64, #[.int .i64 (1000 + (q0 : Int)), .int .i64 (1000 + (q1 : Int))]), (gk + 1, 89, so), (gk + 1 + 1, 90, vl)] [(.slice FA n1 fa, F)]) _ (by rfl) (by kernel_rfl) ev5 (fun W h => h.bel (bel_alloc _ _)) (fun W6 ev hS6 K hK => ?_)
      clear ev5
      have g8 := ev.b8 0 rfl
      have kS := ev.stp hc.out hou.out (by omega) (by omega) true FA n1 fa 1 y F (ev.rd 0 rfl hn1.out) hfa1 (by omega) (by omega) (hR1.out y hyb)
      go_simp
      refine kS.mono ?_
      rintro e W7 ⟨XA, nx, xc, np, nf, rfl, hxn, hxc1, hxc2, ev7, hnp, hnf, hsz, hu⟩
      have hxb : nx ≤ 130 := by
        have h1 : (rwL F true 3221225985 y).length = nx := hxn
        have h2 : ((rwL F true 3221225985 y).length : Int) = (n1 : Int) := hXl.out g8 y hyb
        omega
      refine hK _ _ ⟨ev7.blk 0 rfl, ev7.blk 2 rfl, Nat.le_trans hS6.sz hsz⟩ (fun h hh => ?_) ?_
      · have hlt : h < W6.heap.size := (Array.getElem?_eq_some_iff.1 hh).1
        rw [hu.block h hlt (fun e => ev.ln.nm.notU hh e)]; exact hh
      clear hK K kS hsz hu ev hS6
      unfold wpFl
      refine ⟨fun W => Ev wr W (cfL 39) gn pb fm np nf [⟨⟨carP k, 167772161 + (a : Int), 5 + (p : Int)⟩, y, 0, 1⟩] [(w.heap.size, 24, #[.bool true, .int .i64 (k : Int), .int .i64 wo, .int .i64 po, .int .i64 2, .slice A len cap, .int .i64 be, .int .u8 0, .int .i64 ti]), (gc, 27, #[.int .i64 1, .int .u32 3221225985, .int .i64 1000, .int .i64 1039, .int .i64 2, .int .i64 4]), (gk, 64, #[.int .i64 (1000 + (q0 : Int)), .int .i64 (1000 + (q1 : Int))]), (gk + 1, 89, so), (gk + 1 + 1, 90, vl)] [(.slice XA nx xc, rwL F true 3221225985 y), (.slice FA n1 fa, F)], ev7, fun W h => h.bel (bel_alloc _ _), fun W8 gx ev hS8 hgx hbx => ?_⟩
      clear ev7 za zk zz
      replace hbx : Blk W8 gx 55 #[.slice none 0 0, .int .i64 0] := hbx
      go_simp
      have zz : Nonempty (Tw (NmC w.heap.size gk #[.bool true, .int .i64 (k : Int), .int .i64 wo, .int .i64 po, .int .i64 2, .slice A len cap, .int .i64 be, .int .u8 0, .int .i64 ti] #[.int .i64 (1000 + (q0 : Int)), .int .i64 (1000 + (q1 : Int))] w3.heap.size)) := ⟨⟨_, hS8⟩⟩
      refine wpPl_e _ (by rfl) (by kernel_rfl) (fun K hK => ?_)
      refine wp_stRow rfl rfl rfl rfl hbx an_size rfl (by simp [Value.oneCell']) ?_
      have hdif := ev.far hbx rfl
      have hgx2 : wr.heap.size ≤ gx := by have h1 := ev.base; omega
      have ev2 := ev.fill hbx hdif (by decide) (by decide) hgx2 #[.slice XA nx xc, .int .i64 0]
      refine hK _ _ ⟨ev2.blk 1 rfl, ev2.blk 3 rfl, by have := hS8.sz; simp; omega⟩ ?_
      clear hK K ev hS8 hdif hbx zz
      have ev := ev2
      clear ev2
      unfold wpPl
      refine NoPanic.normal ?_
      generalize W8.setRow gx #[.slice XA nx xc, .int .i64 0] = W9 at *
      have hb9 := ev.base
      have hgx9 := (ev.blk 0 rfl).lt
      go_upto_region 11 with fail
      have hy16 : IntKind.u16.wrap y = y := by rw [IntKind.wrap_u16]; omega
      have zk : ∀ t : Tw (NmC w.heap.size gk #[.bool true, .int .i64 (k : Int), .int .i64 wo, .int .i64 po, .int .i64 2, .slice A len cap, .int .i64 be, .int .u8 0, .int .i64 ti] #[.int .i64 (1000 + (q0 : Int)), .int .i64 (1000 + (q1 : Int))] W9.heap.size), t.w.cell? ⟨gk, j, none⟩ = some (.int .i64 y) := fun t => hkj _ t.h.bk
      have zw : ∀ t : Tw (NmC w.heap.size gk #[.bool true, .int .i64 (k : Int), .int .i64 wo, .int .i64 po, .int .i64 2, .slice A len cap, .int .i64 be, .int .u8 0, .int .i64 ti] #[.int .i64 (1000 + (q0 : Int)), .int .i64 (1000 + (q1 : Int))] W9.heap.size), t.w.cell? ⟨w.heap.size, 1, none⟩ = some (.int .i64 (k : Int)) := fun t => t.h.ba.cell 1
      have zz : Nonempty (Tw (NmC w.heap.size gk #[.bool true, .int .i64 (k : Int), .int .i64 wo, .int .i64 po, .int .i64 2, .slice A len cap, .int .i64 be, .int .u8 0, .int .i64 ti] #[.int .i64 (1000 + (q0 : Int)), .int .i64 (1000 + (q1 : Int))] W9.heap.size)) := ⟨⟨_, ev.blk 1 rfl, ev.blk 3 rfl, Nat.le_refl _⟩⟩
      refine wp_region_float (NmC w.heap.size gk #[.bool true, .int .i64 (k : Int), .int .i64 wo, .int .i64 po, .int .i64 2, .slice A len cap, .int .i64 be, .int .u8 0, .int .i64 ti] #[.int .i64 (1000 + (q0 : Int)), .int .i64 (1000 + (q1 : Int))] W9.heap.size) (.cells #[.slice none 0 0, .int .i64 0] 55) W9.heap.size (fun h => .pointer (some ⟨h, 0, none⟩)) 11 _ [(0, true), (1, true), (2, true), (3, true), (4, true), (5, true), (6, true), (7, true), (8, false), (9, true), (10, false)] [(12, false)] (by kernel_rfl) (by kernel_rfl) (by rfl) (by rfl) (by kernel_rfl) (by kernel_rfl) ⟨ev.drew.blk 1 rfl, ev.drew.blk 3 rfl, Nat.le_refl _⟩ (fun w' h => ⟨h.ba.alloc _, h.bk.alloc _, by have := h.sz; simp; omega⟩) (fun w' h => h.sz) (by intro a w; simp [execOp, go_sem]) ?_
      refine wpFl_qs 8 _ _ _ (by kernel_rfl) (by kernel_rfl) (by simp) ?_
      unfold clsS
      simp only [List.take_succ_cons, List.take_zero, List.drop_succ_cons, List.drop_zero, List.filterMap_cons, List.filterMap_nil, List.getElem?_toArray, List.getElem?_cons_zero, List.getElem?_cons_succ]
      repeat (first
        | go_big_quiet_skip
        | (go_big_quiet_want; go_big_quiet_op; go_big_quiet_on)
        | (refine id (?_ : wpQuiet _ _ _ _ (_ :: _) _); first | go_big_quiet_skip | (go_big_quiet_want; go_big_quiet_op; go_big_quiet_on)))
      refine wpQuiet_nil ?_
      have evd := ev.drew
      clear ev
      refine wpFl_e (fun W => Ev wr W (cfL 39) gn pb fm np nf [⟨⟨carP k, 167772161 + (a : Int), 5 + (p : Int)⟩, y, 0, 1⟩] [(gx, 55, #[.slice XA nx xc, .int .i64 0]), (w.heap.size, 24, #[.bool true, .int .i64 (k : Int), .int .i64 wo, .int .i64 po, .int .i64 2, .slice A len cap, .int .i64 be, .int .u8 0, .int .i64 ti]), (gc, 27, #[.int .i64 1, .int .u32 3221225985, .int .i64 1000, .int .i64 1039, .int .i64 2, .int .i64 4]), (gk, 64, #[.int .i64 (1000 + (q0 : Int)), .int .i64 (1000 + (q1 : Int))]), (gk + 1, 89, so), (gk + 1 + 1, 90, vl)] [(.slice XA nx xc, rwL F true 3221225985 y), (.slice FA n1 fa, F)]) _ (by rfl) (by kernel_rfl) evd (fun W h => h.bel (bel_alloc _ _)) (fun W10 ev hS10 K hK => ?_)
      clear evd
      go_simp
      refine (hT.out W10 y hyb).mono ?_
      rintro e W11 ⟨v11, rfl, own11, hb⟩
      obtain ⟨tn, htn⟩ : ∃ n, (nmT k y).length = n := ⟨_, rfl⟩
      have htb : 28 ≤ tn ∧ tn ≤ 130 := by rw [← htn]; exact hTb.out y
      obtain ⟨TA, tc, rfl, htc1, htc2, _⟩ := own11.form htn
      unfold maxLen at htc2
      have ev11 := ev.row hb own11
      refine hK _ _ ⟨ev11.blk 1 rfl, ev11.blk 3 rfl, Nat.le_trans hS10.sz hb.size⟩ (KeepO.belA hb) ?_
      clear hK K hb own11 ev hS10
      refine wpFl_qs 1 _ _ _ (by kernel_rfl) (by kernel_rfl) (by simp) ?_
      unfold clsS
      simp only [List.take_succ_cons, List.take_zero, List.drop_succ_cons, List.drop_zero, List.filterMap_cons, List.filterMap_nil, List.getElem?_toArray, List.getElem?_cons_zero, List.getElem?_cons_succ]
      repeat (first
        | go_big_quiet_skip
        | (go_big_quiet_want; go_big_quiet_op; go_big_quiet_on)
        | (refine id (?_ : wpQuiet _ _ _ _ (_ :: _) _); first | go_big_quiet_skip | (go_big_quiet_want; go_big_quiet_op; go_big_quiet_on)))
      refine wpQuiet_nil ?_
      refine wpFl_e (fun W => Ev wr W (cfL 39) gn pb fm np nf [⟨⟨carP k, 167772161 + (a : Int), 5 + (p : Int)⟩, y, 0, 1⟩] [(gx, 55, #[.slice XA nx xc, .int .i64 0]), (w.heap.size, 24, #[.bool true, .int .i64 (k : Int), .int .i64 wo, .int .i64 po, .int .i64 2, .slice A len cap, .int .i64 be, .int .u8 0, .int .i64 ti]), (gc, 27, #[.int .i64 1, .int .u32 3221225985, .int .i64 1000, .int .i64 1039, .int .i64 2, .int .i64 4]), (gk, 64, #[.int .i64 (1000 + (q0 : Int)), .int .i64 (1000 + (q1 : Int))]), (gk + 1, 89, so), (gk + 1 + 1, 90, vl)] [(.slice TA tn tc, nmT k y), (.slice XA nx xc, rwL F true 3221225985 y), (.slice FA n1 fa, F)]) _ (by rfl) (by kernel_rfl) ev11 (fun W h => h.bel (bel_alloc _ _)) (fun W12 ev hS12 K hK => ?_)
      clear ev11
      have t8 := ev.b8 0 rfl
      have kS := ev.stp hc.out hou.out (by omega) (by omega) false TA tn tc 2 0 (nmT k y) (ev.rd 0 rfl htn) htc1 (by omega) (by omega) (hR2.out y hyb)
      go_simp
      refine kS.mono ?_
      rintro e W13 ⟨ZA, nz, zc, np2, nf2, rfl, hzn, hzc1, hzc2, ev13, hnp2, hnf2, hsz, hu⟩
      have hzb : nz ≤ 130 ∧ 28 ≤ nz := by
        have h1 : (nmZ k a p y).length = nz := hzn
        have h2 : ((nmZ k a p y).length : Int) = ((nmT k y).length : Int) := hZl.out y hyb t8
        omega
      refine hK _ _ ⟨ev13.blk 1 rfl, ev13.blk 3 rfl, Nat.le_trans hS12.sz hsz⟩ (fun h hh => ?_) ?_
      · have hlt : h < W12.heap.size := (Array.getElem?_eq_some_iff.1 hh).1
        rw [hu.block h hlt (fun e => ev.ln.nm.notU hh e)]; exact hh
      clear hK K kS hsz hu ev hS12
      unfold wpFl
      refine ⟨fun W => Ev wr W (cfL 39) gn pb fm np2 nf2 [nmB k a p y] [(gx, 55, #[.slice XA nx xc, .int .i64 0]), (w.heap.size, 24, #[.bool true, .int .i64 (k : Int), .int .i64 wo, .int .i64 po, .int .i64 2, .slice A len cap, .int .i64 be, .int .u8 0, .int .i64 ti]), (gc, 27, #[.int .i64 1, .int .u32 3221225985, .int .i64 1000, .int .i64 1039, .int .i64 2, .int .i64 4]), (gk, 64, #[.int .i64 (1000 + (q0 : Int)), .int .i64 (1000 + (q1 : Int))]), (gk + 1, 89, so), (gk + 1 + 1, 90, vl)] [(.slice ZA nz zc, nmZ k a p y), (.slice TA tn tc, nmT k y), (.slice XA nx xc, rwL F true 3221225985 y), (.slice FA n1 fa, F)], ev13, fun W h => h.bel (bel_alloc _ _), fun W14 gy ev hS14 hgy hby => ?_⟩
      clear ev13 zk zw zz
      replace hby : Blk W14 gy 55 #[.slice none 0 0, .int .i64 0] := hby
      go_simp
      have zz : Nonempty (Tw (NmC w.heap.size gk #[.bool true, .int .i64 (k : Int), .int .i64 wo, .int .i64 po, .int .i64 2, .slice A len cap, .int .i64 be, .int .u8 0, .int .i64 ti] #[.int .i64 (1000 + (q0 : Int)), .int .i64 (1000 + (q1 : Int))] W9.heap.size)) := ⟨⟨_, hS14⟩⟩
      refine wpPl_e _ (by rfl) (by kernel_rfl) (fun K hK => ?_)
      refine wp_stRow rfl rfl rfl rfl hby an_size rfl (by simp [Value.oneCell']) ?_
      have hdif : ∀ x, x ∈ ([(gx, 55, #[.slice XA nx xc, .int .i64 0]), (w.heap.size, 24, #[.bool true, .int .i64 (k : Int), .int .i64 wo, .int .i64 po, .int .i64 2, .slice A len cap, .int .i64 be, .int .u8 0, .int .i64 ti]), (gc, 27, #[.int .i64 1, .int .u32 3221225985, .int .i64 1000, .int .i64 1039, .int .i64 2, .int .i64 4]), (gk, 64, #[.int .i64 (1000 + (q0 : Int)), .int .i64 (1000 + (q1 : Int))]), (gk + 1, 89, so), (gk + 1 + 1, 90, vl)] : BkL) → x.1 ≠ gy := fun x hx => by
        rcases List.mem_cons.1 hx with rfl | hx
        · show gx ≠ gy; omega
        · exact (ev.sub (fun z hz => List.mem_cons_of_mem _ hz) (fun z hz => hz)).far hby rfl x hx
      have ev2 := ev.fill hby hdif (by decide) (by decide) (by omega) #[.slice ZA nz zc, .int .i64 0]
      refine hK _ _ ⟨ev2.blk 2 rfl, ev2.blk 4 rfl, by have := hS14.sz; simp; omega⟩ ?_
      clear hK K ev hS14 hdif hby zz
      have ev := ev2
      clear ev2
      unfold wpPl
      refine NoPanic.normal ?_
      generalize W14.setRow gy #[.slice ZA nz zc, .int .i64 0] = W15 at *
      obtain ⟨⟨pr, sr, ds, fl, ki, co, er, ⟨i0, i1, i2, i3, i4, i5⟩, pat, bb⟩, hq, hqs, hqe⟩ := hX1.out g8 y hyb
      obtain rfl : y = sr := Eq.symm hqs
      have he' : er = false := hqe
      subst he'
      have kP := rPart_any (rwL F true 3221225985 y) XA nx xc W15 (ev.rd 2 rfl hxn) hxc1 hxc2 (by omega)
      rw [hq] at kP
      unfold PartT at kP
      simp only [Pt.val] at kP
      clear hq hqe
      replace kP := Lib.hid kP
      have z0 := (ev.blk 1 rfl).cell 0
      go_wp2_with fail
      clear z0
      refine kP.out.mono ?_
      rintro e W16 ⟨rfl, hb⟩
      replace ev := (ev.bel hb).new 69 #[.int .i64 0, .int .u16 0, .int .u16 0, .int .i64 0, .int .i64 0, .int .i64 0, .bool false, .int .i64 0, .int .i64 0, .int .i64 0, .int .i64 0, .int .u32 0, .int .u32 0, .int .i64 0, .bool false] #[.int .i64 pr, .int .u16 y, .int .u16 ds, .int .i64 fl, .int .i64 ki, .int .i64 co, .bool false, .int .i64 i0, .int .i64 i1, .int .i64 i2, .int .i64 i3, .int .u32 i4, .int .u32 i5, .int .i64 pat, .bool bb]
      clear hb kP
      go_upto_region 13 with (refine wpList_stRow rfl rfl rfl rfl rfl (Blk.new W16 _ _) rpt_size rfl (by simp [Value.oneCell']) ?_; generalize (W16.alloc (.cells #[.int .i64 0, .int .u16 0, .int .u16 0, .int .i64 0, .int .i64 0, .int .i64 0, .bool false, .int .i64 0, .int .i64 0, .int .i64 0, .int .i64 0, .int .u32 0, .int .u32 0, .int .i64 0, .bool false] 69)).setRow W16.heap.size #[.int .i64 pr, .int .u16 y, .int .u16 ds, .int .i64 fl, .int .i64 ki, .int .i64 co, .bool false, .int .i64 i0, .int .i64 i1, .int .i64 i2, .int .i64 i3, .int .u32 i4, .int .u32 i5, .int .i64 pat, .bool bb] = W17 at *)
      generalize W16.heap.size = gq at *
      have z1 : ∀ t : Tw (fun w' => Below W17.heap.size W17 w'), t.w.cell? ⟨gx, 1, none⟩ = some (.int .i64 0) := fun t => ((ev.bel t.h).blk 2 rfl).cell 1
      have z2 : ∀ t : Tw (fun w' => Below W17.heap.size W17 w'), t.w.cell? ⟨gy, 1, none⟩ = some (.int .i64 0) := fun t => ((ev.bel t.h).blk 1 rfl).cell 1
      have z3 : ∀ t : Tw (fun w' => Below W17.heap.size W17 w'), t.w.cell? ⟨gq, 1, none⟩ = some (.int .u16 y) := fun t => ((ev.bel t.h).blk 0 rfl).cell 1
      have z4 : ∀ t : Tw (fun w' => Below W17.heap.size W17 w'), t.w.cell? ⟨gk, j, none⟩ = some (.int .i64 y) := fun t => hkj _ ((ev.bel t.h).blk 5 rfl)
      have zz : Nonempty (Tw (fun w' => Below W17.heap.size W17 w')) := Up.one W17
      have hyi : IntKind.i64.wrap y = y := by rw [IntKind.wrap_i64]; omega
      refine region_tw (fun w' => Below (W17).heap.size (W17) w') (by kernel_rfl) (by kernel_rfl) (Below.refl _ _).drew ?_
      unfold clsS
      repeat (first
        | go_big_quiet_skip
        | (go_big_quiet_want; go_big_quiet_op; first | go_big_quiet_on | go_big_quiet_call (
          (first 
            | fail
          ))))
      refine wpQuiet_nil ?_
      intro tq
      clear z1 z2 z3 z4 zz hyi
      replace ev := ev.bel tq.h
      generalize tq.w = W18 at *
      clear tq
      obtain ⟨s0, hs0⟩ : ∃ s0, so[j]? = some s0 := ⟨_, Array.getElem?_eq_getElem (by rw [hI.s1]; exact hj2)⟩
      obtain ⟨l0, hl0⟩ : ∃ l0, vl[j]? = some l0 := ⟨_, Array.getElem?_eq_getElem (by rw [hI.s2]; exact hj2)⟩
      have hZy := hZe.out y hyb
      have hny := hy
      replace hZy := Lib.hid hZy
      replace hny := Lib.hid hny
      replace hs0 := Lib.hid hs0
      replace hl0 := Lib.hid hl0
      replace hI := Lib.hid hI
      clear hy
      go_upto_region 15 with fail
      have zrd : ∀ t : Tw (NmD gy #[.slice ZA nz zc, .int .i64 0] wr.heap.size (.slice ZA nz zc) (nmZ k a p y)), t.w.cell? ⟨gy, 0, none⟩ = some (.slice ZA nz zc) := fun t => t.h.bg.cell 0
      have zz : Nonempty (Tw (NmD gy #[.slice ZA nz zc, .int .i64 0] wr.heap.size (.slice ZA nz zc) (nmZ k a p y))) := ⟨⟨_, ev.blk 1 rfl, ev.own 0 rfl⟩⟩
      refine wp_region_plan (NmD gy #[.slice ZA nz zc, .int .i64 0] wr.heap.size (.slice ZA nz zc) (nmZ k a p y)) [(0, true), (1, true), (2, true), (3, true), (4, true), (5, true), (8, true), (6, false), (7, false), (9, false), (10, true), (11, false)] (by kernel_rfl) (by kernel_rfl) (by kernel_rfl) (by kernel_rfl) ⟨ev.drew.blk 1 rfl, ev.drew.own 0 rfl⟩ ?_
      replace ev := ev.drew
      generalize W18.drew = W19 at *
      refine wpPl_qs 7 _ _ _ (by kernel_rfl) (by kernel_rfl) (by simp) ?_
      unfold clsS
      simp only [List.take_succ_cons, List.take_zero, List.drop_succ_cons, List.drop_zero, List.filterMap_cons, List.filterMap_nil, List.getElem?_toArray, List.getElem?_cons_zero, List.getElem?_cons_succ]
      repeat (first
        | go_big_quiet_skip
        | (go_big_quiet_want; first | (refine quiet_convW _ 22 9 rfl 5 Tryz.underlying22 Tryz.underlying5 Tryz.underlying9 ZA nz zc (nmZ k a p y) rfl (fun w' ⟨t, ht⟩ => ht ▸ t.h.ow.rdS hzn) ?_; go_simp; go_big_quiet_on) | (go_big_quiet_op; go_big_quiet_on))
        | (refine id (?_ : wpQuiet _ _ _ _ (_ :: _) _); first | go_big_quiet_skip | (go_big_quiet_want; first | (refine quiet_convW _ 22 9 rfl 5 Tryz.underlying22 Tryz.underlying5 Tryz.underlying9 ZA nz zc (nmZ k a p y) rfl (fun w' ⟨t, ht⟩ => ht ▸ t.h.ow.rdS hzn) ?_; go_simp; go_big_quiet_on) | (go_big_quiet_op; go_big_quiet_on))))
      refine wpQuiet_nil ?_
      clear zrd
      refine wpPl_e _ (by rfl) (by kernel_rfl) (fun K hK => ?_)
      go_simp
      refine (ev.bnd hc.out (by omega)).mono ?_
      rintro e W20 ⟨B1, bc1, rfl, hb1, own20, ev20, hb⟩
      refine hK _ _ ⟨ev20.blk 1 rfl, ev20.own 0 rfl⟩ ?_
      clear hK K ev hb
      have h20 := ev20.base
      refine wpPl_e _ (by rfl) (by kernel_rfl) (fun K hK => ?_)
      go_simp
      refine (from_any [nmB k a p y] B1 1 bc1 W20 (own20.rd BdL_len rfl rfl) hb1 (by omega)).mono ?_
      rintro e W21 ⟨v21, rfl, own21, hb⟩
      obtain ⟨gr, rc, rfl, hrc1, hrc2, hgr, hgl, cur, hgb⟩ := own21.formG (n := 1) rfl (by decide)
      have ev := ev20.bel hb
      refine hK _ _ ⟨ev.blk 1 rfl, ev.own 0 rfl⟩ ?_
      clear hK K ev20 hb own20 hb1
      have bs := ev.blk 3 rfl
      have bc := ev.blk 4 rfl
      have bk := ev.blk 5 rfl
      have bo := ev.blk 6 rfl
      have bl := ev.blk 7 rfl
      have nd : NmD gy #[.slice ZA nz zc, .int .i64 0] wr.heap.size (.slice ZA nz zc) (nmZ k a p y) W21 := ⟨ev.blk 1 rfl, ev.own 0 rfl⟩
      have hbl := ev.ln.bel
      clear ev
      have c1 := (bo.cell j).trans hs0.out
      have f1 := bo.frozen j
      refine wpPl_e _ (by rfl) (by kernel_rfl) (fun K hK => ?_)
      go_simp
      refine hK _ _ (nd.set bo (by decide) (by decide) j _) ?_
      clear hK K c1 f1
      have hne : gk + 1 + 1 ≠ gk + 1 := by omega
      have bl2 := bl.far (p := ⟨gk + 1, j, none⟩) hne (.string (strOfNums (nmZ k a p y)))
      have hu := (Upd.refl (fun z => z = gk + 1 ∨ z = gk + 1 + 1) W21).setCell (p := ⟨gk + 1, j, none⟩) (fun _ => .inl rfl) (.string (strOfNums (nmZ k a p y)))
      have nd2 := nd.set bo (by decide) (by decide) j (.string (strOfNums (nmZ k a p y)))
      have bo2 := bo.set_ j (.string (strOfNums (nmZ k a p y)))
      generalize W21.setCell ⟨gk + 1, j, none⟩ (.string (strOfNums (nmZ k a p y))) = W22 at *
      clear nd
      refine wpPl_qs 1 _ _ _ (by kernel_rfl) (by kernel_rfl) (by simp) ?_
      unfold clsS
      simp only [List.take_succ_cons, List.take_zero, List.drop_succ_cons, List.drop_zero, List.filterMap_cons, List.filterMap_nil, List.getElem?_toArray, List.getElem?_cons_zero, List.getElem?_cons_succ]
      repeat (first
        | go_big_quiet_skip
        | (go_big_quiet_want; go_big_quiet_op; go_big_quiet_on)
        | (refine id (?_ : wpQuiet _ _ _ _ (_ :: _) _); first | go_big_quiet_skip | (go_big_quiet_want; go_big_quiet_op; go_big_quiet_on)))
      refine wpQuiet_nil ?_
      clear zz
      have c1 := (bl2.cell j).trans hl0.out
      have f1 := bl2.frozen j
      refine wpPl_e _ (by rfl) (by kernel_rfl) (fun K hK => ?_)
      go_simp
      refine hK _ _ (nd2.set bl2 (by decide) (by decide) j _) ?_
      clear hK K c1 f1 nd2
      unfold wpPl
      refine NoPanic.normal ?_
      have bo3 := bo2.far (p := ⟨gk + 1 + 1, j, none⟩) (fun e => hne e.symm) (.slice (some ⟨gr, 0, none⟩) 1 rc)
      have bl3 := bl2.set_ j (.slice (some ⟨gr, 0, none⟩) 1 rc)
      replace hu := hu.setCell (p := ⟨gk + 1 + 1, j, none⟩) (fun _ => .inr rfl) (.slice (some ⟨gr, 0, none⟩) 1 rc)
      generalize W22.setCell ⟨gk + 1 + 1, j, none⟩ (.slice (some ⟨gr, 0, none⟩) 1 rc) = W23 at *
      clear bl2 bo2
      have hnS : ∀ (g : Nat) (t : TypeId) (cs : Array Value), Blk W21 g t cs → t ≠ 89 → t ≠ 90 → ¬ (g = gk + 1 ∨ g = gk + 1 + 1) := fun g t cs hb h1 h2 e => by
        rcases e with e | e
        · exact hb.ne_ bo h1 e
        · exact hb.ne_ bl h2 e
      have bs3 := bs.upd hu (hnS _ _ _ bs (by decide) (by decide))
      have bc3 := bc.upd hu (hnS _ _ _ bc (by decide) (by decide))
      have bk3 := bk.upd hu (hnS _ _ _ bk (by decide) (by decide))
      have hwr := bel.size
      have own3 : OwnT BdL 6 92 W23 w.heap.size (.slice (some ⟨gr, 0, none⟩) 1 rc) [nmB k a p y] := (own21.upd hu (fun g hg => by
        simp only [Value.ownBlock, Option.some.injEq] at hg
        subst hg
        exact hnS _ _ _ hgb (by decide) (by decide))).lowerB (by omega)
      have row3 : ∀ (v : Value) (g cv : Nat) (L : List Bd), v = .slice (some ⟨g, 0, none⟩) 1 cv → L.length = 1 → OwnT BdL 6 92 wr w.heap.size v L → OwnT BdL 6 92 W23 w.heap.size v L ∧ g < wr.heap.size := fun v g cv L hv hL ho => by
        have h21 := ho.below hbl
        obtain ⟨g', c', e', _, _, _, hlt, cur', hb'⟩ := h21.formG (n := 1) hL (by decide)
        obtain ⟨g2, c2, e2, _, _, _, hlt2, _⟩ := ho.formG (n := 1) hL (by decide)
        rw [hv] at e' e2
        simp only [Value.slice.injEq, Option.some.injEq, Addr.mk.injEq, and_true, true_and] at e' e2
        refine ⟨h21.upd hu (fun q hq => ?_), by omega⟩
        subst hv
        simp only [Value.ownBlock, Option.some.injEq] at hq
        subst hq
        rw [e'.1]
        exact hnS _ _ _ hb' (by decide) (by decide)
      have hI3 : NmI w W23 k a p q0 q1 (j + 1) (so.setIfInBounds j (.string (strOfNums (nmZ k a p y)))) (vl.setIfInBounds j (.slice (some ⟨gr, 0, none⟩) 1 rc)) := by
        have hI' := hI.out
        have g1 : j < so.size := by rw [hI'.s1]; exact hj2
        have g2 : j < vl.size := by rw [hI'.s2]; exact hj2
        refine ⟨by simp [hI'.s1], by simp [hI'.s2], fun i hi => ?_, fun i hi => ?_, fun h2 g c' g' c'' e1 e2 => ?_⟩
        · by_cases hij : i = j
          · subst hij
            rw [Array.getElem?_setIfInBounds_self_of_lt g1, hZy.out]
          · rw [Array.getElem?_setIfInBounds_ne (fun e => hij e.symm)]
            exact hI'.st i (by omega)
        · by_cases hij : i = j
          · subst hij
            refine ⟨gr, rc, Array.getElem?_setIfInBounds_self_of_lt g2, hrc1, hrc2, ?_⟩
            rw [hny.out]
            exact own3
          · rw [Array.getElem?_setIfInBounds_ne (fun e => hij e.symm)]
            obtain ⟨g, cv, h1, h2, h3, h4⟩ := hI'.row i (by omega)
            exact ⟨g, cv, h1, h2, h3, (row3 _ g cv _ rfl rfl h4).1⟩
        · obtain rfl : j = 1 := by omega
          rw [Array.getElem?_setIfInBounds_ne (by decide)] at e1
          rw [Array.getElem?_setIfInBounds_self_of_lt g2] at e2
          obtain ⟨g3, cv, h1, _, _, h4⟩ := hI'.row 0 (by omega)
          have h5 := (row3 _ g3 cv _ rfl rfl h4).2
          rw [h1] at e1
          simp only [Option.some.injEq, Value.slice.injEq, Addr.mk.injEq, and_true, true_and] at e1 e2
          omega
      have bel3 : Below w.heap.size w W23 := (bel.trans (hbl.mono hwr)).trans (hu.below (by have := hbl.size; omega) (fun z hz e => by omega))
      clear row3 own3 hnS hu bo bl bs bc bk bel hbl own21 hgb hI
      go_wp2_with fail
      go_roundw
      case rel => exact ⟨j + 1, _, _, by omega, by go_num, bs3, bc3, bk3, bo3, bl3, hI3, bel3⟩
      case measure => simp [intOf]; omega
    · obtain rfl : j = 2 := by omega
      clear kT kN kF hT hTb hR1 hR2 hXl hX1 hZl hn1 hr bs bc bk
      have hst := hI.st 0 (by omega)
      have hst1 := hI.st 1 (by omega)
      obtain ⟨g, r1, hv0, hr1, hr2, ow0⟩ := hI.row 0 (by omega)
      obtain ⟨g2, r2, hv1, hr3, hr4, ow1⟩ := hI.row 1 (by omega)
      have hgg : g ≠ g2 := hI.dif (by omega) g r1 g2 r2 hv0 hv1
      have c0 := (bl.cell 0).trans hv0
      have c1 := (bl.cell 1).trans hv1
      have d1 : decide ((2 : Int) < 2) = false := by decide
      clear hI
      generalize nmY q0 q1 0 = y0 at *
      generalize nmY q0 q1 1 = y1 at *
      have ho0 : OwnT BdL 6 92 wr w.heap.size (.slice (some ⟨g, 0, none⟩) 1 r1) [nmB k a p y0] := ow0
      obtain ⟨g', r1', e0, _, _, hg0, hgl0, cur0, hb0⟩ := ho0.formG (n := 1) rfl (by decide)
      simp only [Value.slice.injEq, Option.some.injEq, Addr.mk.injEq, and_true, true_and] at e0
      obtain ⟨rfl, rfl⟩ := e0
      obtain ⟨g2', r2', e1, _, _, hg1, hgl1, cur1, hb1⟩ := ow1.formG (n := 1) rfl (by decide)
      simp only [Value.slice.injEq, Option.some.injEq, Addr.mk.injEq, and_true, true_and] at e1
      obtain ⟨rfl, rfl⟩ := e1
      have bb0 : Blk wr g 92 cur0 := hb0
      have bb1 : Blk wr g2 92 cur1 := hb1
      have q3 : wr.cell? ⟨g2, 3, none⟩ = some (.int .i64 y1) := by
        have := ow1.at_ (cs := BdL) BdL_len (j := 0) (x := nmB k a p y1) rfl (f := 3) (u := .int .i64 y1) rfl
        rwa [show 0 * 6 + 3 = 3 from rfl] at this
      have s3 : wr.cell? ⟨g, 3, none⟩ = some (.int .i64 y0) := by
        have := ho0.at_ (cs := BdL) BdL_len (j := 0) (x := nmB k a p y0) rfl (f := 3) (u := .int .i64 y0) rfl
        rwa [show 0 * 6 + 3 = 3 from rfl] at this
      have fz := bb0.frozen 3
      have hu := ((Upd.refl (· = g) wr).setCell (p := ⟨g, 3, none⟩) (fun _ => rfl) (.int .i64 y1)).drew
      have hcs : (wr.setCell ⟨g, 3, none⟩ (.int .i64 y1)).drew.cell? ⟨g, 3, none⟩ = some (.int .i64 y1) := World.cell?_setCell_same wr _ _ s3
      have hco : ∀ o, o ≠ 3 → (wr.setCell ⟨g, 3, none⟩ (.int .i64 y1)).drew.cell? ⟨g, o, none⟩ = wr.cell? ⟨g, o, none⟩ := fun o ho => World.cell?_setCell_other wr _ _ _ (fun e => by simp at e)
      replace ho0 := Lib.hid ho0
      replace ow1 := Lib.hid ow1
      go_upto_region 18 with fail
      go_region
      generalize (wr.setCell ⟨g, 3, none⟩ (.int .i64 y1)).drew = W5 at *
      clear c0 c1 q3 s3 fz
      have hsz := hu.size
      have ra : RdT BdL 6 W5 W5.heap.size (some ⟨g, 0, none⟩) 1 [nmB k a p y1] := ⟨rfl, fun _ => ⟨g, 0, rfl, by omega, fun j x hj f u hu' => by
        match j with
        | j + 1 => simp at hj
        | 0 =>
          simp only [List.getElem?_cons_zero, Option.some.injEq] at hj
          subst hj
          by_cases hf : f = 3
          · subst hf
            have : u = .int .i64 y1 := by simpa [BdL, nmB] using hu'.symm
            rw [this]
            exact hcs
          · rw [show 0 + 0 * 6 + f = f by omega, hco f hf]
            have h1 := ho0.out.at_ (cs := BdL) BdL_len (j := 0) (x := nmB k a p y0) rfl (f := f) (u := u) (by
              have h2 : f = 0 ∨ f = 1 ∨ f = 2 ∨ f = 4 ∨ f = 5 ∨ 6 ≤ f := by omega
              rcases h2 with rfl | rfl | rfl | rfl | rfl | h2
              · exact hu'
              · exact hu'
              · exact hu'
              · exact hu'
              · exact hu'
              · rw [List.getElem?_eq_none (by rw [BdL_len]; exact h2)] at hu'; cases hu')
            rwa [show 0 * 6 + f = f by omega] at h1⟩⟩
      have rb : RdT BdL 6 W5 W5.heap.size (some ⟨g2, 0, none⟩) 1 [nmB k a p y1] := (ow1.out.upd hu (fun q hq => by
        simp only [Value.ownBlock, Option.some.injEq] at hq
        omega)).rd BdL_len rfl rfl
      have bo5 := bo.upd hu (fun e => bo.ne_ bb0 (by decide) e)
      have bl5 := bl.upd hu (fun e => bl.ne_ bb0 (by decide) e)
      have bel5 : Below w.heap.size w W5 := bel.trans (hu.below bel.size (fun z hz e => by omega))
      clear hcs hco hu bo bl bel bb0 bb1 ho0 ow1 hb0 hb1
      generalize strOfNums (nmZ k a p 1000) = sZ at *
      go_wp2_with fail
      refine (binds_any _).mono ?_
      rintro e W6 ⟨rfl, hb6⟩
      have bo6 := bo5.bel hb6
      have bl6 := bl5.bel hb6
      have z0 := (bl6.cell 0).trans hv0
      have z1 := (bl6.cell 1).trans hv1
      clear bo5 bl5 bl6
      replace ra := Lib.hid ((ra.below hb6).more hb6.size)
      replace rb := Lib.hid ((rb.below hb6).more hb6.size)
      go_wp2_with fail
      refine (Same_yes [nmB k a p y1] _ _ 1 r1 r2 W6 ra.out rb.out (by omega)).mono ?_
      rintro e W7 ⟨rfl, hb7⟩
      have z2 := ((bo6.bel hb7).cell 0).trans hst
      have z3 := ((bo6.bel hb7).cell 1).trans hst1
      clear z0 z1
      go_wp2_with fail
      go_ret
      exact ⟨rfl, bel_after (bel_after bel5 hb6) hb7⟩
theorem arr2n {cs : Array Value} {x0 x1 : Value} (h : cs.size = 2) (h0 : cs.toList[0]? = some x0) (h1 : cs.toList[1]? = some x1) : cs = #[x0, x1] := by
  obtain ⟨l⟩ := cs
  match l, h with
  | [y0, y1], _ =>
    simp only [List.getElem?_cons_zero, List.getElem?_cons_succ, Option.some.injEq] at h0 h1
    rw [h0, h1]
theorem arg_two15 {W : World} {v : Value} (h : Arg Tryz.prog W 64 v) : ∃ x y : Int, v = .agg #[.int .i64 x, .int .i64 y] ∧ inr .i64 x := by
  obtain ⟨cs, m, rfl, hs, hf⟩ := arg_array Tryz.underlying64 h
  have hC : Tryz.prog.cellsOf 64 = 2 := by kernel_rfl
  have hCi : Tryz.prog.cellsOf 3 = 1 := by kernel_rfl
  have key : ∀ i, i < 2 → ∃ n, cs.toList[i]? = some (.int .i64 n) ∧ inr .i64 n := by
    intro i hi
    have h1 := hf i hi
    rw [hCi] at h1
    obtain ⟨n, hn, hr⟩ := rdg_int Tryz.underlying3 h1
    refine ⟨n, ?_, hr⟩
    have : ((cs.toList.drop (i * 1)).take 1)[0]? = some (.int .i64 n) := by rw [hn]; rfl
    simpa using this
  obtain ⟨x, hx, hxr⟩ := key 0 (by omega)
  obtain ⟨y, hy, _⟩ := key 1 (by omega)
  exact ⟨x, y, by rw [arr2n (hs.trans hC) hx hy], hxr⟩
theorem ModelNames_args (W : World) (args : Array Value) (hs : args.size = Tryz.f9.params.size) (hA : ∀ (j : Nat) t v, Tryz.f9.params[j]? = some t → args[j]? = some v → Arg Tryz.prog W t v) :
    Calls Tryz.prog 9 args W fun e W' => e = .returned (.bool true) ∧ Below W.heap.size W W' := by
  obtain ⟨v0, v1, rfl⟩ := args2 hs
  obtain ⟨out, wt, wo, po, f, be, by_, ti, A, len, cap, l, rfl, h1, h2, h3, h4⟩ := arg_s15 (hA 0 24 v0 rfl rfl)
  obtain ⟨x, y, rfl, _⟩ := arg_two15 (hA 1 64 v1 rfl rfl)
  unfold maxLen at h3
  exact ModelNames_walk out wt wo po f be by_ ti x y A len cap l W h4 h2 (by omega)

set_option maxRecDepth 100000 in
theorem ModelNames_lifted (os : Os) (started : os.Started) (H : Type) (enc : TypeId × Value → H) :
    ReturnsInHanded {} Tryz.checked os 9 .any (Rows.modelNamesSpec.pre6 enc Tryz.prog Tryz.f9 Rows.modelNamesRow.domain false) (Rows.modelNamesSpec.post enc Tryz.prog Tryz.f9 false true false false) :=
  law_lifted os started H enc (by kernel_rfl) Tryz.func9 rfl rfl (fun H ds h => by match ds, h with | [_, _], _ => exact ⟨rfl, rfl, rfl⟩) (by kernel_rfl)
    (ChangeSpec.witness6 (enc := enc) (C := Tryz.checked) false ⟨#[], #[.agg #[.bool false, .int .i64 0, .int .i64 0, .int .i64 0, .int .i64 0, .slice none 0 0, .int .i64 0, .int .u8 0, .int .i64 0], .agg #[.int .i64 0, .int .i64 0]], []⟩ 8 (by kernel_rfl) (by kernel_rfl) (by kernel_rfl) (by kernel_rfl))
    ModelNames_args

theorem modelNames_holds : Rows.ModelNamesSaid :=
  OpenClaim.holds_of_wide 9 Tryz.f9 rfl rfl rfl rfl rfl rfl rfl ⟨rfl, rfl, rfl, rfl, rfl⟩ rfl rfl rfl rfl rfl (by kernel_rfl) Tryz.func9 (by kernel_rfl)
    (of_decide_eq_true (by kernel_rfl)) (by unfold Func.isWrapper; first | (rw [if_pos (by decide +kernel)]; kernel_rfl) | (rw [if_neg (by decide +kernel)]; exact ⟨rfl, rfl⟩))
    (fun os started H enc _ => ModelNames_lifted os started H enc)

end Go.Proofs.YtbckoohljkmahaaGreat
