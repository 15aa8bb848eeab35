/- Every input of FanlightThere answers true, and reads behind the call as it read before. No condition. -/
import Derived.Test.YtgfjdnbejmmckaaRewAll4
import Derived.Test.YtgfjdnbejmmckaaRewAll3
import Derived.Test.YtgfjdnbejmmckaaPart24
import Derived.Test.YtgfjdnbejmmckaaPart25
import Derived.Test.YtgfjdnbejmmckaaPartFacts4
import Derived.Lib.SlBytesConst
namespace Go.Proofs.Ytgfjdnbejmmckaa
set_option linter.unusedVariables false
set_option linter.unusedSimpArgs false
open Go.RowKit
theorem own_b8 {e : TypeId} {w : World} {base : Nat} {v : Value} {l : List Int} (h : Own .u8 e w base v l) : Bytes8 l := fun x hx => inr_u8 (h.rng x hx)
set_option maxRecDepth 100000 in
set_option maxHeartbeats 2000000 in
theorem stands_any (w : World) :
    Calls Try.prog 6 #[] w fun e w' => e = .returned (.bool true) ∧ Below w.heap.size w w' := by
  have hb8 : Bytes8 [104, 105] := fun x hx => by simp at hx; omega
  obtain ⟨C, hC⟩ : ∃ C, C = udpL 1 2 5 53 [104, 105] := ⟨_, rfl⟩
  have hCl : C.length = 10 := by rw [hC, udpL_len]; rfl
  have hget := life_get (t := 9) (P := 17) (s := 1) (d := 2) (l := C) (by omega) (by omega) (by omega) (by omega) (by omega)
  have hR := lifeR 9 17 1 2 C
  obtain ⟨X, hX⟩ : ∃ X, X = putL 9 17 1 2 C := ⟨_, rfl⟩
  have hXl : X.length = 30 := by rw [hX, put_len, hCl]
  rw [← hX, hXl] at hget hR
  have hgot : getX 17 ⟨20, ((30 : Nat) : Int), 9, 17, 1, 2⟩ C = (0, gotP 0 5 53 0) := by rw [hC]; exact car_got (s := 1) (d := 2) (by omega) (by omega) (by omega) (by omega) hb8 rfl rfl 0 (by omega)
  rw [hgot] at hR
  have hput := fun W A c (ho : Rd .u8 W W.heap.size A 10 C) => Put_any 0 0 9 17 1 2 C A 10 c _ W ho (Nat.le_refl _) (by omega) (by omega) (by omega) (by omega) (by omega)
  unfold PutRes at hput
  simp only [← hX] at hput
  have hudp := fun W A (ho : Rd .u8 W W.heap.size A 2 [104, 105]) => pUdp_any 1 2 5 53 [104, 105] A 2 2 _ W ho (Nat.le_refl _) (by omega) (by omega) (by omega) (by omega) (by omega) (by omega)
  unfold Gives at hudp
  simp only [← hC] at hudp
  have hpg := fun W A c (ho : Rd .u8 W W.heap.size A 30 X) (h1 : 30 ≤ c) (h2 : c ≤ 9223372036854775807) => PGet_any ⟨20, ((30 : Nat) : Int), 9, 17, 1, 2⟩ X A 30 c _ W ho (Nat.le_refl _) h1 h2 (by omega) (by show (0:Int) ≤ 1 ∧ (1:Int) ≤ _; omega) (by show (0:Int) ≤ 2 ∧ (2:Int) ≤ _; omega)
  rw [hR] at hpg
  simp only [Tells, Pt.val, Hd.val, gotP, Pt.z, Hd.z, if_true] at hpg
  clear hR hgot hX hC hb8
  replace hCl := Lib.hid hCl
  replace hXl := Lib.hid hXl
  replace hget := Lib.hid hget
  replace hput := Lib.hid hput
  replace hudp := Lib.hid hudp
  replace hpg := Lib.hid hpg
  go_enter Try.func6, Try.ntmps6
  have hcv := Lib.run_convert_bytes_const (P := Try.prog) w 24 5 #[.int .u8 104, .int .u8 105] 2 2 Try.underlying24 Try.underlying5
  rw [show (#[Value.int .u8 104, Value.int .u8 105] : Array Value).size = 2 from rfl] at hcv
  have rd0 := Rd.newF .u8 w 5 (2, 2 + 1) [104, 105] (fun x hx => by simp at hx; exact u8_inr (by omega)) #[.int .u8 104, .int .u8 105] rfl 2 rfl
  rw [show w.heap.size + 1 = (w.alloc (.cells #[.int .u8 104, .int .u8 105] 5 (2, 2 + 1))).heap.size by simp] at rd0
  have bel := bel_alloc w (.cells #[.int .u8 104, .int .u8 105] 5 (2, 2 + 1))
  go_wp2_with fail
  refine (hudp.out _ _ rd0).mono ?_
  rintro e w1 ⟨v1, rfl, own1, bel1⟩
  replace own1 := own1.mono_ bel.size
  replace bel := bel_after bel bel1
  clear bel1 rd0
  obtain ⟨A1, c1, rfl, hc1, hc2, rd1⟩ := own1.form hCl.out
  clear own1
  go_wp2_with fail
  refine (hput.out _ _ _ rd1).mono ?_
  rintro e w2 ⟨v2, rfl, own2, bel2⟩
  replace own2 := own2.mono_ bel.size
  replace bel := bel_after bel bel2
  clear bel2 rd1 hc1 hc2
  obtain ⟨g, c2, rfl, hc1, hc2, hg1, hg2⟩ := own2.formG hXl.out (by omega)
  unfold maxLen at hc2
  have hge := Get_any X (some ⟨g, 0, none⟩) 30 c2 _ w2 (own2.rd hXl.out) (Nat.le_refl _) hc1 (by omega) (by omega)
  rw [hget.out.1, hget.out.2] at hge
  simp only [Hd.val] at hge
  replace hge := Lib.hid hge
  go_wp2_with fail
  refine hge.out.mono ?_
  rintro e w3 ⟨rfl, hb3⟩
  replace own2 := own2.below hb3
  replace bel := bel_after bel hb3
  clear hb3 hge hget
  have hgl : g < w3.heap.size := (own2.lt g rfl).2
  have bh := (Blk.new w3 35 #[.int .i64 0, .int .i64 0, .int .i64 0, .int .i64 0, .int .u32 0, .int .u32 0]).setRow #[.int .i64 20, .int .i64 30, .int .i64 9, .int .i64 17, .int .u32 1, .int .u32 2]
  replace own2 := (own2.alloc (.cells #[.int .i64 0, .int .i64 0, .int .i64 0, .int .i64 0, .int .u32 0, .int .u32 0] 35)).upd (Upd.row (w3.alloc (.cells #[.int .i64 0, .int .i64 0, .int .i64 0, .int .i64 0, .int .u32 0, .int .u32 0] 35)) w3.heap.size #[.int .i64 20, .int .i64 30, .int .i64 9, .int .i64 17, .int .u32 1, .int .u32 2]) (by intro x hx e; simp [Value.ownBlock] at hx; omega)
  replace bel := below_setRow (bel.alloc bel.size (.cells #[.int .i64 0, .int .i64 0, .int .i64 0, .int .i64 0, .int .u32 0, .int .u32 0] 35)) bel.size #[.int .i64 20, .int .i64 30, .int .i64 9, .int .i64 17, .int .u32 1, .int .u32 2]
  go_wp2_with (first
    | (refine wpList_stRow rfl rfl rfl rfl rfl (Blk.new w3 _ _) hd_size rfl (by simp [Value.oneCell']) ?_; generalize (w3.alloc (.cells #[.int .i64 0, .int .i64 0, .int .i64 0, .int .i64 0, .int .u32 0, .int .u32 0] 35)).setRow w3.heap.size #[.int .i64 20, .int .i64 30, .int .i64 9, .int .i64 17, .int .u32 1, .int .u32 2] = W3 at *; generalize w3.heap.size = g3 at *)
    | (refine wpList_ldRow rfl rfl rfl bh Try.underlying35 hd_size ?_))
  refine (hpg.out _ _ _ (own2.rd hXl.out) hc1 (by omega)).mono ?_
  rintro e w4 ⟨rfl, hb4⟩
  replace bh := bh.bel hb4
  replace bel := bel_after bel hb4
  clear hb4 own2
  have hgl3 := bh.lt
  have bp := (Blk.new w4 39 #[.int .i64 0, .int .u16 0, .int .u16 0, .int .i64 0, .int .i64 0, .int .i64 0, .bool false, .int .i64 0, .int .i64 0, .int .i64 0, .int .i64 0, .int .u32 0, .int .u32 0, .int .i64 0, .bool false]).setRow #[.int .i64 17, .int .u16 5, .int .u16 53, .int .i64 0, .int .i64 0, .int .i64 0, .bool false, .int .i64 0, .int .i64 0, .int .i64 0, .int .i64 0, .int .u32 0, .int .u32 0, .int .i64 0, .bool false]
  replace bh := (bh.alloc (.cells #[.int .i64 0, .int .u16 0, .int .u16 0, .int .i64 0, .int .i64 0, .int .i64 0, .bool false, .int .i64 0, .int .i64 0, .int .i64 0, .int .i64 0, .int .u32 0, .int .u32 0, .int .i64 0, .bool false] 39)).setRow_far (g' := w4.heap.size) (by omega) #[.int .i64 17, .int .u16 5, .int .u16 53, .int .i64 0, .int .i64 0, .int .i64 0, .bool false, .int .i64 0, .int .i64 0, .int .i64 0, .int .i64 0, .int .u32 0, .int .u32 0, .int .i64 0, .bool false]
  replace bel := below_setRow (bel.alloc bel.size (.cells #[.int .i64 0, .int .u16 0, .int .u16 0, .int .i64 0, .int .i64 0, .int .i64 0, .bool false, .int .i64 0, .int .i64 0, .int .i64 0, .int .i64 0, .int .u32 0, .int .u32 0, .int .i64 0, .bool false] 39)) bel.size #[.int .i64 17, .int .u16 5, .int .u16 53, .int .i64 0, .int .i64 0, .int .i64 0, .bool false, .int .i64 0, .int .i64 0, .int .i64 0, .int .i64 0, .int .u32 0, .int .u32 0, .int .i64 0, .bool false]
  have p1 := bp.cell 1
  have p2 := bp.cell 2
  have h1 := bh.cell 1
  go_wp2_with (refine wpList_stRow rfl rfl rfl rfl rfl (Blk.new w4 _ _) pt_size rfl (by simp [Value.oneCell']) ?_; generalize (w4.alloc (.cells #[.int .i64 0, .int .u16 0, .int .u16 0, .int .i64 0, .int .i64 0, .int .i64 0, .bool false, .int .i64 0, .int .i64 0, .int .i64 0, .int .i64 0, .int .u32 0, .int .u32 0, .int .i64 0, .bool false] 39)).setRow w4.heap.size #[.int .i64 17, .int .u16 5, .int .u16 53, .int .i64 0, .int .i64 0, .int .i64 0, .bool false, .int .i64 0, .int .i64 0, .int .i64 0, .int .i64 0, .int .u32 0, .int .u32 0, .int .i64 0, .bool false] = W4 at *; generalize w4.heap.size = g4 at *)
  go_ret
  exact ⟨rfl, bel⟩
/-- a frame that was rewritten, as it is got -/
structure There (X Y : List Int) (P s d : Int) (p : Pt) (out : Bool) (addr port : Int) : Prop where
  e : rwE X = 0
  g : getE X = 0
  again : ∃ p0, getR (hdOf X) X = (0, p0) ∧ Again X Y (hdOf X) p0 out addr port
  len : Y.length = X.length
  gy : getE Y = 0
  hd : hdIf Y 0 = ⟨20, X.length, 64, P, if out then addr else s, if out then d else addr⟩
  part : getR ⟨20, X.length, 64, P, if out then addr else s, if out then d else addr⟩ Y = (0, p)
theorem there_of_frame {k : Nat} {s d a b f addr port : Int} {l : List Int} (hs : 0 ≤ s ∧ s ≤ 4294967295) (hd : 0 ≤ d ∧ d ≤ 4294967295) (ha : 0 ≤ a ∧ a ≤ 65535) (hb : 0 ≤ b ∧ b ≤ 65535) (hl : Bytes8 l) (hn : l.length ≤ 40) (hk : k < 4) (out : Bool)
    (had : 0 ≤ addr ∧ addr ≤ 4294967295) (hpo : 0 ≤ port ∧ port ≤ 65535) (h8 : Bytes8 (frameL k s d a b f l)) :
    There (frameL k s d a b f l) (rwL (frameL k s d a b f l) out addr port) (carP k) s d (chPorts (gotP k a b f) ((gotP k a b f).proto == 1) out port) out addr port := by
  obtain ⟨f1, f2, f3⟩ := frame_rw (k := k) (f := f) hs hd ha hb hl hn
  have f4 := frame_got (k := k) (f := f) hs hd ha hb hl hk
  have a1 := rw_again h8 f1 out had hpo
  have hR := (rw_ok f1).2
  have e1 : (getR (hdOf (frameL k s d a b f l)) (frameL k s d a b f l)).2 = gotP k a b f := by rw [f3, f4]
  rw [e1] at a1 hR
  have ee : (gotP k a b f).err = false := by unfold gotP; split <;> (try split) <;> rfl
  have hp := a1.part
  have hh := a1.hd
  unfold chP at hp
  rw [if_neg (by simp [ee])] at hp
  have hlen := a1.len
  have hX : (hdOf (frameL k s d a b f l)).len = (frameL k s d a b f l).length := by rw [f3]
  have e2 : chH (hdOf (frameL k s d a b f l)) out addr = ⟨20, (frameL k s d a b f l).length, 64, carP k, if out then addr else s, if out then d else addr⟩ := by rw [f3]; rfl
  rw [e2] at hh
  rw [hh] at hp
  exact ⟨f1, f2, ⟨_, hR, a1⟩, by omega, a1.getE, by rw [← hh]; rfl, hp⟩
theorem got_out {k : Nat} {a b f port : Int} : (chPorts (gotP k a b f) ((gotP k a b f).proto == 1) true port).src = port ∧ (chPorts (gotP k a b f) ((gotP k a b f).proto == 1) true port).dst = (if k < 2 then b else port) := by
  have : k = 0 ∨ k = 1 ∨ 2 ≤ k := by omega
  rcases this with rfl | rfl | h
  · simp [gotP, chPorts, Pt.z]
  · simp [gotP, chPorts, Pt.z]
  · have h1 : k ≠ 0 := by omega
    have h2 : k ≠ 1 := by omega
    have h3 : ¬ k < 2 := by omega
    simp [gotP, chPorts, Pt.z, h1, h2, h3]
theorem got_in {k : Nat} {a b f port : Int} : (chPorts (gotP k a b f) ((gotP k a b f).proto == 1) false port).dst = port ∧ (k < 2 → (chPorts (gotP k a b f) ((gotP k a b f).proto == 1) false port).src = a) := by
  have : k = 0 ∨ k = 1 ∨ 2 ≤ k := by omega
  rcases this with rfl | rfl | h
  · simp [gotP, chPorts, Pt.z]
  · simp [gotP, chPorts, Pt.z]
  · have h1 : k ≠ 0 := by omega
    have h2 : k ≠ 1 := by omega
    exact ⟨by simp [gotP, chPorts, Pt.z, h1, h2], fun h3 => by omega⟩
theorem Unlike_of (A1 A2 : Option Addr) (n1 c1 n2 c2 : Nat) (o : Bool) (x y : Int) (w : World) (h : Calls Try.prog 16 #[.slice A1 n1 c1, .slice A2 n2 c2, .bool o, .int .u32 x, .int .u16 y] w fun e w' => e = .returned (.bool true) ∧ Below w.heap.size w w') :
    Calls Try.prog 7 #[.slice A1 n1 c1, .slice A2 n2 c2, .bool o, .int .u32 x, .int .u16 y] w fun e w' => e = .returned (.int .i64 0) ∧ Below w.heap.size w w' := by
  go_enter Try.func7, Try.ntmps7
  go_wp2_with fail
  refine h.mono ?_
  rintro e w1 ⟨rfl, hb⟩
  go_wp2
  go_ret
  exact ⟨rfl, hb⟩
set_option maxRecDepth 100000 in
set_option maxHeartbeats 8000000 in
theorem FanlightThere_walk (wt s d a b f : Int) (l : List Int) (A : Option Addr) (len cap : Nat) (addr port : Int) (w : World) (hr : Rd .u8 w w.heap.size A len l) (hlc : len ≤ cap) (hcm : cap ≤ maxLen) (hs : 0 ≤ s ∧ s ≤ 4294967295) (hd : 0 ≤ d ∧ d ≤ 4294967295) (ha : 0 ≤ a ∧ a ≤ 65535) (hb : 0 ≤ b ∧ b ≤ 65535)
    (had : 0 ≤ addr ∧ addr ≤ 4294967295) (hpo : 0 ≤ port ∧ port ≤ 65535) :
    Calls Try.prog 3 #[.agg #[.int .i64 wt, .int .u32 s, .int .u32 d, .int .u16 a, .int .u16 b, .int .i64 f, .slice A len cap], .int .u32 addr, .int .u16 port] w fun e w' => e = .returned (.bool true) ∧ Below w.heap.size w w' := by
  unfold maxLen at hcm
  obtain ⟨k, hk, hk3⟩ := modn wt 3 (by omega)
  have hkv : Value.int .u64 ((IntKind.u64.wrap wt).tmod 3) = .int .u64 (k : Int) := by rw [hk]
  have hkb : k < 3 := by omega
  clear hk hk3
  have hl8 : Bytes8 (l.take 40) := fun x hx => inr_u8 (hr.rng x (List.mem_of_mem_take hx))
  have hl40 : (l.take 40).length ≤ 40 := by rw [List.length_take]; omega
  obtain ⟨F, hF⟩ : ∃ F : Int, (if k < 2 then b else port) = F := ⟨_, rfl⟩
  have hFb : 0 ≤ F ∧ F ≤ 65535 := by rw [← hF]; split <;> assumption
  obtain ⟨k2, hk2⟩ : ∃ k2, (if k < 2 then k else 3) = k2 := ⟨_, rfl⟩
  have hk2b : k2 < 4 := by rw [← hk2]; split <;> omega
  have hfr := fun w' (h : Below w.heap.size w w') => Frame_any (k : Int) s d a b f l A len cap k w' ((hr.below h).more h.size) hlc hcm hs hd ha hb (modk k (by omega)) (by omega)
  have hfr2 := fun w' (h : Below w.heap.size w w') => Frame_any (k2 : Int) d addr F port 18 l A len cap k2 w' ((hr.below h).more h.size) hlc hcm hd had hFb hpo (modk k2 (by omega)) (by omega)
  have hT := there_of_frame (k := k) (f := f) hs hd ha hb hl8 hl40 (by omega) true had hpo
  have hT2 := there_of_frame (k := k2) (f := 18) hd had hFb hpo hl8 hl40 hk2b false hs ha
  obtain ⟨p1, p2⟩ := got_out (k := k) (a := a) (b := b) (f := f) (port := port)
  obtain ⟨p3, p4⟩ := got_in (k := k2) (a := F) (b := port) (f := 18) (port := a)
  obtain ⟨f5, f6⟩ := frame_bd (k := k) (s := s) (d := d) (a := a) (b := b) (f := f) hl40
  obtain ⟨f7, f8⟩ := frame_bd (k := k2) (s := d) (d := addr) (a := F) (b := port) (f := 18) hl40
  rw [hF] at p2
  have hFk : k < 2 → F = b := fun h => by rw [← hF, if_pos h]
  have hk22 : k < 2 → k2 = k := fun h => by rw [← hk2, if_pos h]
  have hk23 : ¬ k < 2 → k2 = 3 := fun h => by rw [← hk2, if_neg h]
  clear hF hk2 hl8 hl40
  generalize chPorts (gotP k a b f) _ true port = p at *
  generalize chPorts (gotP k2 F port 18) _ false a = q at *
  generalize carP k = P at *
  generalize carP k2 = P2 at *
  generalize frameL k s d a b f (l.take 40) = X at *
  generalize frameL k2 d addr F port 18 (l.take 40) = X2 at *
  generalize hY : rwL X true addr port = Y at *
  generalize hZ : rwL X2 false s a = Z at *
  obtain ⟨n, hn⟩ : ∃ n, X.length = n := ⟨_, rfl⟩
  obtain ⟨m, hm⟩ : ∃ m, X2.length = m := ⟨_, rfl⟩
  rw [hn] at f5 f6
  rw [hm] at f7 f8
  obtain ⟨pr, sr, ds, fl, ki, co, er, ⟨i0, i1, i2, i3, i4, i5⟩, pa, ba⟩ := p
  obtain ⟨qpr, qsr, qds, qfl, qki, qco, qer, ⟨qi0, qi1, qi2, qi3, qi4, qi5⟩, qpa, qba⟩ := q
  simp only at p1 p2 p3 p4
  replace p1 := p1.symm
  replace p2 := p2.symm
  replace p3 := p3.symm
  subst p1 p2 p3
  replace hfr := Lib.hid hfr
  replace hfr2 := Lib.hid hfr2
  replace hT := Lib.hid hT
  replace hT2 := Lib.hid hT2
  replace p4 := Lib.hid p4
  replace hn := Lib.hid hn
  replace hm := Lib.hid hm
  replace hY := Lib.hid hY
  replace hZ := Lib.hid hZ
  replace hFk := Lib.hid hFk
  replace hk22 := Lib.hid hk22
  replace hk23 := Lib.hid hk23
  clear hr
  go_enter Try.func3, Try.ntmps3
  go_upto_region 1 with fail
  have bn := Blk.new w 26 #[.int .i64 wt, .int .u32 s, .int .u32 d, .int .u16 a, .int .u16 b, .int .i64 f, .slice A len cap]
  have bel := bel_alloc w (.cells #[.int .i64 wt, .int .u32 s, .int .u32 d, .int .u16 a, .int .u16 b, .int .i64 f, .slice A len cap] 26)
  generalize w.alloc (.cells #[.int .i64 wt, .int .u32 s, .int .u32 d, .int .u16 a, .int .u16 b, .int .i64 f, .slice A len cap] 26) = W at *
  have q0 := bn.cell 0
  have q0f := bn.frozen 0
  go_upto_region 2 with fail
  replace bn : Blk (W.setCell ⟨w.heap.size, 0, none⟩ (.int .i64 (k : Int))) w.heap.size 26 #[.int .i64 (k : Int), .int .u32 s, .int .u32 d, .int .u16 a, .int .u16 b, .int .i64 f, .slice A len cap] := bn.set_ 0 (.int .i64 (k : Int))
  replace bel := bel.setCell (p := ⟨w.heap.size, 0, none⟩) (Nat.le_refl _) (.int .i64 (k : Int))
  generalize W.setCell ⟨w.heap.size, 0, none⟩ (.int .i64 (k : Int)) = W1 at *
  clear q0 q0f hkv
  go_wp2_with (refine wpList_ldRow rfl rfl rfl bn Try.underlying26 sn_size ?_)
  refine (hfr.out _ bel).mono ?_
  rintro e w1 ⟨v1, rfl, own1, bel1⟩
  replace bn := bn.bel bel1
  replace own1 := own1.lower bel.size
  replace bel := bel_after bel bel1
  clear bel1 hfr
  obtain ⟨g, c1, rfl, hc1, hc2, hg1, hg2⟩ := own1.formG hn.out (by omega)
  unfold maxLen at hc2
  have th := hT.out (own_b8 own1)
  obtain ⟨p0, hR0, ag⟩ := th.again
  have hYl : Y.length = n := th.len.trans hn.out
  have ho := fun W (ho : Own .u8 5 W w.heap.size (.slice (some ⟨g, 0, none⟩) n c1) X) => RwOut_any X (some ⟨g, 0, none⟩) n c1 W.heap.size addr port W (ho.rd hn.out) (Nat.le_refl _) hc1 (by omega) (by omega) had hpo
  rw [th.e, hY.out] at ho
  have hu := fun ga ca W (h1 : Own .u8 5 W w.heap.size (.slice (some ⟨g, 0, none⟩) n c1) X) (h2 : Rd .u8 W W.heap.size (some ⟨ga, 0, none⟩) n Y) (hc : n ≤ ca) (hm : ca ≤ 9223372036854775807) => Unlike_of (some ⟨g, 0, none⟩) (some ⟨ga, 0, none⟩) n c1 n ca true addr port W (same_yes X Y (some ⟨g, 0, none⟩) (some ⟨ga, 0, none⟩) n c1 n ca W (h1.rd hn.out) h2 hc1 (by omega) hc hm (by omega) p0 true addr port th.g hR0 ag)
  have hge := fun ga ca W (h2 : Rd .u8 W W.heap.size (some ⟨ga, 0, none⟩) n Y) (hc : n ≤ ca) (hm : ca ≤ 9223372036854775807) => Get_any Y (some ⟨ga, 0, none⟩) n ca _ W h2 (Nat.le_refl _) hc hm (by omega)
  have th2 := th.hd
  have th3 := th.part
  rw [hn.out] at th2 th3
  simp only [if_true] at th2 th3
  rw [th.gy, th2] at hge
  have hpg := fun ga ca W (h2 : Rd .u8 W W.heap.size (some ⟨ga, 0, none⟩) n Y) (hc : n ≤ ca) (hm : ca ≤ 9223372036854775807) => PGet_any ⟨20, (n : Int), 64, P, addr, d⟩ Y (some ⟨ga, 0, none⟩) n ca _ W h2 (Nat.le_refl _) hc hm (by omega) had hd
  rw [th3] at hpg
  simp only [Hd.val, Pt.val, Tells] at hge hpg
  clear th th2 th3 hT hY hR0 ag
  replace ho := Lib.hid ho
  replace hu := Lib.hid hu
  replace hge := Lib.hid hge
  replace hpg := Lib.hid hpg
  replace hYl := Lib.hid hYl
  go_wp2_with fail
  refine (ho.out _ own1).mono ?_
  rintro e w2 ⟨⟨va, rfl, oa, _⟩, hb⟩
  replace oa := oa rfl
  obtain ⟨ga, ca, rfl, hca, hca2, hga, _⟩ := oa.formG hYl.out (by omega)
  unfold maxLen at hca2
  replace bn := bn.bel hb
  replace own1 := own1.below hb
  replace oa := oa.lower bel.size
  replace bel := bel_after bel hb
  clear hb ho
  go_wp2_with fail
  refine (stands_any _).mono ?_
  rintro e w3 ⟨rfl, hb⟩
  replace bn := bn.bel hb
  replace own1 := own1.below hb
  replace oa := oa.below hb
  replace bel := bel_after bel hb
  clear hb
  go_wp2_with fail
  refine (hu.out _ _ _ own1 (oa.rd hYl.out) hca (by omega)).mono ?_
  rintro e w4 ⟨rfl, hb⟩
  replace bn := bn.bel hb
  replace oa := oa.below hb
  replace bel := bel_after bel hb
  clear hb hu own1
  go_wp2_with fail
  refine (hge.out _ _ _ (oa.rd hYl.out) hca (by omega)).mono ?_
  rintro e w5 ⟨rfl, hb⟩
  replace bn := bn.bel hb
  replace oa := oa.below hb
  replace bel := bel_after bel hb
  clear hb hge
  have hgl : ga < w5.heap.size := (oa.lt ga rfl).2
  have hsz5 := bel.size
  have lnn := bn.lt
  have bh := (Blk.new w5 35 #[.int .i64 0, .int .i64 0, .int .i64 0, .int .i64 0, .int .u32 0, .int .u32 0]).setRow #[.int .i64 20, .int .i64 (n : Int), .int .i64 64, .int .i64 P, .int .u32 addr, .int .u32 d]
  replace oa := (oa.alloc (.cells #[.int .i64 0, .int .i64 0, .int .i64 0, .int .i64 0, .int .u32 0, .int .u32 0] 35)).upd (Upd.row (w5.alloc (.cells #[.int .i64 0, .int .i64 0, .int .i64 0, .int .i64 0, .int .u32 0, .int .u32 0] 35)) w5.heap.size #[.int .i64 20, .int .i64 (n : Int), .int .i64 64, .int .i64 P, .int .u32 addr, .int .u32 d]) (by intro x hx e; simp [Value.ownBlock] at hx; omega)
  replace bn := (bn.alloc (.cells #[.int .i64 0, .int .i64 0, .int .i64 0, .int .i64 0, .int .u32 0, .int .u32 0] 35)).setRow_far (g' := w5.heap.size) (by omega) #[.int .i64 20, .int .i64 (n : Int), .int .i64 64, .int .i64 P, .int .u32 addr, .int .u32 d]
  skip
  replace bel := below_setRow (bel.alloc bel.size (.cells #[.int .i64 0, .int .i64 0, .int .i64 0, .int .i64 0, .int .u32 0, .int .u32 0] 35)) bel.size #[.int .i64 20, .int .i64 (n : Int), .int .i64 64, .int .i64 P, .int .u32 addr, .int .u32 d]
  go_wp2_with (first
    | (refine wpList_stRow rfl rfl rfl rfl rfl (Blk.new w5 _ _) hd_size rfl (by simp [Value.oneCell']) ?_; generalize (w5.alloc (.cells #[.int .i64 0, .int .i64 0, .int .i64 0, .int .i64 0, .int .u32 0, .int .u32 0] 35)).setRow w5.heap.size #[.int .i64 20, .int .i64 (n : Int), .int .i64 64, .int .i64 P, .int .u32 addr, .int .u32 d] = W5 at *; generalize w5.heap.size = g3 at *)
    | (refine wpList_ldRow rfl rfl rfl bh Try.underlying35 hd_size ?_))
  refine (hpg.out _ _ _ (oa.rd hYl.out) hca (by omega)).mono ?_
  rintro e w6 ⟨rfl, hb⟩
  replace bh := bh.bel hb
  replace bn := bn.bel hb
  replace bel := bel_after bel hb
  clear hb oa hpg hgl
  have l3 := bh.lt
  have ln := bn.lt
  have bp := (Blk.new w6 39 #[.int .i64 0, .int .u16 0, .int .u16 0, .int .i64 0, .int .i64 0, .int .i64 0, .bool false, .int .i64 0, .int .i64 0, .int .i64 0, .int .i64 0, .int .u32 0, .int .u32 0, .int .i64 0, .bool false]).setRow #[.int .i64 pr, .int .u16 port, .int .u16 F, .int .i64 fl, .int .i64 ki, .int .i64 co, .bool er, .int .i64 i0, .int .i64 i1, .int .i64 i2, .int .i64 i3, .int .u32 i4, .int .u32 i5, .int .i64 pa, .bool ba]
  replace bh := (bh.alloc (.cells #[.int .i64 0, .int .u16 0, .int .u16 0, .int .i64 0, .int .i64 0, .int .i64 0, .bool false, .int .i64 0, .int .i64 0, .int .i64 0, .int .i64 0, .int .u32 0, .int .u32 0, .int .i64 0, .bool false] 39)).setRow_far (g' := w6.heap.size) (by omega) #[.int .i64 pr, .int .u16 port, .int .u16 F, .int .i64 fl, .int .i64 ki, .int .i64 co, .bool er, .int .i64 i0, .int .i64 i1, .int .i64 i2, .int .i64 i3, .int .u32 i4, .int .u32 i5, .int .i64 pa, .bool ba]
  replace bn := (bn.alloc (.cells #[.int .i64 0, .int .u16 0, .int .u16 0, .int .i64 0, .int .i64 0, .int .i64 0, .bool false, .int .i64 0, .int .i64 0, .int .i64 0, .int .i64 0, .int .u32 0, .int .u32 0, .int .i64 0, .bool false] 39)).setRow_far (g' := w6.heap.size) (by omega) #[.int .i64 pr, .int .u16 port, .int .u16 F, .int .i64 fl, .int .i64 ki, .int .i64 co, .bool er, .int .i64 i0, .int .i64 i1, .int .i64 i2, .int .i64 i3, .int .u32 i4, .int .u32 i5, .int .i64 pa, .bool ba]
  skip
  replace bel := below_setRow (bel.alloc bel.size (.cells #[.int .i64 0, .int .u16 0, .int .u16 0, .int .i64 0, .int .i64 0, .int .i64 0, .bool false, .int .i64 0, .int .i64 0, .int .i64 0, .int .i64 0, .int .u32 0, .int .u32 0, .int .i64 0, .bool false] 39)) bel.size #[.int .i64 pr, .int .u16 port, .int .u16 F, .int .i64 fl, .int .i64 ki, .int .i64 co, .bool er, .int .i64 i0, .int .i64 i1, .int .i64 i2, .int .i64 i3, .int .u32 i4, .int .u32 i5, .int .i64 pa, .bool ba]
  have r1 := bp.cell 1
  have r2 := bp.cell 2
  have r4 := bh.cell 4
  have r5 := bh.cell 5
  have n0 := bn.cell 0
  have n6 := bn.cell 6
  go_upto_region 10 with (refine wpList_stRow rfl rfl rfl rfl rfl (Blk.new w6 _ _) pt_size rfl (by simp [Value.oneCell']) ?_; generalize (w6.alloc (.cells #[.int .i64 0, .int .u16 0, .int .u16 0, .int .i64 0, .int .i64 0, .int .i64 0, .bool false, .int .i64 0, .int .i64 0, .int .i64 0, .int .i64 0, .int .u32 0, .int .u32 0, .int .i64 0, .bool false] 39)).setRow w6.heap.size #[.int .i64 pr, .int .u16 port, .int .u16 F, .int .i64 fl, .int .i64 ki, .int .i64 co, .bool er, .int .i64 i0, .int .i64 i1, .int .i64 i2, .int .i64 i3, .int .u32 i4, .int .u32 i5, .int .i64 pa, .bool ba] = W6 at *; generalize w6.heap.size = g4 at *)
  have ln2 := bn.lt
  have bs := (Blk.new W6 26 #[.int .i64 0, .int .u32 0, .int .u32 0, .int .u16 0, .int .u16 0, .int .i64 0, .slice none 0 0]).setRow #[.int .i64 (k : Int), .int .u32 d, .int .u32 addr, .int .u16 F, .int .u16 port, .int .i64 18, .slice A len cap]
  replace bn := (bn.alloc (.cells #[.int .i64 0, .int .u32 0, .int .u32 0, .int .u16 0, .int .u16 0, .int .i64 0, .slice none 0 0] 26)).setRow_far (g' := W6.heap.size) (by omega) #[.int .i64 (k : Int), .int .u32 d, .int .u32 addr, .int .u16 F, .int .u16 port, .int .i64 18, .slice A len cap]
  have hg5 := bel.size
  replace bel := below_setRow (bel.alloc bel.size (.cells #[.int .i64 0, .int .u32 0, .int .u32 0, .int .u16 0, .int .u16 0, .int .i64 0, .slice none 0 0] 26)) bel.size #[.int .i64 (k : Int), .int .u32 d, .int .u32 addr, .int .u16 F, .int .u16 port, .int .i64 18, .slice A len cap]
  clear bh bp
  go_upto_region 11 with (refine wpList_stRow rfl rfl rfl rfl rfl (Blk.new W6 _ _) sn_size rfl (by simp [Value.oneCell']) ?_; generalize (W6.alloc (.cells #[.int .i64 0, .int .u32 0, .int .u32 0, .int .u16 0, .int .u16 0, .int .i64 0, .slice none 0 0] 26)).setRow W6.heap.size #[.int .i64 (k : Int), .int .u32 d, .int .u32 addr, .int .u16 F, .int .u16 port, .int .i64 18, .slice A len cap] = W7 at *; generalize W6.heap.size = g5 at *)
  clear r1 r2 r4 r5 n0 n6
  by_cases h2 : k < 2
  · have e1 := hFk.out h2
    have e2 := hk22.out h2
    subst e2
    have e3 := p4.out h2
    clear hFk hk22 hk23 p4
    have d1 : ((k2 : Int) == 2) = false := by simp; omega
    have n0 := bn.cell 0
    go_upto_region 13 with fail
    clear n0
    subst e1 e3
    go_wp2_with (refine wpList_ldRow rfl rfl rfl bs Try.underlying26 sn_size ?_)
    refine (hfr2.out _ bel).mono ?_
    rintro e u1 ⟨v2, rfl, own2, hb⟩
    replace bn := bn.bel hb
    replace own2 := own2.lower bel.size
    replace bel := bel_after bel hb
    clear hb hfr2 bs
    obtain ⟨gx, cx, rfl, hcx, hcx2, hgx, _⟩ := own2.formG hm.out (by omega)
    unfold maxLen at hcx2
    have th := hT2.out (own_b8 own2)
    obtain ⟨p0, hR0, ag⟩ := th.again
    have hZl : Z.length = m := th.len.trans hm.out
    have hi := fun W (ho : Own .u8 5 W w.heap.size (.slice (some ⟨gx, 0, none⟩) m cx) X2) => RwIn_any X2 (some ⟨gx, 0, none⟩) m cx W.heap.size s a W (ho.rd hm.out) (Nat.le_refl _) hcx (by omega) (by omega) hs ha
    rw [th.e, hZ.out] at hi
    have hu := fun ga ca W (h1 : Own .u8 5 W w.heap.size (.slice (some ⟨gx, 0, none⟩) m cx) X2) (h2 : Rd .u8 W W.heap.size (some ⟨ga, 0, none⟩) m Z) (hc : m ≤ ca) (hm' : ca ≤ 9223372036854775807) => Unlike_of (some ⟨gx, 0, none⟩) (some ⟨ga, 0, none⟩) m cx m ca false s a W (same_yes X2 Z (some ⟨gx, 0, none⟩) (some ⟨ga, 0, none⟩) m cx m ca W (h1.rd hm.out) h2 hcx (by omega) hc hm' (by omega) p0 false s a th.g hR0 ag)
    have hge := fun ga ca W (h2 : Rd .u8 W W.heap.size (some ⟨ga, 0, none⟩) m Z) (hc : m ≤ ca) (hm' : ca ≤ 9223372036854775807) => Get_any Z (some ⟨ga, 0, none⟩) m ca _ W h2 (Nat.le_refl _) hc hm' (by omega)
    have th2 := th.hd
    have th3 := th.part
    rw [hm.out] at th2 th3
    simp only [Bool.false_eq_true, if_false] at th2 th3
    rw [th.gy, th2] at hge
    have hpg := fun ga ca W (h2 : Rd .u8 W W.heap.size (some ⟨ga, 0, none⟩) m Z) (hc : m ≤ ca) (hm' : ca ≤ 9223372036854775807) => PGet_any ⟨20, (m : Int), 64, P2, d, s⟩ Z (some ⟨ga, 0, none⟩) m ca _ W h2 (Nat.le_refl _) hc hm' (by omega) hd hs
    rw [th3] at hpg
    simp only [Hd.val, Pt.val, Tells] at hge hpg
    clear th th2 th3 hT2 hZ hR0 ag
    replace hi := Lib.hid hi
    replace hu := Lib.hid hu
    replace hge := Lib.hid hge
    replace hpg := Lib.hid hpg
    replace hZl := Lib.hid hZl
    have n1 := bn.cell 1
    have n3 := bn.cell 3
    go_wp2_with fail
    clear n1 n3
    refine (hi.out _ own2).mono ?_
    rintro e u2 ⟨⟨vb, rfl, ob, _⟩, hb⟩
    replace ob := ob rfl
    obtain ⟨gb, cb, rfl, hcb, hcb2, hgb, _⟩ := ob.formG hZl.out (by omega)
    unfold maxLen at hcb2
    replace bn := bn.bel hb
    replace own2 := own2.below hb
    replace ob := ob.lower bel.size
    replace bel := bel_after bel hb
    clear hb hi
    go_wp2_with fail
    refine (hge.out _ _ _ (ob.rd hZl.out) hcb (by omega)).mono ?_
    rintro e u3 ⟨rfl, hb⟩
    replace bn := bn.bel hb
    replace own2 := own2.below hb
    replace ob := ob.below hb
    replace bel := bel_after bel hb
    clear hb hge
    have hgl : gb < u3.heap.size := (ob.lt gb rfl).2
    have hgl2 : gx < u3.heap.size := (own2.lt gx rfl).2
    have hsz5 := bel.size
    have lnn := bn.lt
    have bh := (Blk.new u3 35 #[.int .i64 0, .int .i64 0, .int .i64 0, .int .i64 0, .int .u32 0, .int .u32 0]).setRow #[.int .i64 20, .int .i64 (m : Int), .int .i64 64, .int .i64 P2, .int .u32 d, .int .u32 s]
    replace ob := (ob.alloc (.cells #[.int .i64 0, .int .i64 0, .int .i64 0, .int .i64 0, .int .u32 0, .int .u32 0] 35)).upd (Upd.row (u3.alloc (.cells #[.int .i64 0, .int .i64 0, .int .i64 0, .int .i64 0, .int .u32 0, .int .u32 0] 35)) u3.heap.size #[.int .i64 20, .int .i64 (m : Int), .int .i64 64, .int .i64 P2, .int .u32 d, .int .u32 s]) (by intro x hx e; simp [Value.ownBlock] at hx; omega)
    replace own2 := (own2.alloc (.cells #[.int .i64 0, .int .i64 0, .int .i64 0, .int .i64 0, .int .u32 0, .int .u32 0] 35)).upd (Upd.row (u3.alloc (.cells #[.int .i64 0, .int .i64 0, .int .i64 0, .int .i64 0, .int .u32 0, .int .u32 0] 35)) u3.heap.size #[.int .i64 20, .int .i64 (m : Int), .int .i64 64, .int .i64 P2, .int .u32 d, .int .u32 s]) (by intro x hx e; simp [Value.ownBlock] at hx; omega)
    replace bn := (bn.alloc (.cells #[.int .i64 0, .int .i64 0, .int .i64 0, .int .i64 0, .int .u32 0, .int .u32 0] 35)).setRow_far (g' := u3.heap.size) (by omega) #[.int .i64 20, .int .i64 (m : Int), .int .i64 64, .int .i64 P2, .int .u32 d, .int .u32 s]
    replace bel := below_setRow (bel.alloc bel.size (.cells #[.int .i64 0, .int .i64 0, .int .i64 0, .int .i64 0, .int .u32 0, .int .u32 0] 35)) bel.size #[.int .i64 20, .int .i64 (m : Int), .int .i64 64, .int .i64 P2, .int .u32 d, .int .u32 s]
    go_wp2_with (first
      | (refine wpList_stRow rfl rfl rfl rfl rfl (Blk.new u3 _ _) hd_size rfl (by simp [Value.oneCell']) ?_; generalize (u3.alloc (.cells #[.int .i64 0, .int .i64 0, .int .i64 0, .int .i64 0, .int .u32 0, .int .u32 0] 35)).setRow u3.heap.size #[.int .i64 20, .int .i64 (m : Int), .int .i64 64, .int .i64 P2, .int .u32 d, .int .u32 s] = V5 at *; generalize u3.heap.size = k3 at *)
      | (refine wpList_ldRow rfl rfl rfl bh Try.underlying35 hd_size ?_))
    refine (hpg.out _ _ _ (ob.rd hZl.out) hcb (by omega)).mono ?_
    rintro e u4 ⟨rfl, hb⟩
    replace bh := bh.bel hb
    replace bn := bn.bel hb
    replace ob := ob.below hb
    replace own2 := own2.below hb
    replace bel := bel_after bel hb
    clear hb hpg hgl hgl2
    have hgl : gb < u4.heap.size := (ob.lt gb rfl).2
    have hgl2 : gx < u4.heap.size := (own2.lt gx rfl).2
    have l3 := bh.lt
    have ln := bn.lt
    have bp := (Blk.new u4 39 #[.int .i64 0, .int .u16 0, .int .u16 0, .int .i64 0, .int .i64 0, .int .i64 0, .bool false, .int .i64 0, .int .i64 0, .int .i64 0, .int .i64 0, .int .u32 0, .int .u32 0, .int .i64 0, .bool false]).setRow #[.int .i64 qpr, .int .u16 qsr, .int .u16 a, .int .i64 qfl, .int .i64 qki, .int .i64 qco, .bool qer, .int .i64 qi0, .int .i64 qi1, .int .i64 qi2, .int .i64 qi3, .int .u32 qi4, .int .u32 qi5, .int .i64 qpa, .bool qba]
    replace bh := (bh.alloc (.cells #[.int .i64 0, .int .u16 0, .int .u16 0, .int .i64 0, .int .i64 0, .int .i64 0, .bool false, .int .i64 0, .int .i64 0, .int .i64 0, .int .i64 0, .int .u32 0, .int .u32 0, .int .i64 0, .bool false] 39)).setRow_far (g' := u4.heap.size) (by omega) #[.int .i64 qpr, .int .u16 qsr, .int .u16 a, .int .i64 qfl, .int .i64 qki, .int .i64 qco, .bool qer, .int .i64 qi0, .int .i64 qi1, .int .i64 qi2, .int .i64 qi3, .int .u32 qi4, .int .u32 qi5, .int .i64 qpa, .bool qba]
    replace bn := (bn.alloc (.cells #[.int .i64 0, .int .u16 0, .int .u16 0, .int .i64 0, .int .i64 0, .int .i64 0, .bool false, .int .i64 0, .int .i64 0, .int .i64 0, .int .i64 0, .int .u32 0, .int .u32 0, .int .i64 0, .bool false] 39)).setRow_far (g' := u4.heap.size) (by omega) #[.int .i64 qpr, .int .u16 qsr, .int .u16 a, .int .i64 qfl, .int .i64 qki, .int .i64 qco, .bool qer, .int .i64 qi0, .int .i64 qi1, .int .i64 qi2, .int .i64 qi3, .int .u32 qi4, .int .u32 qi5, .int .i64 qpa, .bool qba]
    replace ob := (ob.alloc (.cells #[.int .i64 0, .int .u16 0, .int .u16 0, .int .i64 0, .int .i64 0, .int .i64 0, .bool false, .int .i64 0, .int .i64 0, .int .i64 0, .int .i64 0, .int .u32 0, .int .u32 0, .int .i64 0, .bool false] 39)).upd (Upd.row (u4.alloc (.cells #[.int .i64 0, .int .u16 0, .int .u16 0, .int .i64 0, .int .i64 0, .int .i64 0, .bool false, .int .i64 0, .int .i64 0, .int .i64 0, .int .i64 0, .int .u32 0, .int .u32 0, .int .i64 0, .bool false] 39)) u4.heap.size #[.int .i64 qpr, .int .u16 qsr, .int .u16 a, .int .i64 qfl, .int .i64 qki, .int .i64 qco, .bool qer, .int .i64 qi0, .int .i64 qi1, .int .i64 qi2, .int .i64 qi3, .int .u32 qi4, .int .u32 qi5, .int .i64 qpa, .bool qba]) (by intro x hx e; simp [Value.ownBlock] at hx; omega)
    replace own2 := (own2.alloc (.cells #[.int .i64 0, .int .u16 0, .int .u16 0, .int .i64 0, .int .i64 0, .int .i64 0, .bool false, .int .i64 0, .int .i64 0, .int .i64 0, .int .i64 0, .int .u32 0, .int .u32 0, .int .i64 0, .bool false] 39)).upd (Upd.row (u4.alloc (.cells #[.int .i64 0, .int .u16 0, .int .u16 0, .int .i64 0, .int .i64 0, .int .i64 0, .bool false, .int .i64 0, .int .i64 0, .int .i64 0, .int .i64 0, .int .u32 0, .int .u32 0, .int .i64 0, .bool false] 39)) u4.heap.size #[.int .i64 qpr, .int .u16 qsr, .int .u16 a, .int .i64 qfl, .int .i64 qki, .int .i64 qco, .bool qer, .int .i64 qi0, .int .i64 qi1, .int .i64 qi2, .int .i64 qi3, .int .u32 qi4, .int .u32 qi5, .int .i64 qpa, .bool qba]) (by intro x hx e; simp [Value.ownBlock] at hx; omega)
    replace bel := below_setRow (bel.alloc bel.size (.cells #[.int .i64 0, .int .u16 0, .int .u16 0, .int .i64 0, .int .i64 0, .int .i64 0, .bool false, .int .i64 0, .int .i64 0, .int .i64 0, .int .i64 0, .int .u32 0, .int .u32 0, .int .i64 0, .bool false] 39)) bel.size #[.int .i64 qpr, .int .u16 qsr, .int .u16 a, .int .i64 qfl, .int .i64 qki, .int .i64 qco, .bool qer, .int .i64 qi0, .int .i64 qi1, .int .i64 qi2, .int .i64 qi3, .int .u32 qi4, .int .u32 qi5, .int .i64 qpa, .bool qba]
    have r1 := bp.cell 1
    have r2 := bp.cell 2
    have r4 := bh.cell 4
    have r5 := bh.cell 5
    have n0 := bn.cell 0
    have n1 := bn.cell 1
    have n2 := bn.cell 2
    have n3 := bn.cell 3
    have n4 := bn.cell 4
    clear bh bp bn
    go_upto_region 17 with (refine wpList_stRow rfl rfl rfl rfl rfl (Blk.new u4 _ _) pt_size rfl (by simp [Value.oneCell']) ?_; generalize (u4.alloc (.cells #[.int .i64 0, .int .u16 0, .int .u16 0, .int .i64 0, .int .i64 0, .int .i64 0, .bool false, .int .i64 0, .int .i64 0, .int .i64 0, .int .i64 0, .int .u32 0, .int .u32 0, .int .i64 0, .bool false] 39)).setRow u4.heap.size #[.int .i64 qpr, .int .u16 qsr, .int .u16 a, .int .i64 qfl, .int .i64 qki, .int .i64 qco, .bool qer, .int .i64 qi0, .int .i64 qi1, .int .i64 qi2, .int .i64 qi3, .int .u32 qi4, .int .u32 qi5, .int .i64 qpa, .bool qba] = V6 at *; generalize u4.heap.size = k4 at *)
    go_wp2_with fail
    refine (hu.out _ _ _ own2 (ob.rd hZl.out) hcb (by omega)).mono ?_
    rintro e u5 ⟨rfl, hb⟩
    go_wp2
    go_ret
    exact ⟨rfl, bel_after bel hb⟩
  · obtain rfl : k = 2 := by omega
    have e2 := hk23.out h2
    subst e2
    clear hFk hk22 hk23 p4 h2
    have n0 := bn.cell 0
    have s0 := bs.cell 0
    have s0f := bs.frozen 0
    go_upto_region 13 with fail
    replace bs : Blk (W7.setCell ⟨g5, 0, none⟩ (.int .i64 3)) g5 26 #[.int .i64 3, .int .u32 d, .int .u32 addr, .int .u16 F, .int .u16 port, .int .i64 18, .slice A len cap] := bs.set_ 0 (.int .i64 3)
    replace bn := bn.upd (Upd.one W7 g5 0 (.int .i64 3)) (by omega)
    replace bel := bel.setCell (p := ⟨g5, 0, none⟩) hg5 (.int .i64 3)
    generalize W7.setCell ⟨g5, 0, none⟩ (.int .i64 3) = W8 at *
    clear n0 s0 s0f
    go_wp2_with (refine wpList_ldRow rfl rfl rfl bs Try.underlying26 sn_size ?_)
    refine (hfr2.out _ bel).mono ?_
    rintro e u1 ⟨v2, rfl, own2, hb⟩
    replace bn := bn.bel hb
    replace own2 := own2.lower bel.size
    replace bel := bel_after bel hb
    clear hb hfr2 bs
    obtain ⟨gx, cx, rfl, hcx, hcx2, hgx, _⟩ := own2.formG hm.out (by omega)
    unfold maxLen at hcx2
    have th := hT2.out (own_b8 own2)
    obtain ⟨p0, hR0, ag⟩ := th.again
    have hZl : Z.length = m := th.len.trans hm.out
    have hi := fun W (ho : Own .u8 5 W w.heap.size (.slice (some ⟨gx, 0, none⟩) m cx) X2) => RwIn_any X2 (some ⟨gx, 0, none⟩) m cx W.heap.size s a W (ho.rd hm.out) (Nat.le_refl _) hcx (by omega) (by omega) hs ha
    rw [th.e, hZ.out] at hi
    have hu := fun ga ca W (h1 : Own .u8 5 W w.heap.size (.slice (some ⟨gx, 0, none⟩) m cx) X2) (h2 : Rd .u8 W W.heap.size (some ⟨ga, 0, none⟩) m Z) (hc : m ≤ ca) (hm' : ca ≤ 9223372036854775807) => Unlike_of (some ⟨gx, 0, none⟩) (some ⟨ga, 0, none⟩) m cx m ca false s a W (same_yes X2 Z (some ⟨gx, 0, none⟩) (some ⟨ga, 0, none⟩) m cx m ca W (h1.rd hm.out) h2 hcx (by omega) hc hm' (by omega) p0 false s a th.g hR0 ag)
    have hge := fun ga ca W (h2 : Rd .u8 W W.heap.size (some ⟨ga, 0, none⟩) m Z) (hc : m ≤ ca) (hm' : ca ≤ 9223372036854775807) => Get_any Z (some ⟨ga, 0, none⟩) m ca _ W h2 (Nat.le_refl _) hc hm' (by omega)
    have th2 := th.hd
    have th3 := th.part
    rw [hm.out] at th2 th3
    simp only [Bool.false_eq_true, if_false] at th2 th3
    rw [th.gy, th2] at hge
    have hpg := fun ga ca W (h2 : Rd .u8 W W.heap.size (some ⟨ga, 0, none⟩) m Z) (hc : m ≤ ca) (hm' : ca ≤ 9223372036854775807) => PGet_any ⟨20, (m : Int), 64, P2, d, s⟩ Z (some ⟨ga, 0, none⟩) m ca _ W h2 (Nat.le_refl _) hc hm' (by omega) hd hs
    rw [th3] at hpg
    simp only [Hd.val, Pt.val, Tells] at hge hpg
    clear th th2 th3 hT2 hZ hR0 ag
    replace hi := Lib.hid hi
    replace hu := Lib.hid hu
    replace hge := Lib.hid hge
    replace hpg := Lib.hid hpg
    replace hZl := Lib.hid hZl
    have n1 := bn.cell 1
    have n3 := bn.cell 3
    go_wp2_with fail
    clear n1 n3
    refine (hi.out _ own2).mono ?_
    rintro e u2 ⟨⟨vb, rfl, ob, _⟩, hb⟩
    replace ob := ob rfl
    obtain ⟨gb, cb, rfl, hcb, hcb2, hgb, _⟩ := ob.formG hZl.out (by omega)
    unfold maxLen at hcb2
    replace bn := bn.bel hb
    replace own2 := own2.below hb
    replace ob := ob.lower bel.size
    replace bel := bel_after bel hb
    clear hb hi
    go_wp2_with fail
    refine (hge.out _ _ _ (ob.rd hZl.out) hcb (by omega)).mono ?_
    rintro e u3 ⟨rfl, hb⟩
    replace bn := bn.bel hb
    replace own2 := own2.below hb
    replace ob := ob.below hb
    replace bel := bel_after bel hb
    clear hb hge
    have hgl : gb < u3.heap.size := (ob.lt gb rfl).2
    have hgl2 : gx < u3.heap.size := (own2.lt gx rfl).2
    have hsz5 := bel.size
    have lnn := bn.lt
    have bh := (Blk.new u3 35 #[.int .i64 0, .int .i64 0, .int .i64 0, .int .i64 0, .int .u32 0, .int .u32 0]).setRow #[.int .i64 20, .int .i64 (m : Int), .int .i64 64, .int .i64 P2, .int .u32 d, .int .u32 s]
    replace ob := (ob.alloc (.cells #[.int .i64 0, .int .i64 0, .int .i64 0, .int .i64 0, .int .u32 0, .int .u32 0] 35)).upd (Upd.row (u3.alloc (.cells #[.int .i64 0, .int .i64 0, .int .i64 0, .int .i64 0, .int .u32 0, .int .u32 0] 35)) u3.heap.size #[.int .i64 20, .int .i64 (m : Int), .int .i64 64, .int .i64 P2, .int .u32 d, .int .u32 s]) (by intro x hx e; simp [Value.ownBlock] at hx; omega)
    replace own2 := (own2.alloc (.cells #[.int .i64 0, .int .i64 0, .int .i64 0, .int .i64 0, .int .u32 0, .int .u32 0] 35)).upd (Upd.row (u3.alloc (.cells #[.int .i64 0, .int .i64 0, .int .i64 0, .int .i64 0, .int .u32 0, .int .u32 0] 35)) u3.heap.size #[.int .i64 20, .int .i64 (m : Int), .int .i64 64, .int .i64 P2, .int .u32 d, .int .u32 s]) (by intro x hx e; simp [Value.ownBlock] at hx; omega)
    replace bn := (bn.alloc (.cells #[.int .i64 0, .int .i64 0, .int .i64 0, .int .i64 0, .int .u32 0, .int .u32 0] 35)).setRow_far (g' := u3.heap.size) (by omega) #[.int .i64 20, .int .i64 (m : Int), .int .i64 64, .int .i64 P2, .int .u32 d, .int .u32 s]
    replace bel := below_setRow (bel.alloc bel.size (.cells #[.int .i64 0, .int .i64 0, .int .i64 0, .int .i64 0, .int .u32 0, .int .u32 0] 35)) bel.size #[.int .i64 20, .int .i64 (m : Int), .int .i64 64, .int .i64 P2, .int .u32 d, .int .u32 s]
    go_wp2_with (first
      | (refine wpList_stRow rfl rfl rfl rfl rfl (Blk.new u3 _ _) hd_size rfl (by simp [Value.oneCell']) ?_; generalize (u3.alloc (.cells #[.int .i64 0, .int .i64 0, .int .i64 0, .int .i64 0, .int .u32 0, .int .u32 0] 35)).setRow u3.heap.size #[.int .i64 20, .int .i64 (m : Int), .int .i64 64, .int .i64 P2, .int .u32 d, .int .u32 s] = V5 at *; generalize u3.heap.size = k3 at *)
      | (refine wpList_ldRow rfl rfl rfl bh Try.underlying35 hd_size ?_))
    refine (hpg.out _ _ _ (ob.rd hZl.out) hcb (by omega)).mono ?_
    rintro e u4 ⟨rfl, hb⟩
    replace bh := bh.bel hb
    replace bn := bn.bel hb
    replace ob := ob.below hb
    replace own2 := own2.below hb
    replace bel := bel_after bel hb
    clear hb hpg hgl hgl2
    have hgl : gb < u4.heap.size := (ob.lt gb rfl).2
    have hgl2 : gx < u4.heap.size := (own2.lt gx rfl).2
    have l3 := bh.lt
    have ln := bn.lt
    have bp := (Blk.new u4 39 #[.int .i64 0, .int .u16 0, .int .u16 0, .int .i64 0, .int .i64 0, .int .i64 0, .bool false, .int .i64 0, .int .i64 0, .int .i64 0, .int .i64 0, .int .u32 0, .int .u32 0, .int .i64 0, .bool false]).setRow #[.int .i64 qpr, .int .u16 qsr, .int .u16 a, .int .i64 qfl, .int .i64 qki, .int .i64 qco, .bool qer, .int .i64 qi0, .int .i64 qi1, .int .i64 qi2, .int .i64 qi3, .int .u32 qi4, .int .u32 qi5, .int .i64 qpa, .bool qba]
    replace bh := (bh.alloc (.cells #[.int .i64 0, .int .u16 0, .int .u16 0, .int .i64 0, .int .i64 0, .int .i64 0, .bool false, .int .i64 0, .int .i64 0, .int .i64 0, .int .i64 0, .int .u32 0, .int .u32 0, .int .i64 0, .bool false] 39)).setRow_far (g' := u4.heap.size) (by omega) #[.int .i64 qpr, .int .u16 qsr, .int .u16 a, .int .i64 qfl, .int .i64 qki, .int .i64 qco, .bool qer, .int .i64 qi0, .int .i64 qi1, .int .i64 qi2, .int .i64 qi3, .int .u32 qi4, .int .u32 qi5, .int .i64 qpa, .bool qba]
    replace bn := (bn.alloc (.cells #[.int .i64 0, .int .u16 0, .int .u16 0, .int .i64 0, .int .i64 0, .int .i64 0, .bool false, .int .i64 0, .int .i64 0, .int .i64 0, .int .i64 0, .int .u32 0, .int .u32 0, .int .i64 0, .bool false] 39)).setRow_far (g' := u4.heap.size) (by omega) #[.int .i64 qpr, .int .u16 qsr, .int .u16 a, .int .i64 qfl, .int .i64 qki, .int .i64 qco, .bool qer, .int .i64 qi0, .int .i64 qi1, .int .i64 qi2, .int .i64 qi3, .int .u32 qi4, .int .u32 qi5, .int .i64 qpa, .bool qba]
    replace ob := (ob.alloc (.cells #[.int .i64 0, .int .u16 0, .int .u16 0, .int .i64 0, .int .i64 0, .int .i64 0, .bool false, .int .i64 0, .int .i64 0, .int .i64 0, .int .i64 0, .int .u32 0, .int .u32 0, .int .i64 0, .bool false] 39)).upd (Upd.row (u4.alloc (.cells #[.int .i64 0, .int .u16 0, .int .u16 0, .int .i64 0, .int .i64 0, .int .i64 0, .bool false, .int .i64 0, .int .i64 0, .int .i64 0, .int .i64 0, .int .u32 0, .int .u32 0, .int .i64 0, .bool false] 39)) u4.heap.size #[.int .i64 qpr, .int .u16 qsr, .int .u16 a, .int .i64 qfl, .int .i64 qki, .int .i64 qco, .bool qer, .int .i64 qi0, .int .i64 qi1, .int .i64 qi2, .int .i64 qi3, .int .u32 qi4, .int .u32 qi5, .int .i64 qpa, .bool qba]) (by intro x hx e; simp [Value.ownBlock] at hx; omega)
    replace own2 := (own2.alloc (.cells #[.int .i64 0, .int .u16 0, .int .u16 0, .int .i64 0, .int .i64 0, .int .i64 0, .bool false, .int .i64 0, .int .i64 0, .int .i64 0, .int .i64 0, .int .u32 0, .int .u32 0, .int .i64 0, .bool false] 39)).upd (Upd.row (u4.alloc (.cells #[.int .i64 0, .int .u16 0, .int .u16 0, .int .i64 0, .int .i64 0, .int .i64 0, .bool false, .int .i64 0, .int .i64 0, .int .i64 0, .int .i64 0, .int .u32 0, .int .u32 0, .int .i64 0, .bool false] 39)) u4.heap.size #[.int .i64 qpr, .int .u16 qsr, .int .u16 a, .int .i64 qfl, .int .i64 qki, .int .i64 qco, .bool qer, .int .i64 qi0, .int .i64 qi1, .int .i64 qi2, .int .i64 qi3, .int .u32 qi4, .int .u32 qi5, .int .i64 qpa, .bool qba]) (by intro x hx e; simp [Value.ownBlock] at hx; omega)
    replace bel := below_setRow (bel.alloc bel.size (.cells #[.int .i64 0, .int .u16 0, .int .u16 0, .int .i64 0, .int .i64 0, .int .i64 0, .bool false, .int .i64 0, .int .i64 0, .int .i64 0, .int .i64 0, .int .u32 0, .int .u32 0, .int .i64 0, .bool false] 39)) bel.size #[.int .i64 qpr, .int .u16 qsr, .int .u16 a, .int .i64 qfl, .int .i64 qki, .int .i64 qco, .bool qer, .int .i64 qi0, .int .i64 qi1, .int .i64 qi2, .int .i64 qi3, .int .u32 qi4, .int .u32 qi5, .int .i64 qpa, .bool qba]
    have r1 := bp.cell 1
    have r2 := bp.cell 2
    have r4 := bh.cell 4
    have r5 := bh.cell 5
    have n0 := bn.cell 0
    have n1 := bn.cell 1
    have n2 := bn.cell 2
    have n3 := bn.cell 3
    have n4 := bn.cell 4
    clear bh bp bn
    go_upto_region 17 with (refine wpList_stRow rfl rfl rfl rfl rfl (Blk.new u4 _ _) pt_size rfl (by simp [Value.oneCell']) ?_; generalize (u4.alloc (.cells #[.int .i64 0, .int .u16 0, .int .u16 0, .int .i64 0, .int .i64 0, .int .i64 0, .bool false, .int .i64 0, .int .i64 0, .int .i64 0, .int .i64 0, .int .u32 0, .int .u32 0, .int .i64 0, .bool false] 39)).setRow u4.heap.size #[.int .i64 qpr, .int .u16 qsr, .int .u16 a, .int .i64 qfl, .int .i64 qki, .int .i64 qco, .bool qer, .int .i64 qi0, .int .i64 qi1, .int .i64 qi2, .int .i64 qi3, .int .u32 qi4, .int .u32 qi5, .int .i64 qpa, .bool qba] = V6 at *; generalize u4.heap.size = k4 at *)
    go_wp2_with fail
    refine (hu.out _ _ _ own2 (ob.rd hZl.out) hcb (by omega)).mono ?_
    rintro e u5 ⟨rfl, hb⟩
    go_wp2
    go_ret
    exact ⟨rfl, bel_after bel hb⟩
theorem FanlightThere_args (W : World) (args : Array Value) (hs : args.size = Try.f3.params.size) (hA : ∀ (j : Nat) t v, Try.f3.params[j]? = some t → args[j]? = some v → Arg Try.prog W t v) :
    Calls Try.prog 3 args W fun e W' => e = .returned (.bool true) ∧ Below W.heap.size W W' := by
  obtain ⟨v0, v1, v2, rfl⟩ := args3 hs
  obtain ⟨wt, s, d, a, b, f, A, len, cap, l, rfl, h1, h2, h3, h4, h5, h6, h7⟩ := arg_sent (hA 0 26 v0 rfl rfl)
  obtain ⟨x, rfl, hx⟩ := arg_int Try.underlying22 (hA 1 22 v1 rfl rfl)
  obtain ⟨y, rfl, hy⟩ := arg_int Try.underlying23 (hA 2 23 v2 rfl rfl)
  exact FanlightThere_walk wt s d a b f l A len cap x y W h7 h5 h6 h1 h2 h3 h4 (inr_u32 hx) (inr_u16 hy)

set_option maxRecDepth 100000 in
theorem FanlightThere_lifted (os : Os) (started : os.Started) (H : Type) (enc : TypeId × Value → H) :
    ReturnsInHanded {} Try.checked os 3 .any (Rows.fanlightThereSpec.pre6 enc Try.prog Try.f3 Rows.fanlightThereRow.domain false) (Rows.fanlightThereSpec.post enc Try.prog Try.f3 false true false false) :=
  law_lifted os started H enc (by kernel_rfl) Try.func3 rfl rfl (fun H ds h => by match ds, h with | [_, _, _], _ => exact ⟨rfl, rfl, rfl⟩) (by kernel_rfl)
    (ChangeSpec.witness6 (enc := enc) (C := Try.checked) false ⟨#[], #[.agg #[.int .i64 0, .int .u32 0, .int .u32 0, .int .u16 0, .int .u16 0, .int .i64 0, .slice none 0 0], .int .u32 0, .int .u16 0], []⟩ 8 (by kernel_rfl) (by kernel_rfl) (by kernel_rfl) (by kernel_rfl))
    FanlightThere_args

/-- the statement -/
theorem fanlightThere_holds : Rows.FanlightThereSaid :=
  OpenClaim.holds_of_wide 3 Try.f3 rfl rfl rfl rfl rfl rfl rfl ⟨rfl, rfl, rfl, rfl, rfl⟩ rfl rfl rfl rfl rfl (by kernel_rfl) Try.func3 (by kernel_rfl)
    (of_decide_eq_true (by kernel_rfl)) (by unfold Func.isWrapper; first | (rw [if_pos (by decide +kernel)]; kernel_rfl) | (rw [if_neg (by decide +kernel)]; exact ⟨rfl, rfl⟩))
    (fun os started H enc _ => FanlightThere_lifted os started H enc)

end Go.Proofs.Ytgfjdnbejmmckaa
