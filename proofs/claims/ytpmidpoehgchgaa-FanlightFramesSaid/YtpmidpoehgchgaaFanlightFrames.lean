/- Every input of FanlightFrames answers true, and reads behind the call as it read before. No condition. -/
import Derived.Test.YtpmidpoehgchgaaPartFacts4
import Derived.Test.YtpmidpoehgchgaaPart25
import Derived.Deep.DeepCutAuto
import Derived.Lib.SlBytesConst
import Derived.Deep.CutBlock
namespace Go.Proofs.Ytpmidpoehgchgaa
set_option linter.unusedVariables false
set_option linter.unusedSimpArgs false
open Go.RowKit
theorem Rd.newF (k : IntKind) (w : World) (t : TypeId) (fr : Nat × Nat) (l : List Int) (hr : ∀ x, x ∈ l → inr k x) (cs : Array Value) (hcs : cs = (l.map (Value.int k)).toArray) (n : Nat) (hn : l.length = n) :
    Rd k (w.alloc (.cells cs t fr)) (w.heap.size + 1) (some ⟨w.heap.size, 0, none⟩) n l := by
  subst hcs
  refine ⟨hn, hr, fun h0 => ⟨_, 0, rfl, by omega, fun j hj => ?_⟩⟩
  rw [cell_of_row _ _ _ _ _ _ (heap_alloc_new w _)]
  simp [List.getElem?_eq_getElem (show j < l.length by omega)]
set_option maxRecDepth 100000 in
set_option maxHeartbeats 2000000 in
theorem stands_any (w : World) :
    Calls Try.prog 10 #[] w fun e w' => e = .returned (.bool true) ∧ Below w.heap.size w w' := by
  have hb8 : Bytes8 [104, 105] := fun x hx => by simp at hx; omega
  obtain ⟨C, hC⟩ : ∃ C, C = udpL 1 2 5 53 [104, 105] := ⟨_, rfl⟩
  have hCl : C.length = 10 := by rw [hC, udpL_len]; rfl
  have hget := life_get (t := 9) (P := 17) (s := 1) (d := 2) (l := C) (by omega) (by omega) (by omega) (by omega) (by omega)
  have hR := lifeR 9 17 1 2 C
  obtain ⟨X, hX⟩ : ∃ X, X = putL 9 17 1 2 C := ⟨_, rfl⟩
  have hXl : X.length = 30 := by rw [hX, put_len, hCl]
  rw [← hX, hXl] at hget hR
  have hgot : getX 17 ⟨20, ((30 : Nat) : Int), 9, 17, 1, 2⟩ C = (0, gotP 0 5 53 0) := by rw [hC]; exact car_got (s := 1) (d := 2) (by omega) (by omega) (by omega) (by omega) hb8 rfl rfl 0 (by omega)
  rw [hgot] at hR
  have hput := fun W A c (ho : Rd .u8 W W.heap.size A 10 C) => Put_any 0 0 9 17 1 2 C A 10 c _ W ho (Nat.le_refl _) (by omega) (by omega) (by omega) (by omega) (by omega)
  unfold PutRes at hput
  simp only [← hX] at hput
  have hudp := fun W A (ho : Rd .u8 W W.heap.size A 2 [104, 105]) => pUdp_any 1 2 5 53 [104, 105] A 2 2 _ W ho (Nat.le_refl _) (by omega) (by omega) (by omega) (by omega) (by omega) (by omega)
  unfold Gives at hudp
  simp only [← hC] at hudp
  have hpg := fun W A c (ho : Rd .u8 W W.heap.size A 30 X) (h1 : 30 ≤ c) (h2 : c ≤ 9223372036854775807) => PGet_any ⟨20, ((30 : Nat) : Int), 9, 17, 1, 2⟩ X A 30 c _ W ho (Nat.le_refl _) h1 h2 (by omega) (by show (0:Int) ≤ 1 ∧ (1:Int) ≤ _; omega) (by show (0:Int) ≤ 2 ∧ (2:Int) ≤ _; omega)
  rw [hR] at hpg
  simp only [Tells, Pt.val, Hd.val, gotP, Pt.z, Hd.z, if_true] at hpg
  clear hR hgot hX hC hb8
  replace hCl := Lib.hid hCl
  replace hXl := Lib.hid hXl
  replace hget := Lib.hid hget
  replace hput := Lib.hid hput
  replace hudp := Lib.hid hudp
  replace hpg := Lib.hid hpg
  go_enter Try.func10, Try.ntmps10
  have hcv := Lib.run_convert_bytes_const (P := Try.prog) w 24 5 #[.int .u8 104, .int .u8 105] 2 2 Try.underlying24 Try.underlying5
  rw [show (#[Value.int .u8 104, Value.int .u8 105] : Array Value).size = 2 from rfl] at hcv
  have rd0 := Rd.newF .u8 w 5 (2, 2 + 1) [104, 105] (fun x hx => by simp at hx; exact u8_inr (by omega)) #[.int .u8 104, .int .u8 105] rfl 2 rfl
  rw [show w.heap.size + 1 = (w.alloc (.cells #[.int .u8 104, .int .u8 105] 5 (2, 2 + 1))).heap.size by simp] at rd0
  have bel := bel_alloc w (.cells #[.int .u8 104, .int .u8 105] 5 (2, 2 + 1))
  go_wp2_with fail
  refine (hudp.out _ _ rd0).mono ?_
  rintro e w1 ⟨v1, rfl, own1, bel1⟩
  replace own1 := own1.mono_ bel.size
  replace bel := bel_after bel bel1
  clear bel1 rd0
  obtain ⟨A1, c1, rfl, hc1, hc2, rd1⟩ := own1.form hCl.out
  clear own1
  go_wp2_with fail
  refine (hput.out _ _ _ rd1).mono ?_
  rintro e w2 ⟨v2, rfl, own2, bel2⟩
  replace own2 := own2.mono_ bel.size
  replace bel := bel_after bel bel2
  clear bel2 rd1 hc1 hc2
  obtain ⟨g, c2, rfl, hc1, hc2, hg1, hg2⟩ := own2.formG hXl.out (by omega)
  unfold maxLen at hc2
  have hge := Get_any X (some ⟨g, 0, none⟩) 30 c2 _ w2 (own2.rd hXl.out) (Nat.le_refl _) hc1 (by omega) (by omega)
  rw [hget.out.1, hget.out.2] at hge
  simp only [Hd.val] at hge
  replace hge := Lib.hid hge
  go_wp2_with fail
  refine hge.out.mono ?_
  rintro e w3 ⟨rfl, hb3⟩
  replace own2 := own2.below hb3
  replace bel := bel_after bel hb3
  clear hb3 hge hget
  have hgl : g < w3.heap.size := (own2.lt g rfl).2
  have bh := (Blk.new w3 35 #[.int .i64 0, .int .i64 0, .int .i64 0, .int .i64 0, .int .u32 0, .int .u32 0]).setRow #[.int .i64 20, .int .i64 30, .int .i64 9, .int .i64 17, .int .u32 1, .int .u32 2]
  replace own2 := (own2.alloc (.cells #[.int .i64 0, .int .i64 0, .int .i64 0, .int .i64 0, .int .u32 0, .int .u32 0] 35)).upd (Upd.row (w3.alloc (.cells #[.int .i64 0, .int .i64 0, .int .i64 0, .int .i64 0, .int .u32 0, .int .u32 0] 35)) w3.heap.size #[.int .i64 20, .int .i64 30, .int .i64 9, .int .i64 17, .int .u32 1, .int .u32 2]) (by intro x hx e; simp [Value.ownBlock] at hx; omega)
  replace bel := below_setRow (bel.alloc bel.size (.cells #[.int .i64 0, .int .i64 0, .int .i64 0, .int .i64 0, .int .u32 0, .int .u32 0] 35)) bel.size #[.int .i64 20, .int .i64 30, .int .i64 9, .int .i64 17, .int .u32 1, .int .u32 2]
  go_wp2_with (first
    | (refine wpList_stRow rfl rfl rfl rfl rfl (Blk.new w3 _ _) hd_size rfl (by simp [Value.oneCell']) ?_; generalize (w3.alloc (.cells #[.int .i64 0, .int .i64 0, .int .i64 0, .int .i64 0, .int .u32 0, .int .u32 0] 35)).setRow w3.heap.size #[.int .i64 20, .int .i64 30, .int .i64 9, .int .i64 17, .int .u32 1, .int .u32 2] = W3 at *; generalize w3.heap.size = g3 at *)
    | (refine wpList_ldRow rfl rfl rfl bh Try.underlying35 hd_size ?_))
  refine (hpg.out _ _ _ (own2.rd hXl.out) hc1 (by omega)).mono ?_
  rintro e w4 ⟨rfl, hb4⟩
  replace bh := bh.bel hb4
  replace bel := bel_after bel hb4
  clear hb4 own2
  have hgl3 := bh.lt
  have bp := (Blk.new w4 39 #[.int .i64 0, .int .u16 0, .int .u16 0, .int .i64 0, .int .i64 0, .int .i64 0, .bool false, .int .i64 0, .int .i64 0, .int .i64 0, .int .i64 0, .int .u32 0, .int .u32 0, .int .i64 0, .bool false]).setRow #[.int .i64 17, .int .u16 5, .int .u16 53, .int .i64 0, .int .i64 0, .int .i64 0, .bool false, .int .i64 0, .int .i64 0, .int .i64 0, .int .i64 0, .int .u32 0, .int .u32 0, .int .i64 0, .bool false]
  replace bh := (bh.alloc (.cells #[.int .i64 0, .int .u16 0, .int .u16 0, .int .i64 0, .int .i64 0, .int .i64 0, .bool false, .int .i64 0, .int .i64 0, .int .i64 0, .int .i64 0, .int .u32 0, .int .u32 0, .int .i64 0, .bool false] 39)).setRow_far (g' := w4.heap.size) (by omega) #[.int .i64 17, .int .u16 5, .int .u16 53, .int .i64 0, .int .i64 0, .int .i64 0, .bool false, .int .i64 0, .int .i64 0, .int .i64 0, .int .i64 0, .int .u32 0, .int .u32 0, .int .i64 0, .bool false]
  replace bel := below_setRow (bel.alloc bel.size (.cells #[.int .i64 0, .int .u16 0, .int .u16 0, .int .i64 0, .int .i64 0, .int .i64 0, .bool false, .int .i64 0, .int .i64 0, .int .i64 0, .int .i64 0, .int .u32 0, .int .u32 0, .int .i64 0, .bool false] 39)) bel.size #[.int .i64 17, .int .u16 5, .int .u16 53, .int .i64 0, .int .i64 0, .int .i64 0, .bool false, .int .i64 0, .int .i64 0, .int .i64 0, .int .i64 0, .int .u32 0, .int .u32 0, .int .i64 0, .bool false]
  have p1 := bp.cell 1
  have p2 := bp.cell 2
  have h1 := bh.cell 1
  go_wp2_with (refine wpList_stRow rfl rfl rfl rfl rfl (Blk.new w4 _ _) pt_size rfl (by simp [Value.oneCell']) ?_; generalize (w4.alloc (.cells #[.int .i64 0, .int .u16 0, .int .u16 0, .int .i64 0, .int .i64 0, .int .i64 0, .bool false, .int .i64 0, .int .i64 0, .int .i64 0, .int .i64 0, .int .u32 0, .int .u32 0, .int .i64 0, .bool false] 39)).setRow w4.heap.size #[.int .i64 17, .int .u16 5, .int .u16 53, .int .i64 0, .int .i64 0, .int .i64 0, .bool false, .int .i64 0, .int .i64 0, .int .i64 0, .int .i64 0, .int .u32 0, .int .u32 0, .int .i64 0, .bool false] = W4 at *; generalize w4.heap.size = g4 at *)
  go_ret
  exact ⟨rfl, bel⟩
set_option maxRecDepth 100000 in
set_option maxHeartbeats 4000000 in
theorem FanlightFrames_walk (wt s d a b f ttl bit : Int) (l : List Int) (A : Option Addr) (len cap : Nat) (w : World) (hr : Rd .u8 w w.heap.size A len l) (hlc : len ≤ cap) (hcm : cap ≤ maxLen) (hs : 0 ≤ s ∧ s ≤ 4294967295) (hd : 0 ≤ d ∧ d ≤ 4294967295) (ha : 0 ≤ a ∧ a ≤ 65535) (hb : 0 ≤ b ∧ b ≤ 65535) :
    Calls Try.prog 3 #[.agg #[.int .i64 wt, .int .u32 s, .int .u32 d, .int .u16 a, .int .u16 b, .int .i64 f, .slice A len cap], .int .i64 ttl, .int .i64 bit] w fun e w' => e = .returned (.bool true) ∧ Below w.heap.size w w' := by
  unfold maxLen at hcm
  obtain ⟨k, hk, hk4⟩ := modn wt 4 (by omega)
  have hkv : Value.int .u64 ((IntKind.u64.wrap wt).tmod 4) = .int .u64 (k : Int) := by rw [hk]
  have hkb : k < 4 := by omega
  obtain ⟨t, htn, ht256⟩ := modn ttl 256 (by omega)
  have htv : Value.int .u64 ((IntKind.u64.wrap ttl).tmod 256) = .int .u64 (t : Int) := by rw [htn]
  have ht : 0 ≤ (t : Int) ∧ (t : Int) ≤ 255 := by omega
  clear hk htn hk4 ht256
  obtain ⟨m, hmn, hm1, hm2⟩ := minc 60 (by omega) len
  have hj0 : (0 : Int) ≤ (m : Int) := by omega
  have hj1 : (m : Int) ≤ (cap : Int) := by omega
  have hj2 : m ≤ cap := by omega
  have hrt := hr.take hm1
  obtain ⟨L, hL⟩ : ∃ L, L = l.take m := ⟨_, rfl⟩
  rw [← hL] at hrt
  have hLl := hrt.len
  clear hL hr
  have hl8 : Bytes8 L := fun x hx => inr_u8 (hrt.rng x hx)
  have hLn : L.length ≤ 60 := by omega
  have hP := carP_bd k
  have hcl := car_len60 k s d a b f L hkb hLn
  have hget := life_get (t := (t : Int)) (P := carP k) (s := s) (d := d) (l := carL k s d a b f L) ht hP hs hd (by omega)
  have hsum := life_sum (t := (t : Int)) (P := carP k) (s := s) (d := d) (l := carL k s d a b f L) ht hP hs hd (by omega)
  have hgot := (lifeR t (carP k) s d (carL k s d a b f L)).trans (car_got hs hd ha hb hl8 rfl rfl k hkb)
  have hbit := fun j m h1 h2 h3 => life_bit (k := k) (t := (t : Int)) (f := f) ht hs hd ha hb hl8 hLn hkb j m h1 h2 h3 _ rfl
  have c0 : k = 0 → carP k = 17 ∧ carL k s d a b f L = udpL s d a b L := fun h => by subst h; exact ⟨rfl, rfl⟩
  have c1 : k = 1 → carP k = 6 ∧ carL k s d a b f L = tcpL s d a b f L := fun h => by subst h; exact ⟨rfl, rfl⟩
  have c2 : k = 2 → carP k = 1 ∧ carL k s d a b f L = echoL false a L := fun h => by subst h; exact ⟨rfl, rfl⟩
  have c3 : k = 3 → carP k = 1 ∧ carL k s d a b f L = echoL true a L := fun h => by subst h; exact ⟨rfl, rfl⟩
  have gs : (gotP k a b f).src = a := by
    unfold gotP
    split
    · rfl
    split
    · rfl
    · rfl
  have gd : k < 2 → (gotP k a b f).dst = b := fun h => by
    have : k = 0 ∨ k = 1 := by omega
    rcases this with rfl | rfl <;> rfl
  have gf : k = 1 → (gotP k a b f).flags = f % 256 := fun h => by subst h; rfl
  obtain ⟨P, hPe⟩ : ∃ P, P = carP k := ⟨_, rfl⟩
  obtain ⟨C, hCe⟩ : ∃ C, C = carL k s d a b f L := ⟨_, rfl⟩
  rw [← hPe, ← hCe] at hget hsum hgot c0 c1 c2 c3
  simp only [← hPe, ← hCe] at hbit
  rw [← hPe] at hP
  rw [← hCe] at hcl
  clear hPe hCe hLn hl8
  obtain ⟨nc, hnc⟩ : ∃ nc, C.length = nc := ⟨_, rfl⟩
  have hXl : (putL t P s d C).length = 20 + nc := by rw [put_len, hnc]
  obtain ⟨n, hn⟩ : ∃ n, 20 + nc = n := ⟨_, rfl⟩
  rw [hn] at hXl
  have hput := fun W A c (ho : Rd .u8 W W.heap.size A nc C) => Put_any 0 0 t P s d C A nc c _ W ho (Nat.le_refl _) ht hP hs hd (by omega)
  unfold PutRes at hput
  rw [hXl] at hget hgot
  obtain ⟨X, hXe⟩ : ∃ X, X = putL t P s d C := ⟨_, rfl⟩
  rw [← hXe] at hget hsum hgot hXl
  simp only [← hXe] at hbit hput
  rw [hXl] at hbit
  clear hXe
  have hn1 : 28 ≤ n ∧ n ≤ 100 := by omega
  have hnc1 : 0 < nc := by omega
  clear hn hcl
  obtain ⟨⟨xpr, xsr, xds, xfl, xki, xco, xer, ⟨xi0, xi1, xi2, xi3, xi4, xi5⟩, xpa, xba⟩, hQ⟩ : ∃ Q, Q = gotP k a b f := ⟨_, rfl⟩
  rw [← hQ] at hgot gs gd gf
  simp only at gs gd gf
  clear hQ
  have hpg := fun W A c F (ho : Rd .u8 W W.heap.size A n F) (h1 : n ≤ c) (h2 : c ≤ 9223372036854775807) => PGet_any ⟨20, n, t, P, s, d⟩ F A n c _ W ho (Nat.le_refl _) h1 h2 (by omega) hs hd
  have hpx := fun W A c ho h1 h2 => hpg W A c X ho h1 h2
  simp only [hgot] at hpx
  simp only [Pt.val, Hd.val] at hpx
  clear hgot
  obtain ⟨q, hq, hqn⟩ := modn bit (8 * (n : Int) - 8) (by omega)
  have hqv : Value.int .u64 ((IntKind.u64.wrap bit).tmod (8 * (n : Int) - 8)) = .int .u64 (q : Int) := by rw [hq]
  clear hq
  obtain ⟨j, hj, hj0b, hj1b⟩ : ∃ j : Nat, (8 + (q : Int)) / 8 = (j : Int) ∧ 1 ≤ j ∧ j < n := ⟨(8 + q) / 8, by omega, by omega, by omega⟩
  obtain ⟨mm, hmm, hmm1⟩ : ∃ mm : Nat, (8 + (q : Int)) % 8 = (mm : Int) ∧ mm < 8 := ⟨(8 + q) % 8, by omega, by omega⟩
  replace hbit := hbit j mm hj0b hj1b hmm1
  have hland := land255 f
  replace hget := Lib.hid hget
  replace hsum := Lib.hid hsum
  replace hbit := Lib.hid hbit
  replace hput := Lib.hid hput
  replace hpg := Lib.hid hpg
  replace hpx := Lib.hid hpx
  replace hXl := Lib.hid hXl
  replace hnc := Lib.hid hnc
  replace hLl := Lib.hid hLl
  replace c0 := Lib.hid c0
  replace c1 := Lib.hid c1
  replace c2 := Lib.hid c2
  replace c3 := Lib.hid c3
  replace gs := Lib.hid gs
  replace gd := Lib.hid gd
  replace gf := Lib.hid gf
  go_enter Try.func3, Try.ntmps3
  go_upto_region 1 with fail
  have bn := Blk.new w 26 #[.int .i64 wt, .int .u32 s, .int .u32 d, .int .u16 a, .int .u16 b, .int .i64 f, .slice A len cap]
  have bel := bel_alloc w (.cells #[.int .i64 wt, .int .u32 s, .int .u32 d, .int .u16 a, .int .u16 b, .int .i64 f, .slice A len cap] 26)
  generalize w.alloc (.cells #[.int .i64 wt, .int .u32 s, .int .u32 d, .int .u16 a, .int .u16 b, .int .i64 f, .slice A len cap] 26) = W at *
  have q0 := bn.cell 0
  have q1 := bn.cell 1
  have q2 := bn.cell 2
  have q3 := bn.cell 3
  have q4 := bn.cell 4
  have q6 := bn.cell 6
  have rdl := hrt.below bel
  have hsz := bel.size
  go_wp2_with fail
  refine (pUdp_any s d a b L A m cap _ W rdl hsz hj2 (by omega) hs hd ha hb).mono ?_
  rintro e w1 ⟨v1, rfl, own1, bel1⟩
  replace own1 := own1.mono_ bel.size
  replace bn := bn.bel bel1
  replace bel := bel_after bel bel1
  clear bel1 q0 q1 q2 q3 q4 q6 hsz rdl hj0 hj1 hmn
  go_upto_block 0 with fail
  go_cut [9, 10] (fun s9 s10 wx => s10 = .int .i64 P ∧ Own .u8 5 wx w.heap.size s9 C ∧ Blk wx w.heap.size 26 #[.int .i64 wt, .int .u32 s, .int .u32 d, .int .u16 a, .int .u16 b, .int .i64 f, .slice A len cap] ∧ Below w.heap.size w wx)
  case first =>
    have q1 := bn.cell 1
    have q2 := bn.cell 2
    have q3 := bn.cell 3
    have q4 := bn.cell 4
    have q5 := bn.cell 5
    have rdl := hrt.below bel
    have hsz := bel.size
    have hk' : k = 0 ∨ k = 1 ∨ k = 2 ∨ k = 3 := by omega
    rcases hk' with hk0 | hk0 | hk0 | hk0
    · obtain ⟨e1, e2⟩ := c0.out hk0
      have d1 : ((k : Int) == 1) = false := by simp; omega
      have d2 : ((k : Int) == 2) = false := by simp; omega
      have d3 : ((k : Int) == 3) = false := by simp; omega
      rw [← e2] at own1
      clear e2
      replace hk0 := Lib.hid hk0
      replace e1 := Lib.hid e1
      go_wp2_with fail
      go_meet
      exact ⟨by rw [e1.out], own1, bn, bel⟩
    · obtain ⟨e1, e2⟩ := c1.out hk0
      have d1 : ((k : Int) == 1) = true := by simp; omega
      have hT := pTcp_any s d a b f L A m cap _ w1 rdl hsz hj2 (by omega) hs hd ha hb
      rw [← e2] at hT
      clear e2
      replace hT := Lib.hid hT
      replace hk0 := Lib.hid hk0
      replace e1 := Lib.hid e1
      go_wp2_with fail
      refine hT.out.mono ?_
      rintro e w2 ⟨v2, rfl, own2, bel2⟩
      replace own2 := own2.mono_ bel.size
      replace bn := bn.bel bel2
      replace bel := bel_after bel bel2
      clear q1 q2 q3 q4 q5 bel2
      go_wp2_with fail
      go_meet
      exact ⟨by rw [e1.out], own2, bn, bel⟩
    · obtain ⟨e1, e2⟩ := c2.out hk0
      have d1 : ((k : Int) == 1) = false := by simp; omega
      have d2 : ((k : Int) == 2) = true := by simp; omega
      have d3 : ((k : Int) == 3) = false := by simp; omega
      have hT := pEcho_any false a L A m cap _ w1 rdl hsz hj2 (by omega) ha
      rw [← e2] at hT
      clear e2
      replace hT := Lib.hid hT
      replace hk0 := Lib.hid hk0
      replace e1 := Lib.hid e1
      go_wp2_with fail
      refine hT.out.mono ?_
      rintro e w2 ⟨v2, rfl, own2, bel2⟩
      replace own2 := own2.mono_ bel.size
      replace bn := bn.bel bel2
      replace bel := bel_after bel bel2
      clear q1 q2 q3 q4 q5 bel2
      go_wp2_with fail
      go_meet
      exact ⟨by rw [e1.out], own2, bn, bel⟩
    · obtain ⟨e1, e2⟩ := c3.out hk0
      have d1 : ((k : Int) == 1) = false := by simp; omega
      have d2 : ((k : Int) == 2) = false := by simp; omega
      have d3 : ((k : Int) == 3) = true := by simp; omega
      have hT := pEcho_any true a L A m cap _ w1 rdl hsz hj2 (by omega) ha
      rw [← e2] at hT
      clear e2
      replace hT := Lib.hid hT
      replace hk0 := Lib.hid hk0
      replace e1 := Lib.hid e1
      go_wp2_with fail
      refine hT.out.mono ?_
      rintro e w2 ⟨v2, rfl, own2, bel2⟩
      replace own2 := own2.mono_ bel.size
      replace bn := bn.bel bel2
      replace bel := bel_after bel bel2
      clear q1 q2 q3 q4 q5 bel2
      go_wp2_with fail
      go_meet
      exact ⟨by rw [e1.out], own2, bn, bel⟩
  case rest =>
    clear own1 bn bel c0 c1 c2 c3 hrt hj2
    obtain ⟨rfl, own1, bn, bel⟩ := hcut
    obtain ⟨A1, c1, rfl, hc1, hc2, rd1⟩ := own1.form hnc.out
    have q1 := bn.cell 1
    have q2 := bn.cell 2
    have hpt := hput.out wc A1 c1 rd1
    clear own1 rd1 hput
    replace hpt := Lib.hid hpt
    go_wp2_with fail
    refine hpt.out.mono ?_
    rintro e w2 ⟨v2, rfl, own2, bel2⟩
    replace own2 := own2.mono_ bel.size
    replace bn := bn.bel bel2
    replace bel := bel_after bel bel2
    clear bel2 hc1 hc2 q1 q2 hpt
    obtain ⟨g, c2, rfl, hc1, hc2, hg1, hg2⟩ := own2.formG hXl.out (by omega)
    unfold maxLen at hc2
    have hge := Get_any X (some ⟨g, 0, none⟩) n c2 _ w2 (own2.rd hXl.out) (Nat.le_refl _) hc1 (by omega) (by omega)
    rw [hget.out.1, hget.out.2] at hge
    simp only [Hd.val] at hge
    replace hge := Lib.hid hge
    go_wp2_with fail
    refine hge.out.mono ?_
    rintro e w3 ⟨rfl, hb3⟩
    replace own2 := own2.below hb3
    replace bn := bn.bel hb3
    replace bel := bel_after bel hb3
    clear hb3 hge hget
    have hgl : g < w3.heap.size := (own2.lt g rfl).2
    have hnl := bn.lt
    have hg3w : w.heap.size ≤ w3.heap.size := bel.size
    have bh := (Blk.new w3 35 #[.int .i64 0, .int .i64 0, .int .i64 0, .int .i64 0, .int .u32 0, .int .u32 0]).setRow #[.int .i64 20, .int .i64 (n : Int), .int .i64 (t : Int), .int .i64 P, .int .u32 s, .int .u32 d]
    replace bn := (bn.alloc (.cells #[.int .i64 0, .int .i64 0, .int .i64 0, .int .i64 0, .int .u32 0, .int .u32 0] 35)).setRow_far (g' := w3.heap.size) (by omega) #[.int .i64 20, .int .i64 (n : Int), .int .i64 (t : Int), .int .i64 P, .int .u32 s, .int .u32 d]
    replace own2 := (own2.alloc (.cells #[.int .i64 0, .int .i64 0, .int .i64 0, .int .i64 0, .int .u32 0, .int .u32 0] 35)).upd (Upd.row (w3.alloc (.cells #[.int .i64 0, .int .i64 0, .int .i64 0, .int .i64 0, .int .u32 0, .int .u32 0] 35)) w3.heap.size #[.int .i64 20, .int .i64 (n : Int), .int .i64 (t : Int), .int .i64 P, .int .u32 s, .int .u32 d]) (by intro x hx e; simp [Value.ownBlock] at hx; omega)
    replace bel := below_setRow (bel.alloc bel.size (.cells #[.int .i64 0, .int .i64 0, .int .i64 0, .int .i64 0, .int .u32 0, .int .u32 0] 35)) bel.size #[.int .i64 20, .int .i64 (n : Int), .int .i64 (t : Int), .int .i64 P, .int .u32 s, .int .u32 d]
    go_wp2_with (first
      | (refine wpList_stRow rfl rfl rfl rfl rfl (Blk.new w3 _ _) hd_size rfl (by simp [Value.oneCell']) ?_; generalize (w3.alloc (.cells #[.int .i64 0, .int .i64 0, .int .i64 0, .int .i64 0, .int .u32 0, .int .u32 0] 35)).setRow w3.heap.size #[.int .i64 20, .int .i64 (n : Int), .int .i64 (t : Int), .int .i64 P, .int .u32 s, .int .u32 d] = W3 at *; generalize w3.heap.size = g3 at *)
      | (refine wpList_ldRow rfl rfl rfl bh Try.underlying35 hd_size ?_))
    refine (hpx.out _ _ _ (own2.rd hXl.out) hc1 (by omega)).mono ?_
    rintro e w4 ⟨rfl, hb4⟩
    replace own2 := own2.below hb4
    replace bn := bn.bel hb4
    replace bh := bh.bel hb4
    replace bel := bel_after bel hb4
    clear hb4 hpx hgl hnl
    have hgl : g < w4.heap.size := (own2.lt g rfl).2
    have hnl := bn.lt
    have hhl := bh.lt
    have hg4w : w.heap.size ≤ w4.heap.size := bel.size
    have bp := (Blk.new w4 39 #[.int .i64 0, .int .u16 0, .int .u16 0, .int .i64 0, .int .i64 0, .int .i64 0, .bool false, .int .i64 0, .int .i64 0, .int .i64 0, .int .i64 0, .int .u32 0, .int .u32 0, .int .i64 0, .bool false]).setRow #[.int .i64 xpr, .int .u16 xsr, .int .u16 xds, .int .i64 xfl, .int .i64 xki, .int .i64 xco, .bool xer, .int .i64 xi0, .int .i64 xi1, .int .i64 xi2, .int .i64 xi3, .int .u32 xi4, .int .u32 xi5, .int .i64 xpa, .bool xba]
    replace bn := (bn.alloc (.cells #[.int .i64 0, .int .u16 0, .int .u16 0, .int .i64 0, .int .i64 0, .int .i64 0, .bool false, .int .i64 0, .int .i64 0, .int .i64 0, .int .i64 0, .int .u32 0, .int .u32 0, .int .i64 0, .bool false] 39)).setRow_far (g' := w4.heap.size) (by omega) #[.int .i64 xpr, .int .u16 xsr, .int .u16 xds, .int .i64 xfl, .int .i64 xki, .int .i64 xco, .bool xer, .int .i64 xi0, .int .i64 xi1, .int .i64 xi2, .int .i64 xi3, .int .u32 xi4, .int .u32 xi5, .int .i64 xpa, .bool xba]
    replace bh := (bh.alloc (.cells #[.int .i64 0, .int .u16 0, .int .u16 0, .int .i64 0, .int .i64 0, .int .i64 0, .bool false, .int .i64 0, .int .i64 0, .int .i64 0, .int .i64 0, .int .u32 0, .int .u32 0, .int .i64 0, .bool false] 39)).setRow_far (g' := w4.heap.size) (by omega) #[.int .i64 xpr, .int .u16 xsr, .int .u16 xds, .int .i64 xfl, .int .i64 xki, .int .i64 xco, .bool xer, .int .i64 xi0, .int .i64 xi1, .int .i64 xi2, .int .i64 xi3, .int .u32 xi4, .int .u32 xi5, .int .i64 xpa, .bool xba]
    replace own2 := (own2.alloc (.cells #[.int .i64 0, .int .u16 0, .int .u16 0, .int .i64 0, .int .i64 0, .int .i64 0, .bool false, .int .i64 0, .int .i64 0, .int .i64 0, .int .i64 0, .int .u32 0, .int .u32 0, .int .i64 0, .bool false] 39)).upd (Upd.row (w4.alloc (.cells #[.int .i64 0, .int .u16 0, .int .u16 0, .int .i64 0, .int .i64 0, .int .i64 0, .bool false, .int .i64 0, .int .i64 0, .int .i64 0, .int .i64 0, .int .u32 0, .int .u32 0, .int .i64 0, .bool false] 39)) w4.heap.size #[.int .i64 xpr, .int .u16 xsr, .int .u16 xds, .int .i64 xfl, .int .i64 xki, .int .i64 xco, .bool xer, .int .i64 xi0, .int .i64 xi1, .int .i64 xi2, .int .i64 xi3, .int .u32 xi4, .int .u32 xi5, .int .i64 xpa, .bool xba]) (by intro x hx e; simp [Value.ownBlock] at hx; omega)
    replace bel := below_setRow (bel.alloc bel.size (.cells #[.int .i64 0, .int .u16 0, .int .u16 0, .int .i64 0, .int .i64 0, .int .i64 0, .bool false, .int .i64 0, .int .i64 0, .int .i64 0, .int .i64 0, .int .u32 0, .int .u32 0, .int .i64 0, .bool false] 39)) bel.size #[.int .i64 xpr, .int .u16 xsr, .int .u16 xds, .int .i64 xfl, .int .i64 xki, .int .i64 xco, .bool xer, .int .i64 xi0, .int .i64 xi1, .int .i64 xi2, .int .i64 xi3, .int .u32 xi4, .int .u32 xi5, .int .i64 xpa, .bool xba]
    go_upto_region 13 with (refine wpList_stRow rfl rfl rfl rfl rfl (Blk.new w4 _ _) pt_size rfl (by simp [Value.oneCell']) ?_; generalize (w4.alloc (.cells #[.int .i64 0, .int .u16 0, .int .u16 0, .int .i64 0, .int .i64 0, .int .i64 0, .bool false, .int .i64 0, .int .i64 0, .int .i64 0, .int .i64 0, .int .u32 0, .int .u32 0, .int .i64 0, .bool false] 39)).setRow w4.heap.size #[.int .i64 xpr, .int .u16 xsr, .int .u16 xds, .int .i64 xfl, .int .i64 xki, .int .i64 xco, .bool xer, .int .i64 xi0, .int .i64 xi1, .int .i64 xi2, .int .i64 xi3, .int .u32 xi4, .int .u32 xi5, .int .i64 xpa, .bool xba] = W4 at *; generalize w4.heap.size = g4 at *)
    clear hgl hnl
    go_cut [162] (fun s162 wx => s162 = .bool false ∧ Own .u8 5 wx w.heap.size (.slice (some ⟨g, 0, none⟩) n c2) X ∧ Blk wx g3 35 #[.int .i64 20, .int .i64 (n : Int), .int .i64 (t : Int), .int .i64 P, .int .u32 s, .int .u32 d] ∧ Blk wx g4 39 #[.int .i64 xpr, .int .u16 xsr, .int .u16 xds, .int .i64 xfl, .int .i64 xki, .int .i64 xco, .bool xer, .int .i64 xi0, .int .i64 xi1, .int .i64 xi2, .int .i64 xi3, .int .u32 xi4, .int .u32 xi5, .int .i64 xpa, .bool xba] ∧ Below w.heap.size w wx)
    case first =>
      go_wp2_with fail
      refine (stands_any _).mono ?_
      rintro e w5 ⟨rfl, hb5⟩
      replace own2 := own2.below hb5
      replace bn := bn.bel hb5
      replace bh := bh.bel hb5
      replace bp := bp.bel hb5
      replace bel := bel_after bel hb5
      clear hb5
      have hof := Of_any (X.take 20) (some ⟨g, 0, none⟩) 20 c2 _ w5 (by omega) ((own2.rd hXl.out).take (by omega : 20 ≤ n))
      rw [hsum.out] at hof
      replace hof := Lib.hid hof
      have k0 : (20 : Int) ≤ (c2 : Int) := by omega
      have k1 : 20 ≤ c2 := by omega
      have q1 := bn.cell 1
      have q2 := bn.cell 2
      have q3 := bn.cell 3
      have q4 := bn.cell 4
      have q5 := bn.cell 5
      have h2 := bh.cell 2
      have h4 := bh.cell 4
      have h5 := bh.cell 5
      have p1 := (bp.cell 1).trans (show _ = some (Value.int .u16 a) by rw [← show xsr = a from gs.out]; rfl)
      have hk' : k = 1 ∨ k = 0 ∨ 2 ≤ k := by omega
      clear hbit hpg hqv hqn hj hj0b hj1b hmm hmm1 hkv hs hd ha hb hP hm1 hm2 hlc hcm hn1 hnc1 hXl hnc hLl hsum hc1 hc2 hg1 hg2 hg3w hg4w hhl
      rcases hk' with hk0 | hk0 | hk0
      · have d1 : ((k : Int) == 1) = true := by simp; omega
        have d2 : decide ((k : Int) < 2) = true := by simp; omega
        have p2 := (bp.cell 2).trans (show _ = some (Value.int .u16 b) by rw [← show xds = b from gd.out (by omega)]; rfl)
        have p3 := (bp.cell 3).trans (show _ = some (Value.int .i64 (f % 256)) by rw [← show xfl = f % 256 from gf.out hk0]; rfl)
        replace hk0 := Lib.hid hk0
        replace hkb := Lib.hid hkb
        replace gs := Lib.hid gs
        go_wp2_with (go_at_call 11; refine hof.out.mono ?_; rintro e w6 ⟨rfl, rfl⟩)
        go_meet
        exact ⟨rfl, own2, bh, bp, bel⟩
      · have d1 : ((k : Int) == 1) = false := by simp; omega
        have d2 : decide ((k : Int) < 2) = true := by simp; omega
        have p2 := (bp.cell 2).trans (show _ = some (Value.int .u16 b) by rw [← show xds = b from gd.out (by omega)]; rfl)
        replace hk0 := Lib.hid hk0
        replace hkb := Lib.hid hkb
        replace gs := Lib.hid gs
        go_wp2_with (go_at_call 11; refine hof.out.mono ?_; rintro e w6 ⟨rfl, rfl⟩)
        go_meet
        exact ⟨rfl, own2, bh, bp, bel⟩
      · have d1 : ((k : Int) == 1) = false := by simp; omega
        have d2 : decide ((k : Int) < 2) = false := by simp; omega
        replace hk0 := Lib.hid hk0
        replace hkb := Lib.hid hkb
        replace gs := Lib.hid gs
        go_wp2_with (go_at_call 11; refine hof.out.mono ?_; rintro e w6 ⟨rfl, rfl⟩)
        go_meet
        exact ⟨rfl, own2, bh, bp, bel⟩
    case rest =>
      clear own2 bn bh bp bel
      obtain ⟨rfl, own2, bh, bp, bel⟩ := hcut
      obtain ⟨cj, fj, xj⟩ := own2.at_ hXl.out (j := j) hj1b
      replace xj := inr_u8 xj
      replace hbit := hbit.out
      obtain ⟨xo, hxo⟩ : ∃ v, v = X.getD j 0 := ⟨_, rfl⟩
      rw [← hxo] at cj xj hbit
      clear hxo
      have hxr := xor_u8 xo mm xj hmm1
      have hfb := flip_bd ⟨xo.toNat, by omega⟩ ⟨mm, hmm1⟩
      simp only at hfb
      obtain ⟨fx, hfx⟩ : ∃ fx, fx = flip xo.toNat mm := ⟨_, rfl⟩
      rw [← hfx] at hxr hfb hbit
      clear hfx
      have own3 := (own2.set hXl.out j (x := (fx : Int)) (u8_inr (by omega))).drew
      have hl3 : (X.set j (fx : Int)).length = n := by rw [List.length_set]; exact hXl.out
      have hne3 := own2.ne bh (by decide)
      have hne4 := own2.ne bp (by decide)
      have hnb : (j : Int) < (n : Int) := by omega
      have hj0' : (0 : Int) ≤ (j : Int) := by omega
      go_upto_region 16 with fail
      go_region
      replace bh := (bh.far (p := ⟨g, j, none⟩) hne3 (.int .u8 (fx : Int))).drew
      replace bp := (bp.far (p := ⟨g, j, none⟩) hne4 (.int .u8 (fx : Int))).drew
      replace bel := (bel.setCell (p := ⟨g, j, none⟩) hg1 (.int .u8 (fx : Int))).drew
      clear cj fj own2
      generalize X.set j (fx : Int) = F at *
      generalize (wc.setCell ⟨g, j, none⟩ (.int .u8 (fx : Int))).drew = W5 at *
      have hge := Get_any F (some ⟨g, 0, none⟩) n c2 _ W5 (own3.rd hl3) (Nat.le_refl _) hc1 (by omega) (by omega)
      rcases hbit with ⟨h20, hE⟩ | ⟨h20, hE, hH, hB⟩
      · have hE1 : (getE F != 0) = true := by simpa using hE
        have hv : (hdIf F (getE F)).val = Hd.z.val := by unfold hdIf; rw [if_neg hE]
        rw [hv] at hge
        simp only [Hd.val, Hd.z] at hge
        generalize getE F = E at *
        replace hge := Lib.hid hge
        clear hE hv
        go_wp2_with fail
        refine hge.out.mono ?_
        rintro e w6 ⟨rfl, hb6⟩
        replace bh := bh.bel hb6
        replace bel := bel_after bel hb6
        clear hb6 hge
        replace bel := below_setRow bel hg3w #[.int .i64 0, .int .i64 0, .int .i64 0, .int .i64 0, .int .u32 0, .int .u32 0]
        go_wp2_with (refine wpList_stRow rfl rfl rfl rfl rfl bh hd_size rfl (by simp [Value.oneCell']) ?_)
        go_ret
        exact ⟨rfl, bel⟩
      · rw [hE, hH] at hge
        simp only [Hd.val] at hge
        replace hge := Lib.hid hge
        clear hE hH
        go_wp2_with fail
        refine hge.out.mono ?_
        rintro e w6 ⟨rfl, hb6⟩
        replace own3 := own3.below hb6
        replace bh := bh.bel hb6
        replace bp := bp.bel hb6
        replace bel := bel_after bel hb6
        clear hb6 hge
        have bh2 := bh.setRow #[.int .i64 20, .int .i64 (n : Int), .int .i64 (t : Int), .int .i64 P, .int .u32 s, .int .u32 d]
        replace bp := bp.setRow_far (g' := g3) (by omega) #[.int .i64 20, .int .i64 (n : Int), .int .i64 (t : Int), .int .i64 P, .int .u32 s, .int .u32 d]
        replace own3 := own3.upd (Upd.row w6 g3 #[.int .i64 20, .int .i64 (n : Int), .int .i64 (t : Int), .int .i64 P, .int .u32 s, .int .u32 d]) (by intro x hx e; simp [Value.ownBlock] at hx; omega)
        replace bel := below_setRow bel hg3w #[.int .i64 20, .int .i64 (n : Int), .int .i64 (t : Int), .int .i64 P, .int .u32 s, .int .u32 d]
        have hp := hpg.out (w6.setRow g3 #[.int .i64 20, .int .i64 (n : Int), .int .i64 (t : Int), .int .i64 P, .int .u32 s, .int .u32 d]) _ _ F (own3.rd hl3) hc1 (by omega)
        obtain ⟨E, ⟨pr, sr, ds, fl, ki, co, er, ⟨i0, i1, i2, i3, i4, i5⟩, pa, ba⟩, hR⟩ : ∃ (E : Int) (p : Pt), getR ⟨20, n, t, P, s, d⟩ F = (E, p) := ⟨_, _, rfl⟩
        rw [hR] at hp hB
        simp only [Pt.val, Hd.val] at hp
        replace hp := Lib.hid hp
        clear hR
        replace hB := Lib.hid hB
        go_wp2_with (first
          | (refine wpList_stRow rfl rfl rfl rfl rfl bh hd_size rfl (by simp [Value.oneCell']) ?_; generalize w6.setRow g3 #[.int .i64 20, .int .i64 (n : Int), .int .i64 (t : Int), .int .i64 P, .int .u32 s, .int .u32 d] = W6 at *)
          | (refine wpList_ldRow rfl rfl rfl bh2 Try.underlying35 hd_size ?_))
        refine hp.out.mono ?_
        rintro e w7 ⟨rfl, hb7⟩
        replace bp := bp.bel hb7
        replace bel := bel_after bel hb7
        clear hb7 hp bh bh2 own3
        have bp2 := bp.setRow #[.int .i64 pr, .int .u16 sr, .int .u16 ds, .int .i64 fl, .int .i64 ki, .int .i64 co, .bool er, .int .i64 i0, .int .i64 i1, .int .i64 i2, .int .i64 i3, .int .u32 i4, .int .u32 i5, .int .i64 pa, .bool ba]
        replace bel := below_setRow bel hg4w #[.int .i64 pr, .int .u16 sr, .int .u16 ds, .int .i64 fl, .int .i64 ki, .int .i64 co, .bool er, .int .i64 i0, .int .i64 i1, .int .i64 i2, .int .i64 i3, .int .u32 i4, .int .u32 i5, .int .i64 pa, .bool ba]
        have hn160 : decide ((8 : Int) + (q : Int) ≥ 160) = true := by simp; omega
        rcases hB.out with ⟨hE, hz⟩ | ⟨hE, hz, hba⟩
        · have hE1 : (E != 0) = true := by simpa using hE
          clear hE hB hz
          go_wp2_with (refine wpList_stRow rfl rfl rfl rfl rfl bp pt_size rfl (by simp [Value.oneCell']) ?_; generalize w7.setRow g4 #[.int .i64 pr, .int .u16 sr, .int .u16 ds, .int .i64 fl, .int .i64 ki, .int .i64 co, .bool er, .int .i64 i0, .int .i64 i1, .int .i64 i2, .int .i64 i3, .int .u32 i4, .int .u32 i5, .int .i64 pa, .bool ba] = W7 at *)
          go_ret
          exact ⟨rfl, bel⟩
        · have hE1 : (E != 0) = false := by simpa using hE
          have p14 := (bp2.cell 14).trans (show _ = some (Value.bool true) by rw [← show ba = true from hba]; rfl)
          clear hE hB hz hba
          go_wp2_with (refine wpList_stRow rfl rfl rfl rfl rfl bp pt_size rfl (by simp [Value.oneCell']) ?_; generalize w7.setRow g4 #[.int .i64 pr, .int .u16 sr, .int .u16 ds, .int .i64 fl, .int .i64 ki, .int .i64 co, .bool er, .int .i64 i0, .int .i64 i1, .int .i64 i2, .int .i64 i3, .int .u32 i4, .int .u32 i5, .int .i64 pa, .bool ba] = W7 at *)
          go_ret
          exact ⟨rfl, bel⟩
theorem FanlightFrames_args (W : World) (args : Array Value) (hs : args.size = Try.f3.params.size) (hA : ∀ (j : Nat) t v, Try.f3.params[j]? = some t → args[j]? = some v → Arg Try.prog W t v) :
    Calls Try.prog 3 args W fun e W' => e = .returned (.bool true) ∧ Below W.heap.size W W' := by
  obtain ⟨v0, v1, v2, rfl⟩ := args3 hs
  obtain ⟨wt, s, d, a, b, f, A, len, cap, l, rfl, h1, h2, h3, h4, h5, h6, h7⟩ := arg_sent (hA 0 26 v0 rfl rfl)
  obtain ⟨x, rfl, _⟩ := arg_int Try.underlying3 (hA 1 3 v1 rfl rfl)
  obtain ⟨y, rfl, _⟩ := arg_int Try.underlying3 (hA 2 3 v2 rfl rfl)
  exact FanlightFrames_walk wt s d a b f x y l A len cap W h7 h5 h6 h1 h2 h3 h4

set_option maxRecDepth 100000 in
theorem FanlightFrames_lifted (os : Os) (started : os.Started) (H : Type) (enc : TypeId × Value → H) :
    ReturnsInHanded {} Try.checked os 3 .any (Rows.fanlightFramesSpec.pre6 enc Try.prog Try.f3 Rows.fanlightFramesRow.domain false) (Rows.fanlightFramesSpec.post enc Try.prog Try.f3 false true false false) :=
  law_lifted os started H enc (by kernel_rfl) Try.func3 rfl rfl (fun H ds h => by match ds, h with | [_, _, _], _ => exact ⟨rfl, rfl, rfl⟩) (by kernel_rfl)
    (ChangeSpec.witness6 (enc := enc) (C := Try.checked) false ⟨#[], #[.agg #[.int .i64 0, .int .u32 0, .int .u32 0, .int .u16 0, .int .u16 0, .int .i64 0, .slice none 0 0], .int .i64 0, .int .i64 0], []⟩ 8 (by kernel_rfl) (by kernel_rfl) (by kernel_rfl) (by kernel_rfl))
    FanlightFrames_args

/-- the statement -/
theorem fanlightFrames_holds : Rows.FanlightFramesSaid :=
  OpenClaim.holds_of_wide 3 Try.f3 rfl rfl rfl rfl rfl rfl rfl ⟨rfl, rfl, rfl, rfl, rfl⟩ rfl rfl rfl rfl rfl (by kernel_rfl) Try.func3 (by kernel_rfl)
    (of_decide_eq_true (by kernel_rfl)) (by unfold Func.isWrapper; first | (rw [if_pos (by decide +kernel)]; kernel_rfl) | (rw [if_neg (by decide +kernel)]; exact ⟨rfl, rfl⟩))
    (fun os started H enc _ => FanlightFrames_lifted os started H enc)

end Go.Proofs.Ytpmidpoehgchgaa
