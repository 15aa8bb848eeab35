/- Contracts and plain facts. -/
import Derived.Test.YtbichbdcibchlaaGreatPf13
import Derived.Deep.DeepCutAuto
import Derived.Deep.CutBlock
import Derived.Test.YtbichbdcibchlaaGreatPf01
import Derived.Lib.SlBytesConst
import Derived.Test.YtbichbdcibchlaaGreatPf09
import Derived.Test.YtbichbdcibchlaaGreatPf05
import Derived.Test.YtbichbdcibchlaaGreatPf04
namespace Go.Proofs.YtbichbdcibchlaaGreat
set_option linter.unusedVariables false
set_option linter.unusedSimpArgs false
set_option maxRecDepth 100000
set_option maxHeartbeats 16000000
open Go.RowKit
def gotP (k : Nat) (a b f : Int) : Pt :=
 if k = 0 then { Pt.z with proto := 17, src := a, dst := b } else if k = 1 then { Pt.z with proto := 6, src := a, dst := b, flags := f % 256 } else
 { Pt.z with proto := 1, kind := if k = 2 then 8 else 0, src := a, dst := a }
section
variable {s d a b f : Int} {l : List Int} {h : Hd} (hs : 0 ≤ s ∧ s ≤ 4294967295) (hd : 0 ≤ d ∧ d ≤ 4294967295) (ha : 0 ≤ a ∧ a ≤ 65535) (hb : 0 ≤ b ∧ b ≤ 65535) (hl : Bytes8 l) (h1 : h.src = s) (h2 : h.dst = d)
include hs hd ha hb hl h1 h2
theorem udpL_got : udpR h (udpL s d a b l) = (0, gotP 0 a b f) := by
 have hf := few_len l
 have hn := nev_bd (udp_sum hs hd ha hb hl)
 have hc := udp_cl hs hd ha hb hl _ rfl
 unfold udpL
 rw [udp_got ha hb ⟨hn.1, hn.2.1⟩ (by omega) (fun _ => by rw [h1, h2]; exact hc.zero)]
 rw [decide_eq_false hn.2.2]
 rfl
theorem tcpL_got : tcpR h (tcpL s d a b f l) = (0, gotP 1 a b f) := by
 have hc := tcp_cl hs hd ha hb hl f _ rfl
 unfold tcpL
 rw [tcp_got ha hb (by rw [h1, h2]; exact hc.zero)]
 rfl
omit hs hd hb h1 h2 in
theorem echoL_got (r : Bool) : icmpR h (echoL r a l) = (0, gotP (if r then 3 else 2) a b f) := by
 have hk : 0 ≤ (if r then (0 : Int) else 8) ∧ (if r then (0 : Int) else 8) ≤ 255 := by cases r <;> decide
 have hc := echo_cl hl hk ha
 unfold echoL
 rw [echo_got ha (by cases r <;> simp) hc.zero]
 cases r <;> rfl
theorem car_got (k : Nat) (hk : k < 4) : getX (carP k) h (carL k s d a b f l) = (0, gotP k a b f) := by
 have hk' : k = 0 ∨ k = 1 ∨ k = 2 ∨ k = 3 := by omega
 rcases hk' with rfl | rfl | rfl | rfl
 ·exact udpL_got hs hd ha hb hl h1 h2
 ·exact tcpL_got hs hd ha hb hl h1 h2
 ·exact echoL_got (b := b) (f := f) (h := h) ha hl false
 ·exact echoL_got (b := b) (f := f) (h := h) ha hl true
end
section
variable {k : Nat} {s d a b f : Int} {l : List Int} (hs : 0 ≤ s ∧ s ≤ 4294967295) (hd : 0 ≤ d ∧ d ≤ 4294967295) (ha : 0 ≤ a ∧ a ≤ 65535) (hb : 0 ≤ b ∧ b ≤ 65535) (hl : Bytes8 l) (hn : l.length ≤ 40)
theorem frame_len : (frameL k s d a b f l).length = 20 + (carL k s d a b f l).length := put_len
include hn in
theorem frame_bd : 28 ≤ (frameL k s d a b f l).length ∧ (frameL k s d a b f l).length ≤ 130 := by
 have := carL_len k s d a b f l hn
 rw [frame_len]; omega
include hs hd hn in
theorem frame_get : getE (frameL k s d a b f l) = 0 ∧ hdIf (frameL k s d a b f l) 0 = ⟨20, (frameL k s d a b f l).length, 64, carP k, s, d⟩ := by
 have hc := carL_len k s d a b f l hn
 have := frame_head (P := carP k) (s := s) (d := d) (l := carL k s d a b f l) (carP_bd k) hs hd (by omega)
 unfold frameL
 rw [put_len]
 push_cast
 exact this
theorem getR_frame (h : Hd) (hh : h = ⟨20, (frameL k s d a b f l).length, 64, carP k, s, d⟩) : getR h (frameL k s d a b f l) = getX (carP k) h (carL k s d a b f l) :=
 getR_put 64 (carP k) s d _ h (by rw [hh, frame_len]; push_cast; rfl)
include hs hd ha hb hl hn
omit hn in
theorem frame_got (hk : k < 4) : getR ⟨20, (frameL k s d a b f l).length, 64, carP k, s, d⟩ (frameL k s d a b f l) = (0, gotP k a b f) := by
 rw [getR_frame _ rfl]
 exact car_got hs hd ha hb hl rfl rfl k hk
end
section
variable {s d a b f : Int} {l : List Int} (hs : 0 ≤ s ∧ s ≤ 4294967295) (hd : 0 ≤ d ∧ d ≤ 4294967295) (ha : 0 ≤ a ∧ a ≤ 65535) (hb : 0 ≤ b ∧ b ≤ 65535) (hl : Bytes8 l) (hn : l.length ≤ 40)
include hs hd ha hb hl hn
end
def B16 (x : Int) : Prop := 0 ≤ x ∧ x ≤ 65535
def B32 (x : Int) : Prop := 0 ≤ x ∧ x ≤ 4294967295
def PB (p : Pt) : Prop := B16 p.src ∧ B16 p.dst ∧ B32 p.inner.src ∧ B32 p.inner.dst
theorem b16z : B16 0 := ⟨by omega, by omega⟩
theorem b32z : B32 0 := ⟨by omega, by omega⟩
theorem PB.z : PB Pt.z := ⟨b16z, b16z, b32z, b32z⟩
theorem PB.ports {p : Pt} {l : List Int} {i j : Nat} (h : PB p) (hl : ∀ x, x ∈ l → 0 ≤ x ∧ x ≤ 255) (hi : i + 2 ≤ l.length) (hj : j + 2 ≤ l.length) : PB (portsP p l i j) :=
 ⟨n2_bd hl hi, n2_bd hl hj, h.2.2.1, h.2.2.2⟩
theorem udpR_bd {h : Hd} {x : List Int} (hl : ∀ y, y ∈ x → 0 ≤ y ∧ y ≤ 255) : PB (udpR h x).2 := by
 unfold udpR
 split
 ·exact PB.z
 split
 ·exact PB.z
 split
 ·exact PB.z
 ·exact PB.ports PB.z hl (by omega) (by omega)
theorem tcpR_bd {h : Hd} {x : List Int} (hl : ∀ y, y ∈ x → 0 ≤ y ∧ y ≤ 255) : PB (tcpR h x).2 := by
 unfold tcpR
 split
 ·exact PB.z
 split
 ·exact PB.z
 split
 ·exact PB.z
 ·exact PB.ports PB.z hl (by omega) (by omega)
theorem faultR_bd {p : Pt} {at_ : Int} {b : List Int} (hp : PB p) (hl : ∀ y, y ∈ b → 0 ≤ y ∧ y ≤ 255) : PB (faultR p at_ b).2 := by
 unfold faultR
 by_cases hz : partE b = 0
 ·rw [if_neg (fun h => h hz)]
  have h20 : 20 ≤ b.length := by
   rcases Nat.lt_or_ge b.length 20 with hh | hh
   ·exfalso
    unfold partE shapeE at hz
    rw [if_pos hh] at hz
    simp at hz
   ·exact hh
  have hd0 := hl (b.getD 0 0) (by rw [List.getD_eq_getElem?_getD, List.getElem?_eq_getElem (by omega)]; exact List.getElem_mem _)
  have hsz : (hdOf b).size = b.getD 0 0 % 16 * 4 := rfl
  have hi : B32 (hdOf b).src := n4_bd hl (by omega)
  have hj : B32 (hdOf b).dst := n4_bd hl (by omega)
  split
  ·exact PB.z
  ·have hdl : 8 ≤ (b.drop (hdOf b).size.toNat).length := by rw [List.length_drop]; omega
   have hdb : ∀ y, y ∈ b.drop (hdOf b).size.toNat → 0 ≤ y ∧ y ≤ 255 := fun y hy => hl y (List.mem_of_mem_drop hy)
   split
   ·exact PB.ports ⟨hp.1, hp.2.1, hi, hj⟩ hdb (by omega) (by omega)
   split
   ·exact PB.ports ⟨hp.1, hp.2.1, hi, hj⟩ hdb (by omega) (by omega)
   ·exact PB.z
 ·rw [if_pos hz]; exact PB.z
theorem icmpR_bd {h : Hd} {x : List Int} (hl : ∀ y, y ∈ x → 0 ≤ y ∧ y ≤ 255) : PB (icmpR h x).2 := by
 unfold icmpR
 split
 ·exact PB.z
 split
 ·exact PB.z
 split
 ·split
  ·exact PB.z
  ·exact PB.ports PB.z hl (by omega) (by omega)
 split
 ·exact faultR_bd PB.z (fun y hy => hl y (List.mem_of_mem_drop hy))
 ·exact PB.z
theorem getR_bd {h : Hd} {b : List Int} (hl : ∀ y, y ∈ b → 0 ≤ y ∧ y ≤ 255) : PB (getR h b).2 := by
 unfold getR
 split
 ·exact PB.z
 split
 ·exact udpR_bd (fun y hy => hl y (seg_mem hy))
 split
 ·exact tcpR_bd (fun y hy => hl y (seg_mem hy))
 split
 ·exact icmpR_bd (fun y hy => hl y (seg_mem hy))
 ·exact PB.z
theorem hd_bds {l : List Int} (hl : ∀ x, x ∈ l → 0 ≤ x ∧ x ≤ 255) (h : getE l = 0) : (0 ≤ (hdIf l 0).src ∧ (hdIf l 0).src ≤ 4294967295) ∧ (0 ≤ (hdIf l 0).dst ∧ (hdIf l 0).dst ≤ 4294967295) := by
 have h20 : 20 ≤ l.length := by
  rcases Nat.lt_or_ge l.length 20 with hh | hh
  ·exfalso
   unfold getE shapeE at h
   rw [if_pos hh] at h
   simp at h
  ·exact hh
 unfold hdIf
 rw [if_pos rfl]
 exact ⟨n4_bd hl (by omega), n4_bd hl (by omega)⟩
theorem life_get {t P s d : Int} {l : List Int} (ht : 0 ≤ t ∧ t ≤ 255) (hP : 0 ≤ P ∧ P ≤ 255) (hs : 0 ≤ s ∧ s ≤ 4294967295) (hd : 0 ≤ d ∧ d ≤ 4294967295) (hl : l.length ≤ 1480) :
  getE (putL t P s d l) = 0 ∧ hdIf (putL t P s d l) 0 = ⟨20, (putL t P s d l).length, t, P, s, d⟩ := by
 have h := put_get (t := t) (p := P) (s := s) (d := d) (l := l) ht hP hs hd hl []
 rw [List.append_nil] at h
 refine ⟨h.1, ?_⟩
 unfold hdIf
 rw [if_pos rfl, h.2, put_len]
 push_cast
 rfl
theorem lifeR (t P s d : Int) (x : List Int) : getR ⟨20, (putL t P s d x).length, t, P, s, d⟩ (putL t P s d x) = getX P ⟨20, (putL t P s d x).length, t, P, s, d⟩ x :=
 getR_put t P s d x _ (by rw [put_len]; push_cast; rfl)
theorem Rd.newF (k : IntKind) (w : World) (t : TypeId) (fr : Nat × Nat) (l : List Int) (hr : ∀ x, x ∈ l → inr k x) (cs : Array Value) (hcs : cs = (l.map (Value.int k)).toArray) (n : Nat) (hn : l.length = n) :
  Rd k (w.alloc (.cells cs t fr)) (w.heap.size + 1) (some ⟨w.heap.size, 0, none⟩) n l := by
 subst hcs
 refine ⟨hn, hr, fun h0 => ⟨_, 0, rfl, by omega, fun j hj => ?_⟩⟩
 rw [cell_of_row _ _ _ _ _ _ (heap_alloc_new w _)]
 simp [List.getElem?_eq_getElem (show j < l.length by omega)]
theorem stands_any (w : World) :
  Calls Tryz.prog 7 #[] w fun e w' => e = .returned (.bool true) ∧ Below w.heap.size w w' := by
 have hb8 : Bytes8 [104, 105] := fun x hx => by simp at hx; omega
 obtain ⟨C, hC⟩ : ∃ C, C = udpL 1 2 5 53 [104, 105] := ⟨_, rfl⟩
 have hCl : C.length = 10 := by rw [hC, udpL_len]; rfl
 have hget := life_get (t := 9) (P := 17) (s := 1) (d := 2) (l := C) (by omega) (by omega) (by omega) (by omega) (by omega)
 have hR := lifeR 9 17 1 2 C
 obtain ⟨X, hX⟩ : ∃ X, X = putL 9 17 1 2 C := ⟨_, rfl⟩
 have hXl : X.length = 30 := by rw [hX, put_len, hCl]
 rw [← hX, hXl] at hget hR
 have hgot : getX 17 ⟨20, ((30 : Nat) : Int), 9, 17, 1, 2⟩ C = (0, gotP 0 5 53 0) := by rw [hC]; exact car_got (s := 1) (d := 2) (by omega) (by omega) (by omega) (by omega) hb8 rfl rfl 0 (by omega)
 rw [hgot] at hR
 have hput := fun W A c (ho : Rd .u8 W W.heap.size A 10 C) => Put_any 0 0 9 17 1 2 C A 10 c _ W ho (Nat.le_refl _) (by omega) (by omega) (by omega) (by omega) (by omega)
 unfold PutRes at hput
 simp only [← hX] at hput
 have hudp := fun W A (ho : Rd .u8 W W.heap.size A 2 [104, 105]) => pUdp_any 1 2 5 53 [104, 105] A 2 2 _ W ho (Nat.le_refl _) (by omega) (by omega) (by omega) (by omega) (by omega) (by omega)
 unfold Gives at hudp
 simp only [← hC] at hudp
 have hpg := fun W A c (ho : Rd .u8 W W.heap.size A 30 X) (h1 : 30 ≤ c) (h2 : c ≤ 9223372036854775807) => PGet_any ⟨20, ((30 : Nat) : Int), 9, 17, 1, 2⟩ X A 30 c _ W ho (Nat.le_refl _) h1 h2 (by omega) (by show (0:Int) ≤ 1 ∧ (1:Int) ≤ _; omega) (by show (0:Int) ≤ 2 ∧ (2:Int) ≤ _; omega)
 rw [hR] at hpg
 simp only [Tells, Pt.val, Hd.val, gotP, Pt.z, Hd.z, if_true] at hpg
 clear hR hgot hX hC hb8
 replace hCl := Lib.hid hCl
 replace hXl := Lib.hid hXl
 replace hget := Lib.hid hget
 replace hput := Lib.hid hput
 replace hudp := Lib.hid hudp
 replace hpg := Lib.hid hpg
 go_enter Tryz.func7, Tryz.ntmps7
 have hcv := Lib.run_convert_bytes_const (P := Tryz.prog) w 36 5 (A16 104 105) 2 2 Tryz.underlying36 Tryz.underlying5
 rw [show (#[Value.int .u8 104, Value.int .u8 105] : Array Value).size = 2 from rfl] at hcv
 have rd0 := Rd.newF .u8 w 5 (2, 2 + 1) [104, 105] (fun x hx => by simp at hx; exact u8_inr (by omega)) (A16 104 105) rfl 2 rfl
 rw [show w.heap.size + 1 = (w.alloc (.cells (A16 104 105) 5 (2, 2 + 1))).heap.size by simp] at rd0
 have bel := bel_alloc w (.cells (A16 104 105) 5 (2, 2 + 1))
 go_wp2_with fail
 refine (hudp.out _ _ rd0).mono ?_
 rintro e w1 ⟨v1, rfl, own1, bel1⟩
 replace own1 := own1.mono_ bel.size
 replace bel := bel_after bel bel1
 clear bel1 rd0
 obtain ⟨A1, c1, rfl, hc1, hc2, rd1⟩ := own1.form hCl.out
 clear own1
 go_wp2_with fail
 refine (hput.out _ _ _ rd1).mono ?_
 rintro e w2 ⟨v2, rfl, own2, bel2⟩
 replace own2 := own2.mono_ bel.size
 replace bel := bel_after bel bel2
 clear bel2 rd1 hc1 hc2
 obtain ⟨g, c2, rfl, hc1, hc2, hg1, hg2⟩ := own2.formG hXl.out (by omega)
 unfold maxLen at hc2
 have hge := Get_any X (some ⟨g, 0, none⟩) 30 c2 _ w2 (own2.rd hXl.out) (Nat.le_refl _) hc1 (by omega) (by omega)
 rw [hget.out.1, hget.out.2] at hge
 simp only [Hd.val] at hge
 replace hge := Lib.hid hge
 go_wp2_with fail
 refine hge.out.mono ?_
 rintro e w3 ⟨rfl, hb3⟩
 replace own2 := own2.below hb3
 replace bel := bel_after bel hb3
 clear hb3 hge hget
 have hgl : g < w3.heap.size := (own2.lt g rfl).2
 have bh := (Blk.new w3 71 Z1).setRow Z12
 replace own2 := (own2.alloc (.cells Z1 71)).upd (Upd.row' (w3.alloc (.cells Z1 71)) w3.heap.size Z12) (by intro x hx e; simp [Value.ownBlock] at hx; omega)
 replace bel := below_setRow (bel.alloc bel.size (.cells Z1 71)) bel.size Z12
 go_wp2_with (first
  | (refine wpList_stRow rfl rfl rfl rfl rfl (Blk.new w3 _ _) hd_size rfl (by simp [Value.oneCell']) ?_; generalize (w3.alloc (.cells Z1 71)).setRow w3.heap.size Z12 = W3 at *; generalize w3.heap.size = g3 at *)
  | (refine wpList_ldRow rfl rfl rfl bh Tryz.underlying71 hd_size ?_))
 refine (hpg.out _ _ _ (own2.rd hXl.out) hc1 (by omega)).mono ?_
 rintro e w4 ⟨rfl, hb4⟩
 replace bh := bh.bel hb4
 replace bel := bel_after bel hb4
 clear hb4 own2
 have hgl3 := bh.lt
 have bp := (Blk.new w4 76 Z0).setRow Z13
 replace bh := (bh.alloc (.cells Z0 76)).setRow_far (g' := w4.heap.size) (by omega) Z13
 replace bel := below_setRow (bel.alloc bel.size (.cells Z0 76)) bel.size Z13
 have p1 := bp.cell 1
 have p2 := bp.cell 2
 have h1 := bh.cell 1
 go_wp2_with (refine wpList_stRow rfl rfl rfl rfl rfl (Blk.new w4 _ _) pt_size rfl (by simp [Value.oneCell']) ?_; generalize (w4.alloc (.cells Z0 76)).setRow w4.heap.size Z13 = W4 at *; generalize w4.heap.size = g4 at *)
 go_ret
 exact ⟨rfl, bel⟩
def FR (w : World) (e : Ending) (w' : World) : Prop := ∃ L : List Int, (1 ≤ L.length ∧ L.length ≤ 130) ∧ Gives w L e w'
def XB (w' : World) (base g5 : Nat) (wt f : Int) (A : Option Addr) (m cap : Nat) : Prop := ∃ vs vd va vb : Int, B32 vs ∧ B32 vd ∧ B16 va ∧ B16 vb ∧ Blk w' g5 80 (A10 wt vs vd va vb f A m cap) ∧ base ≤ g5
theorem Frame15_any (out : Bool) (wt wo po f be by_ ti : Int) (A : Option Addr) (len cap : Nat) (l : List Int) (w : World) (hr : Rd .u8 w w.heap.size A len l) (hlc : len ≤ cap) (hcm : cap ≤ 9223372036854775807) (hby : 0 ≤ by_ ∧ by_ ≤ 255) :
  Calls Tryz.prog 8 #[.agg (A11 out wt wo po f A len cap be by_ ti)] w (FR w) := by
 obtain ⟨no, hno⟩ : ∃ no, (!out) = no := ⟨_, rfl⟩
 obtain ⟨m, hmn, hm1, hm2⟩ := minc 20 (by omega) len
 have hj0 : (0 : Int) ≤ (m : Int) := by omega
 have hj1 : (m : Int) ≤ (cap : Int) := by omega
 have hj2 : m ≤ cap := by omega
 have hrt := hr.take hm1
 obtain ⟨L, hL⟩ : ∃ L, L = l.take m := ⟨_, rfl⟩
 rw [← hL] at hrt
 clear hL hr
 obtain ⟨k, hk, hk7⟩ := modn wt 7 (by omega)
 have hkv : Value.int .u64 ((IntKind.u64.wrap wt).tmod 7) = .int .u64 (k : Int) := by rw [hk]
 obtain ⟨a1, ha1, ha1b⟩ := modn wo 3 (by omega)
 have hav : Value.int .u64 ((IntKind.u64.wrap wo).tmod 3) = .int .u64 (a1 : Int) := by rw [ha1]
 obtain ⟨a2, ha2, ha2b⟩ := modn ((IntKind.u64.wrap wo).tdiv 3) 3 (by omega)
 have hav2 : Value.int .u64 ((IntKind.u64.wrap ((IntKind.u64.wrap wo).tdiv 3)).tmod 3) = .int .u64 (a2 : Int) := by rw [ha2]
 obtain ⟨p5, hp5, hp5b⟩ := modn po 5 (by omega)
 have hpv5 : Value.int .u64 ((IntKind.u64.wrap po).tmod 5) = .int .u64 (p5 : Int) := by rw [hp5]
 obtain ⟨p44, hp44, hp44b⟩ := modn po 44 (by omega)
 have hpv44 : Value.int .u64 ((IntKind.u64.wrap po).tmod 44) = .int .u64 (p44 : Int) := by rw [hp44]
 have hfr := fun w' (h : Below w.heap.size w w') vs vd va vb (h1 : B32 vs) (h2 : B32 vd) (h3 : B16 va) (h4 : B16 vb) => Frame_any wt vs vd va vb f L A m cap k w' ((hrt.below h).more h.size) hj2 hcm h1 h2 h3 h4 hk (by omega)
 have hbd := fun vs vd va vb => frame_bd (k := k) (s := vs) (d := vd) (a := va) (b := vb) (f := f) (l := L.take 40) (by rw [List.length_take]; omega)
 clear hk ha1 ha2 hp5 hp44
 replace hfr := Lib.hid hfr
 replace hbd := Lib.hid hbd
 go_enter Tryz.func8, Tryz.ntmps8
 go_upto_region 1 with fail
 have bn := Blk.new w 38 (A11 out wt wo po f A len cap be by_ ti)
 have bel := bel_alloc w (.cells (A11 out wt wo po f A len cap be by_ ti) 38)
 generalize w.alloc (.cells (A11 out wt wo po f A len cap be by_ ti) 38) = W at *
 have q2 := bn.cell 2
 go_region
 clear q2
 replace bn := bn.drew
 replace bel := bel.drew
 generalize W.drew = W1 at *
 go_upto_region 2 with fail
 have z0 : ∀ t : Tw (fun w' => Blk w' w.heap.size 38 (A11 out wt wo po f A len cap be by_ ti)), t.w.cell? ⟨w.heap.size, 0, none⟩ = some (.bool out) := fun t => t.h.cell 0
 have z1 : ∀ t : Tw (fun w' => Blk w' w.heap.size 38 (A11 out wt wo po f A len cap be by_ ti)), t.w.cell? ⟨w.heap.size, 1, none⟩ = some (.int .i64 wt) := fun t => t.h.cell 1
 have z2 : ∀ t : Tw (fun w' => Blk w' w.heap.size 38 (A11 out wt wo po f A len cap be by_ ti)), t.w.cell? ⟨w.heap.size, 2, none⟩ = some (.int .i64 wo) := fun t => t.h.cell 2
 have z3 : ∀ t : Tw (fun w' => Blk w' w.heap.size 38 (A11 out wt wo po f A len cap be by_ ti)), t.w.cell? ⟨w.heap.size, 3, none⟩ = some (.int .i64 po) := fun t => t.h.cell 3
 have z4 : ∀ t : Tw (fun w' => Blk w' w.heap.size 38 (A11 out wt wo po f A len cap be by_ ti)), t.w.cell? ⟨w.heap.size, 4, none⟩ = some (.int .i64 f) := fun t => t.h.cell 4
 have z5 : ∀ t : Tw (fun w' => Blk w' w.heap.size 38 (A11 out wt wo po f A len cap be by_ ti)), t.w.cell? ⟨w.heap.size, 5, none⟩ = some (.slice A len cap) := fun t => t.h.cell 5
 have ne : Nonempty (Tw (fun w' => Blk w' w.heap.size 38 (A11 out wt wo po f A len cap be by_ ti))) := ⟨⟨_, bn⟩⟩
 refine wp_region_plan (fun w' => Blk w' w.heap.size 38 (A11 out wt wo po f A len cap be by_ ti)) [(0, true), (1, true), (2, true), (3, true), (4, true), (5, true), (6, true), (7, true), (8, true), (9, true), (10, true), (11, true), (12, true), (13, true), (14, true), (15, true), (16, true), (17, true), (18, true), (19, true), (20, false), (21, false)] (by kernel_rfl) (by kernel_rfl) (by kernel_rfl) (by kernel_rfl) bn.drew ?_
 replace bn := bn.drew
 replace bel := bel.drew
 generalize W1.drew = W2 at *
 refine wpPl_qs 20 _ _ _ (by kernel_rfl) (by kernel_rfl) (by simp) ?_
 unfold clsS
 simp only [qq1, qq2, qq3, qq4, List.filterMap_cons, qq6, qq7, qq8, qq9]
 repeat (first | go_big_quiet_skip | (go_big_quiet_want; go_big_quiet_op; go_big_quiet_on) | refine id (?_ : wpQuiet _ _ _ _ (_ :: _) _))
 refine wpQuiet_nil ?_
 clear z0 z1 z2 z3 z4 z5 hav hav2 hmn hj0 hj1
 refine wpPl_e _ (by rfl) (by kernel_rfl) (fun K hK => ?_)
 go_simp
 refine hK _ _ (bn.alloc _) ?_
 clear hK K
 refine wpPl_e _ (by rfl) (by kernel_rfl) (fun K hK => ?_)
 have hnl := bn.lt
 refine wp_stRow rfl rfl rfl rfl (Blk.new W2 _ _) sn_size rfl (by simp [Value.oneCell']) ?_
 refine hK _ _ ((bn.alloc _).setRow_far (by omega) _) ?_
 clear hK K ne
 unfold wpPl
 refine NoPanic.normal ?_
 have bx := (Blk.new W2 80 Z10).setRow (A10 wt (167772161 + (a1 : Int)) (134744065 + (a2 : Int)) (5 + (p5 : Int)) 53 f A m cap)
 have hbg : w.heap.size ≤ W2.heap.size := bel.size
 replace bn := (bn.alloc (.cells Z10 80)).setRow_far (g' := W2.heap.size) (by omega) (A10 wt (167772161 + (a1 : Int)) (134744065 + (a2 : Int)) (5 + (p5 : Int)) 53 f A m cap)
 replace bel := below_setRow (bel.alloc bel.size (.cells Z10 80)) bel.size (A10 wt (167772161 + (a1 : Int)) (134744065 + (a2 : Int)) (5 + (p5 : Int)) 53 f A m cap)
 generalize (W2.alloc (.cells Z10 80)).setRow W2.heap.size (A10 wt (167772161 + (a1 : Int)) (134744065 + (a2 : Int)) (5 + (p5 : Int)) 53 f A m cap) = W3 at *
 generalize W2.heap.size = g5 at *
 have q0 := bn.cell 0
 go_upto_if 44 with fail
 go_cut [] (fun wx => XB wx w.heap.size g5 wt f A m cap ∧ Blk wx w.heap.size 38 (A11 out wt wo po f A len cap be by_ ti) ∧ Below w.heap.size w wx)
 case first =>
  cases no with
  | false =>
   go_wp2_with fail
   go_meet
   exact ⟨⟨_, _, _, _, ⟨by omega, by omega⟩, ⟨by omega, by omega⟩, ⟨by omega, by omega⟩, ⟨by omega, by omega⟩, bx, hbg⟩, bn, bel⟩
  | true =>
   go_upto_region 4 with fail
   clear q0
   have z3 : ∀ t : Tw (fun w' => Blk w' w.heap.size 38 (A11 out wt wo po f A len cap be by_ ti)), t.w.cell? ⟨w.heap.size, 3, none⟩ = some (.int .i64 po) := fun t => t.h.cell 3
   have ne : Nonempty (Tw (fun w' => Blk w' w.heap.size 38 (A11 out wt wo po f A len cap be by_ ti))) := ⟨⟨_, bn⟩⟩
   refine wp_region_plan (fun w' => Blk w' w.heap.size 38 (A11 out wt wo po f A len cap be by_ ti)) [(0, true), (1, true), (2, true), (3, true), (4, true), (5, true), (6, true), (7, true), (8, false), (9, true), (10, false), (11, true), (12, false), (13, true), (14, false)] (by kernel_rfl) (by kernel_rfl) (by kernel_rfl) (by kernel_rfl) bn.drew ?_
   have hgn : w.heap.size ≠ g5 := bn.ne_ bx (by decide)
   replace bn := bn.drew
   replace bx := bx.drew
   replace bel := bel.drew
   generalize W3.drew = W4 at *
   refine wpPl_qs 8 _ _ _ (by kernel_rfl) (by kernel_rfl) (by simp) ?_
   unfold clsS
   simp only [qq1, qq2, qq3, qq4, List.filterMap_cons, qq6, qq7, qq8, qq9]
   repeat (first | go_big_quiet_skip | (go_big_quiet_want; go_big_quiet_op; go_big_quiet_on) | refine id (?_ : wpQuiet _ _ _ _ (_ :: _) _))
   refine wpQuiet_nil ?_
   clear z3
   have c1 := bx.cell 1
   have f1 := bx.frozen 1
   refine wpPl_e _ (by rfl) (by kernel_rfl) (fun K hK => ?_)
   go_simp
   replace bn := bn.far (p := ⟨g5, 1, none⟩) hgn (.int .u32 (134744065 + (a2 : Int)))
   replace bx := bx.set_ 1 (.int .u32 (134744065 + (a2 : Int)))
   replace bel := bel.setCell (p := ⟨g5, 1, none⟩) hbg (.int .u32 (134744065 + (a2 : Int)))
   refine hK _ _ bn ?_
   clear hK K c1 f1
   generalize W4.setCell ⟨g5, 1, none⟩ (.int .u32 (134744065 + (a2 : Int))) = W5 at *
   refine wpPl_qs 1 _ _ _ (by kernel_rfl) (by kernel_rfl) (by simp) ?_
   unfold clsS
   simp only [qq1, qq2, qq3, qq4, List.filterMap_cons, qq6, qq7, qq8, qq9]
   repeat (first | go_big_quiet_skip | (go_big_quiet_want; go_big_quiet_op; go_big_quiet_on) | refine id (?_ : wpQuiet _ _ _ _ (_ :: _) _))
   refine wpQuiet_nil ?_
   have c1 := bx.cell 2
   have f1 := bx.frozen 2
   refine wpPl_e _ (by rfl) (by kernel_rfl) (fun K hK => ?_)
   go_simp
   replace bn := bn.far (p := ⟨g5, 2, none⟩) hgn (.int .u32 3221225985)
   replace bx := bx.set_ 2 (.int .u32 3221225985)
   replace bel := bel.setCell (p := ⟨g5, 2, none⟩) hbg (.int .u32 3221225985)
   refine hK _ _ bn ?_
   clear hK K c1 f1
   generalize W5.setCell ⟨g5, 2, none⟩ (.int .u32 3221225985) = W6 at *
   refine wpPl_qs 1 _ _ _ (by kernel_rfl) (by kernel_rfl) (by simp) ?_
   unfold clsS
   simp only [qq1, qq2, qq3, qq4, List.filterMap_cons, qq6, qq7, qq8, qq9]
   repeat (first | go_big_quiet_skip | (go_big_quiet_want; go_big_quiet_op; go_big_quiet_on) | refine id (?_ : wpQuiet _ _ _ _ (_ :: _) _))
   refine wpQuiet_nil ?_
   have c1 := bx.cell 3
   have f1 := bx.frozen 3
   refine wpPl_e _ (by rfl) (by kernel_rfl) (fun K hK => ?_)
   go_simp
   replace bn := bn.far (p := ⟨g5, 3, none⟩) hgn (.int .u16 53)
   replace bx := bx.set_ 3 (.int .u16 53)
   replace bel := bel.setCell (p := ⟨g5, 3, none⟩) hbg (.int .u16 53)
   refine hK _ _ bn ?_
   clear hK K c1 f1
   generalize W6.setCell ⟨g5, 3, none⟩ (.int .u16 53) = W7 at *
   refine wpPl_qs 1 _ _ _ (by kernel_rfl) (by kernel_rfl) (by simp) ?_
   unfold clsS
   simp only [qq1, qq2, qq3, qq4, List.filterMap_cons, qq6, qq7, qq8, qq9]
   repeat (first | go_big_quiet_skip | (go_big_quiet_want; go_big_quiet_op; go_big_quiet_on) | refine id (?_ : wpQuiet _ _ _ _ (_ :: _) _))
   refine wpQuiet_nil ?_
   have c1 := bx.cell 4
   have f1 := bx.frozen 4
   refine wpPl_e _ (by rfl) (by kernel_rfl) (fun K hK => ?_)
   go_simp
   replace bn := bn.far (p := ⟨g5, 4, none⟩) hgn (.int .u16 (998 + (p44 : Int)))
   replace bx := bx.set_ 4 (.int .u16 (998 + (p44 : Int)))
   replace bel := bel.setCell (p := ⟨g5, 4, none⟩) hbg (.int .u16 (998 + (p44 : Int)))
   refine hK _ _ bn ?_
   clear hK K c1 f1
   generalize W7.setCell ⟨g5, 4, none⟩ (.int .u16 (998 + (p44 : Int))) = W8 at *
   unfold wpPl
   refine NoPanic.normal ?_
   go_wp2_with fail
   go_meet
   replace bx : Blk W8 g5 80 (A10 wt (134744065 + (a2 : Int)) 3221225985 53 (998 + (p44 : Int)) f A m cap) := bx
   exact ⟨⟨_, _, _, _, ⟨by omega, by omega⟩, ⟨by omega, by omega⟩, ⟨by omega, by omega⟩, ⟨by omega, by omega⟩, bx, hbg⟩, bn, bel⟩
 case rest =>
  clear bx bn bel hbg q0
  obtain ⟨⟨vs, vd, va, vb, hvs, hvd, hva, hvb, bx, hbg⟩, bn, bel⟩ := hcut
  have q0 := bn.cell 0
  have q1 := bn.cell 1
  go_upto_region 5 with fail
  go_cut [79] (fun s79 wx => (∃ x : Bool, s79 = .bool x) ∧ wc = wx)
  case first =>
   have hk' : k = 3 ∨ k = 2 ∨ (k ≠ 3 ∧ k ≠ 2) := by omega
   rcases hk' with hk0 | hk0 | hk0
   ·have d3 : ((k : Int) == 3) = true := by simp; omega
    have d2 : ((k : Int) == 2) = false := by simp; omega
    replace hk0 := Lib.hid hk0
    cases no <;> (go_wp2_with fail; go_meet; exact ⟨⟨_, rfl⟩, rfl⟩)
   ·have d3 : ((k : Int) == 3) = false := by simp; omega
    have d2 : ((k : Int) == 2) = true := by simp; omega
    replace hk0 := Lib.hid hk0
    cases no <;> (go_wp2_with fail; go_meet; exact ⟨⟨_, rfl⟩, rfl⟩)
   ·have d3 : ((k : Int) == 3) = false := by simp; omega
    have d2 : ((k : Int) == 2) = false := by simp; omega
    replace hk0 := Lib.hid hk0
    cases no <;> (go_wp2_with fail; go_meet; exact ⟨⟨_, rfl⟩, rfl⟩)
  case rest =>
   obtain ⟨⟨x, rfl⟩, rfl⟩ := hcut
   clear q0 q1
   go_upto_if 79 with fail
   have hgn : w.heap.size ≠ g5 := bn.ne_ bx (by decide)
   go_cut [] (fun wx => XB wx w.heap.size g5 wt f A m cap ∧ Blk wx w.heap.size 38 (A11 out wt wo po f A len cap be by_ ti) ∧ Below w.heap.size w wx)
   case first =>
    cases x with
    | false =>
     go_wp2_with fail
     go_meet
     exact ⟨⟨_, _, _, _, hvs, hvd, hva, hvb, bx, hbg⟩, bn, bel⟩
    | true =>
     have c4 := bx.cell 4
     have c3 := bx.cell 3
     have f3 := bx.frozen 3
     go_wp2_with fail
     go_meet
     replace bx : Blk (wc.setCell ⟨g5, 3, none⟩ (.int .u16 vb)) g5 80 (A10 wt vs vd vb vb f A m cap) := bx.set_ 3 (.int .u16 vb)
     exact ⟨⟨_, _, _, _, hvs, hvd, hvb, hvb, bx, hbg⟩, bn.far (p := ⟨g5, 3, none⟩) hgn _, bel.setCell (p := ⟨g5, 3, none⟩) hbg _⟩
   case rest =>
    clear bx bn bel hbg hvs hvd hva hvb
    obtain ⟨⟨vs, vd, va, vb, hvs, hvd, hva, hvb, bx, hbg⟩, bn, bel⟩ := hcut
    obtain ⟨x6, h6⟩ : ∃ x6, ((k : Int) == 6) = x6 := ⟨_, rfl⟩
    have q1 := bn.cell 1
    go_upto_if 88 with fail
    clear q1
    go_cut [] (fun wx => XB wx w.heap.size g5 wt f A m cap ∧ Blk wx w.heap.size 38 (A11 out wt wo po f A len cap be by_ ti) ∧ Below w.heap.size w wx)
    case first =>
     have q0 := bn.cell 0
     have q3 := bn.cell 3
     have c4 := bx.cell 4
     have c3 := bx.cell 3
     have f4 := bx.frozen 4
     cases x6 with
     | false =>
      go_wp2_with fail
      go_meet
      exact ⟨⟨_, _, _, _, hvs, hvd, hva, hvb, bx, hbg⟩, bn, bel⟩
     | true =>
      cases no with
      | false =>
       go_wp2_with fail
       go_meet
       replace bx : Blk (wc.setCell ⟨g5, 4, none⟩ (.int .u16 va)) g5 80 (A10 wt vs vd va va f A m cap) := bx.set_ 4 (.int .u16 va)
       exact ⟨⟨_, _, _, _, hvs, hvd, hva, hva, bx, hbg⟩, bn.far (p := ⟨g5, 4, none⟩) hgn _, bel.setCell (p := ⟨g5, 4, none⟩) hbg _⟩
      | true =>
       go_wp2_with fail
       go_meet
       replace bx : Blk ((wc.setCell ⟨g5, 4, none⟩ (.int .u16 va)).setCell ⟨g5, 4, none⟩ (.int .u16 (998 + (p44 : Int)))) g5 80 (A10 wt vs vd va (998 + (p44 : Int)) f A m cap) := (bx.set_ 4 (.int .u16 va)).set_ 4 (.int .u16 (998 + (p44 : Int)))
       exact ⟨⟨_, _, _, _, hvs, hvd, hva, ⟨by omega, by omega⟩, bx, hbg⟩, (bn.far (p := ⟨g5, 4, none⟩) hgn _).far (p := ⟨g5, 4, none⟩) hgn _, (bel.setCell (p := ⟨g5, 4, none⟩) hbg _).setCell (p := ⟨g5, 4, none⟩) hbg _⟩
    case rest =>
     clear bx bn bel hbg hvs hvd hva hvb
     obtain ⟨⟨vs, vd, va, vb, hvs, hvd, hva, hvb, bx, hbg⟩, bn, bel⟩ := hcut
     go_wp2_with (refine wpList_ldRow rfl rfl rfl bx Tryz.underlying80 sn_size ?_)
     refine (hfr.out _ bel vs vd va vb hvs hvd hva hvb).mono ?_
     rintro e w1 ⟨v1, rfl, own1, bel1⟩
     replace own1 := own1.mono_ bel.size
     replace bn := bn.bel bel1
     replace bel := bel_after bel bel1
     clear bel1 bx hbg
     replace hbd := hbd.out vs vd va vb
     clear hfr hpv5 hpv44 hkv
     generalize frameL k vs vd va vb f (L.take 40) = X at *
     obtain ⟨n, hX⟩ : ∃ n, X.length = n := ⟨_, rfl⟩
     rw [hX] at hbd
     replace hX := Lib.hid hX
     have q7 := bn.cell 7
     go_upto_if 106 with fail
     go_cut [6] (fun s6 wx => ∃ F : List Int, F.length = n ∧ Own .u8 5 wx w.heap.size s6 F ∧ Below w.heap.size w wx)
     case first =>
      by_cases hb0 : by_ = 0
      ·have d1 : (by_ != 0) = false := by simpa using hb0
       replace hb0 := Lib.hid hb0
       go_wp2_with fail
       go_meet
       exact ⟨X, hX.out, own1, bel⟩
      ·have d1 : (by_ != 0) = true := by simpa using hb0
       clear hb0
       obtain ⟨g, c1, rfl, hc1, hc2, hg1, hg2⟩ := own1.formG hX.out (by omega)
       unfold maxLen at hc2
       obtain ⟨j, hj, hjn⟩ := modn be (n : Int) (by omega)
       have hjv : Value.int .u64 ((IntKind.u64.wrap be).tmod (n : Int)) = .int .u64 (j : Int) := by rw [hj]
       clear hj
       have hjn2 : j < n := by omega
       have hj0 : (0 : Int) ≤ (j : Int) := by omega
       obtain ⟨cj, fj, xj⟩ := own1.at_ hX.out (j := j) hjn2
       obtain ⟨xo, hxo⟩ : ∃ v, v = X.getD j 0 := ⟨_, rfl⟩
       rw [← hxo] at cj
       clear hxo xj
       obtain ⟨xv, hxv⟩ : ∃ v, bits .xor .u8 xo by_ = v := ⟨_, rfl⟩
       have hxb : 0 ≤ xv ∧ xv ≤ 255 := by
        rw [← hxv]
        have h : ∀ v : Int, 0 ≤ IntKind.u8.wrap v ∧ IntKind.u8.wrap v ≤ 255 := fun v => by rw [IntKind.wrap_u8' v]; omega
        exact h _
       have hne := own1.ne bn (by decide)
       have q6 := bn.cell 6
       go_upto_region 13 with fail
       go_region
       have own2 := (own1.set hX.out j (x := xv) (u8_inr hxb)).drew
       have hl2 : (X.set j xv).length = n := by rw [List.length_set]; exact hX.out
       replace bn := (bn.far (p := ⟨g, j, none⟩) hne (.int .u8 xv)).drew
       replace bel := (bel.setCell (p := ⟨g, j, none⟩) hg1 (.int .u8 xv)).drew
       clear cj fj own1 q6 q7
       generalize X.set j xv = F at *
       generalize (w1.setCell ⟨g, j, none⟩ (.int .u8 xv)).drew = W9 at *
       obtain ⟨x2, h2⟩ : ∃ x2, (be.tmod 2 == 0) = x2 := ⟨_, rfl⟩
       have q6 := bn.cell 6
       cases x2 with
       | false =>
        go_wp2_with fail
        go_meet
        exact ⟨F, hl2, own2, bel⟩
       | true =>
        go_wp2_with fail
        clear q6
        refine (rHFix_any F (some ⟨g, 0, none⟩) n c1 _ W9 (own2.rd hl2) (Nat.le_refl _) (by omega) (by omega)).mono ?_
        rintro e w3 ⟨v3, rfl, own3, bel3⟩
        replace own3 := own3.mono_ bel.size
        replace own2 := own2.below bel3
        replace bel := bel_after bel bel3
        clear bel3 bn hne hjv hjn2 hj0 hxv hxb h2
        have hl3 : (fixL F).length = n := by rw [fixL_len]; exact hl2
        have hY8 : ∀ x, x ∈ fixL F → 0 ≤ x ∧ x ≤ 255 := fun x hx => inr_u8 (own3.rng x hx)
        obtain ⟨g3, c3, rfl, hd1, hd2, hd3, hd4⟩ := own3.formG hl3 (by omega)
        unfold maxLen at hd2
        have hge := rGet_any (fixL F) false (some ⟨g3, 0, none⟩) n c3 _ w3 (own3.rd hl3) (Nat.le_refl _) hd1 (by omega) (by omega)
        rw [show getP (fixL F) false = getE (fixL F) from rfl] at hge
        by_cases hE : getE (fixL F) = 0
        ·have hb := hd_bds hY8 hE
         rw [hE] at hge
         clear hE hY8
         generalize hdIf (fixL F) 0 = H at *
         obtain ⟨h0, h1, h2, h3, h4, h5⟩ := H
         simp only [Hd.val] at hge hb
         replace hge := Lib.hid hge
         clear hl3 own3
         go_wp2_with fail
         refine hge.out.mono ?_
         rintro e w4 ⟨rfl, hb4⟩
         replace own2 := own2.below hb4
         replace bel := bel_after bel hb4
         clear hb4 hge
         have hgl : g < w4.heap.size := (own2.lt g rfl).2
         have bh := (Blk.new w4 52 Z1).setRow (A4 h0 h1 h2 h3 h4 h5)
         replace own2 := (own2.alloc (.cells Z1 52)).upd (Upd.row (w4.alloc (.cells Z1 52)) w4.heap.size (A4 h0 h1 h2 h3 h4 h5)) (by intro x hx e; simp [Value.ownBlock] at hx; omega)
         replace bel := below_setRow (bel.alloc bel.size (.cells Z1 52)) bel.size (A4 h0 h1 h2 h3 h4 h5)
         go_upto_region 17 with (refine wpList_stRow rfl rfl rfl rfl rfl (Blk.new w4 _ _) rhd_size rfl (by simp [Value.oneCell']) ?_; generalize (w4.alloc (.cells Z1 52)).setRow w4.heap.size (A4 h0 h1 h2 h3 h4 h5) = W4 at *; generalize w4.heap.size = g7 at *)
         have z0 : ∀ t : Tw (fun w' => Blk w' g7 52 (A4 h0 h1 h2 h3 h4 h5)), t.w.cell? ⟨g7, 0, none⟩ = some (.int .i64 h0) := fun t => t.h.cell 0
         have z1 : ∀ t : Tw (fun w' => Blk w' g7 52 (A4 h0 h1 h2 h3 h4 h5)), t.w.cell? ⟨g7, 1, none⟩ = some (.int .i64 h1) := fun t => t.h.cell 1
         have z2 : ∀ t : Tw (fun w' => Blk w' g7 52 (A4 h0 h1 h2 h3 h4 h5)), t.w.cell? ⟨g7, 2, none⟩ = some (.int .i64 h2) := fun t => t.h.cell 2
         have z3 : ∀ t : Tw (fun w' => Blk w' g7 52 (A4 h0 h1 h2 h3 h4 h5)), t.w.cell? ⟨g7, 3, none⟩ = some (.int .i64 h3) := fun t => t.h.cell 3
         have z4 : ∀ t : Tw (fun w' => Blk w' g7 52 (A4 h0 h1 h2 h3 h4 h5)), t.w.cell? ⟨g7, 4, none⟩ = some (.int .u32 h4) := fun t => t.h.cell 4
         have z5 : ∀ t : Tw (fun w' => Blk w' g7 52 (A4 h0 h1 h2 h3 h4 h5)), t.w.cell? ⟨g7, 5, none⟩ = some (.int .u32 h5) := fun t => t.h.cell 5
         have ne : Nonempty (Tw (fun w' => Blk w' g7 52 (A4 h0 h1 h2 h3 h4 h5))) := ⟨⟨_, bh⟩⟩
         refine wp_region_plan (fun w' => Blk w' g7 52 (A4 h0 h1 h2 h3 h4 h5)) [(0, true), (1, true), (2, false), (3, false), (4, true)] (by kernel_rfl) (by kernel_rfl) (by kernel_rfl) (by kernel_rfl) bh.drew ?_
         replace bh := bh.drew
         replace own2 := own2.drew
         replace bel := bel.drew
         generalize W4.drew = W5 at *
         refine wpPl_qs 2 _ _ _ (by kernel_rfl) (by kernel_rfl) (by simp) ?_
         unfold clsS
         simp only [qq1, qq2, qq3, qq4, List.filterMap_cons, qq6, qq7, qq8, qq9]
         repeat (first | go_big_quiet_skip | (go_big_quiet_want; go_big_quiet_op; go_big_quiet_on) | refine id (?_ : wpQuiet _ _ _ _ (_ :: _) _))
         refine wpQuiet_nil ?_
         clear z0 z1 z2 z3 z4 z5
         refine wpPl_e _ (by rfl) (by kernel_rfl) (fun K hK => ?_)
         go_simp
         refine (rHFix_any F (some ⟨g, 0, none⟩) n c1 _ W5 (own2.rd hl2) (Nat.le_refl _) (by omega) (by omega)).mono ?_
         rintro e w5 ⟨v5, rfl, own5, bel5⟩
         replace own5 := own5.mono_ bel.size
         replace bh := bh.bel bel5
         replace bel := bel_after bel bel5
         clear bel5
         have hl5 : (fixL F).length = n := by rw [fixL_len]; exact hl2
         obtain ⟨g5', c5, rfl, hf1, hf2, hf3, hf4⟩ := own5.formG hl5 (by omega)
         refine hK _ _ bh ?_
         clear hK K
         refine wpPl_e _ (by rfl) (by kernel_rfl) (fun K hK => ?_)
         go_simp
         refine (Right_any ⟨h0, h1, h2, h3, h4, h5⟩ (fixL F) (some ⟨g5', 0, none⟩) n c5 w5 (own5.rd hl5) (by omega) hb.1 hb.2).mono ?_
         rintro e w6 ⟨R, hRl, v6, rfl, own6, bel6⟩
         replace own6 := own6.mono_ bel.size
         replace bh := bh.bel bel6
         replace bel := bel_after bel bel6
         refine hK _ _ bh ?_
         clear hK K
         refine wpPl_qs 1 _ _ _ (by kernel_rfl) (by kernel_rfl) (by simp) ?_
         unfold clsS
         simp only [qq1, qq2, qq3, qq4, List.filterMap_cons, qq6, qq7, qq8, qq9]
         repeat (first | go_big_quiet_skip | (go_big_quiet_want; go_big_quiet_op; go_big_quiet_on) | refine id (?_ : wpQuiet _ _ _ _ (_ :: _) _))
         refine wpQuiet_nil ?_
         unfold wpPl
         refine NoPanic.normal ?_
         go_wp2_with fail
         go_meet
         exact ⟨R, hRl, own6, bel⟩
        ·have hE1 : (getE (fixL F) == 0) = false := by simpa using hE
         have hv : (hdIf (fixL F) (getE (fixL F))).val = Hd.z.val := by unfold hdIf; rw [if_neg hE]
         rw [hv] at hge
         simp only [Hd.val, Hd.z] at hge
         clear hv hE hY8
         generalize getE (fixL F) = E at *
         replace hge := Lib.hid hge
         clear hl3 own3
         go_wp2_with fail
         refine hge.out.mono ?_
         rintro e w4 ⟨rfl, hb4⟩
         replace own2 := own2.below hb4
         replace bel := bel_after bel hb4
         clear hb4 hge
         have hgl : g < w4.heap.size := (own2.lt g rfl).2
         replace own2 := (own2.alloc (.cells Z1 52)).upd (Upd.row (w4.alloc (.cells Z1 52)) w4.heap.size Z1) (by intro x hx e; simp [Value.ownBlock] at hx; omega)
         replace bel := below_setRow (bel.alloc bel.size (.cells Z1 52)) bel.size Z1
         go_wp2_with (refine wpList_stRow rfl rfl rfl rfl rfl (Blk.new w4 _ _) rhd_size rfl (by simp [Value.oneCell']) ?_; generalize (w4.alloc (.cells Z1 52)).setRow w4.heap.size Z1 = W4 at *; generalize w4.heap.size = g7 at *)
         go_meet
         exact ⟨F, hl2, own2, bel⟩
     case rest =>
      obtain ⟨F, hF, own2, bel⟩ := hcut
      go_wp2
      go_ret
      exact ⟨F, by omega, _, rfl, own2, bel⟩
theorem Frame15_k (wt wo po f be ti : Int) (A : Option Addr) (len cap : Nat) (l : List Int) (a1 a2 p5 m k : Nat) (w : World) (hr : Rd .u8 w w.heap.size A len l) (hlc : len ≤ cap) (hcm : cap ≤ 9223372036854775807)
  (hmn : (if (20 : Int) < (len : Int) then (20 : Int) else (len : Int)) = (m : Int)) (hm1 : m ≤ len) (hk : (IntKind.u64.wrap wt).tmod 7 = (k : Int)) (hk3 : k < 3) (ha1 : (IntKind.u64.wrap wo).tmod 3 = (a1 : Int)) (ha1b : (a1 : Int) < 3) (ha2 : (IntKind.u64.wrap ((IntKind.u64.wrap wo).tdiv 3)).tmod 3 = (a2 : Int)) (ha2b : (a2 : Int) < 3) (hp5 : (IntKind.u64.wrap po).tmod 5 = (p5 : Int)) (hp5b : (p5 : Int) < 5) :
  Calls Tryz.prog 8 #[.agg (A11 true wt wo po f A len cap be 0 ti)] w (Gives w (frameL k (167772161 + (a1 : Int)) (134744065 + (a2 : Int)) (5 + (p5 : Int)) 53 f ((l.take m).take 40))) := by
 have hj0 : (0 : Int) ≤ (m : Int) := by omega
 have hj1 : (m : Int) ≤ (cap : Int) := by omega
 have hj2 : m ≤ cap := by omega
 have hrt := hr.take hm1
 obtain ⟨L, hL⟩ : ∃ L, L = l.take m := ⟨_, rfl⟩
 rw [← hL] at hrt ⊢
 clear hL hr
 have hkv : Value.int .u64 ((IntKind.u64.wrap wt).tmod 7) = .int .u64 (k : Int) := by rw [hk]
 have hav : Value.int .u64 ((IntKind.u64.wrap wo).tmod 3) = .int .u64 (a1 : Int) := by rw [ha1]
 have hav2 : Value.int .u64 ((IntKind.u64.wrap ((IntKind.u64.wrap wo).tdiv 3)).tmod 3) = .int .u64 (a2 : Int) := by rw [ha2]
 have hpv5 : Value.int .u64 ((IntKind.u64.wrap po).tmod 5) = .int .u64 (p5 : Int) := by rw [hp5]
 have hfr := fun w' (h : Below w.heap.size w w') => Frame_any wt (167772161 + (a1 : Int)) (134744065 + (a2 : Int)) (5 + (p5 : Int)) 53 f L A m cap k w' ((hrt.below h).more h.size) hj2 hcm (by omega) (by omega) (by omega) (by omega) hk (by omega)
 unfold Gives at hfr
 obtain ⟨X, hX⟩ : ∃ X, X = frameL k (167772161 + (a1 : Int)) (134744065 + (a2 : Int)) (5 + (p5 : Int)) 53 f (L.take 40) := ⟨_, rfl⟩
 rw [← hX]
 simp only [← hX] at hfr
 clear hX hk ha1 ha2 hp5
 replace hfr := Lib.hid hfr
 go_enter Tryz.func8, Tryz.ntmps8
 go_upto_region 1 with fail
 have bn := Blk.new w 38 (A11 true wt wo po f A len cap be 0 ti)
 have bel := bel_alloc w (.cells (A11 true wt wo po f A len cap be 0 ti) 38)
 generalize w.alloc (.cells (A11 true wt wo po f A len cap be 0 ti) 38) = W at *
 have q2 := bn.cell 2
 go_region
 clear q2
 replace bn := bn.drew
 replace bel := bel.drew
 generalize W.drew = W1 at *
 go_upto_region 2 with fail
 have z0 : ∀ t : Tw (fun w' => Blk w' w.heap.size 38 (A11 true wt wo po f A len cap be 0 ti)), t.w.cell? ⟨w.heap.size, 0, none⟩ = some (.bool true) := fun t => t.h.cell 0
 have z1 : ∀ t : Tw (fun w' => Blk w' w.heap.size 38 (A11 true wt wo po f A len cap be 0 ti)), t.w.cell? ⟨w.heap.size, 1, none⟩ = some (.int .i64 wt) := fun t => t.h.cell 1
 have z2 : ∀ t : Tw (fun w' => Blk w' w.heap.size 38 (A11 true wt wo po f A len cap be 0 ti)), t.w.cell? ⟨w.heap.size, 2, none⟩ = some (.int .i64 wo) := fun t => t.h.cell 2
 have z3 : ∀ t : Tw (fun w' => Blk w' w.heap.size 38 (A11 true wt wo po f A len cap be 0 ti)), t.w.cell? ⟨w.heap.size, 3, none⟩ = some (.int .i64 po) := fun t => t.h.cell 3
 have z4 : ∀ t : Tw (fun w' => Blk w' w.heap.size 38 (A11 true wt wo po f A len cap be 0 ti)), t.w.cell? ⟨w.heap.size, 4, none⟩ = some (.int .i64 f) := fun t => t.h.cell 4
 have z5 : ∀ t : Tw (fun w' => Blk w' w.heap.size 38 (A11 true wt wo po f A len cap be 0 ti)), t.w.cell? ⟨w.heap.size, 5, none⟩ = some (.slice A len cap) := fun t => t.h.cell 5
 have ne : Nonempty (Tw (fun w' => Blk w' w.heap.size 38 (A11 true wt wo po f A len cap be 0 ti))) := ⟨⟨_, bn⟩⟩
 refine wp_region_plan (fun w' => Blk w' w.heap.size 38 (A11 true wt wo po f A len cap be 0 ti)) [(0, true), (1, true), (2, true), (3, true), (4, true), (5, true), (6, true), (7, true), (8, true), (9, true), (10, true), (11, true), (12, true), (13, true), (14, true), (15, true), (16, true), (17, true), (18, true), (19, true), (20, false), (21, false)] (by kernel_rfl) (by kernel_rfl) (by kernel_rfl) (by kernel_rfl) bn.drew ?_
 replace bn := bn.drew
 replace bel := bel.drew
 generalize W1.drew = W2 at *
 refine wpPl_qs 20 _ _ _ (by kernel_rfl) (by kernel_rfl) (by simp) ?_
 unfold clsS
 simp only [qq1, qq2, qq3, qq4, List.filterMap_cons, qq6, qq7, qq8, qq9]
 repeat (first | go_big_quiet_skip | (go_big_quiet_want; go_big_quiet_op; go_big_quiet_on) | refine id (?_ : wpQuiet _ _ _ _ (_ :: _) _))
 refine wpQuiet_nil ?_
 clear z0 z1 z2 z3 z4 z5 hav hav2 hmn hj0 hj1
 refine wpPl_e _ (by rfl) (by kernel_rfl) (fun K hK => ?_)
 go_simp
 refine hK _ _ (bn.alloc _) ?_
 clear hK K
 refine wpPl_e _ (by rfl) (by kernel_rfl) (fun K hK => ?_)
 have hnl := bn.lt
 refine wp_stRow rfl rfl rfl rfl (Blk.new W2 _ _) sn_size rfl (by simp [Value.oneCell']) ?_
 refine hK _ _ ((bn.alloc _).setRow_far (by omega) _) ?_
 clear hK K ne
 unfold wpPl
 refine NoPanic.normal ?_
 have bx := (Blk.new W2 80 Z10).setRow (A10 wt (167772161 + (a1 : Int)) (134744065 + (a2 : Int)) (5 + (p5 : Int)) 53 f A m cap)
 have hbg : w.heap.size ≤ W2.heap.size := bel.size
 replace bn := (bn.alloc (.cells Z10 80)).setRow_far (g' := W2.heap.size) (by omega) (A10 wt (167772161 + (a1 : Int)) (134744065 + (a2 : Int)) (5 + (p5 : Int)) 53 f A m cap)
 replace bel := below_setRow (bel.alloc bel.size (.cells Z10 80)) bel.size (A10 wt (167772161 + (a1 : Int)) (134744065 + (a2 : Int)) (5 + (p5 : Int)) 53 f A m cap)
 generalize (W2.alloc (.cells Z10 80)).setRow W2.heap.size (A10 wt (167772161 + (a1 : Int)) (134744065 + (a2 : Int)) (5 + (p5 : Int)) 53 f A m cap) = W3 at *
 generalize W2.heap.size = g5 at *
 have q0 := bn.cell 0
 have q1 := bn.cell 1
 have q7 := bn.cell 7
 have hk7 : (k : Int) < 7 := by omega
 have d3 : ((k : Int) == 3) = false := by simp; omega
 have d6 : ((k : Int) == 6) = false := by simp; omega
 have hk' : k = 2 ∨ k ≠ 2 := by omega
 rcases hk' with hk0 | hk0
 ·have d2 : ((k : Int) == 2) = true := by simp; omega
  replace hk0 := Lib.hid hk0
  go_wp2_with (refine wpList_ldRow rfl rfl rfl bx Tryz.underlying80 sn_size ?_)
  refine (hfr.out _ bel).mono ?_
  rintro e w1 ⟨v1, rfl, own1, bel1⟩
  replace own1 := own1.mono_ bel.size
  replace bn := bn.bel bel1
  replace bel := bel_after bel bel1
  clear bel1 bx hbg q0 q1 q7
  have q7 := bn.cell 7
  go_wp2
  go_ret
  exact ⟨_, rfl, own1, bel⟩
 ·have d2 : ((k : Int) == 2) = false := by simp; omega
  replace hk0 := Lib.hid hk0
  go_wp2_with (refine wpList_ldRow rfl rfl rfl bx Tryz.underlying80 sn_size ?_)
  refine (hfr.out _ bel).mono ?_
  rintro e w1 ⟨v1, rfl, own1, bel1⟩
  replace own1 := own1.mono_ bel.size
  replace bn := bn.bel bel1
  replace bel := bel_after bel bel1
  clear bel1 bx hbg q0 q1 q7
  have q7 := bn.cell 7
  go_wp2
  go_ret
  exact ⟨_, rfl, own1, bel⟩
theorem Own.rdS {k : IntKind} {e : TypeId} {w : World} {base n c : Nat} {A : Option Addr} {l : List Int} (h : Own k e w base (.slice A n c) l) (hn : l.length = n) : Rd k w w.heap.size A n l := by
 obtain ⟨A', c', e1, _, _, hr⟩ := h.form hn
 simp only [Value.slice.injEq] at e1
 obtain ⟨rfl, _, rfl⟩ := e1
 exact hr
end Go.Proofs.YtbichbdcibchlaaGreat
