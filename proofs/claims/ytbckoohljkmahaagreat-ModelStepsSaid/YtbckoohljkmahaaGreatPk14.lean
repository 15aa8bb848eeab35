/- Contracts and plain facts. -/
import Derived.Test.YtbckoohljkmahaaGreatPk12
import Derived.Test.YtbckoohljkmahaaGreatPk07
namespace Go.Proofs.YtbckoohljkmahaaGreat
set_option linter.unusedVariables false
set_option linter.unusedSimpArgs false
set_option maxRecDepth 100000
set_option maxHeartbeats 16000000
open Go.RowKit
def gotP (k : Nat) (a b f : Int) : Pt :=
 if k = 0 then { Pt.z with proto := 17, src := a, dst := b } else if k = 1 then { Pt.z with proto := 6, src := a, dst := b, flags := f % 256 } else
 { Pt.z with proto := 1, kind := if k = 2 then 8 else 0, src := a, dst := a }
section
variable {s d a b f : Int} {l : List Int} {h : Hd} (hs : 0 ≤ s ∧ s ≤ 4294967295) (hd : 0 ≤ d ∧ d ≤ 4294967295) (ha : 0 ≤ a ∧ a ≤ 65535) (hb : 0 ≤ b ∧ b ≤ 65535) (hl : Bytes8 l) (h1 : h.src = s) (h2 : h.dst = d)
include hs hd ha hb hl h1 h2
theorem udpL_got : udpR h (udpL s d a b l) = (0, gotP 0 a b f) := by
 have hf := few_len l
 have hn := nev_bd (udp_sum hs hd ha hb hl)
 have hc := udp_cl hs hd ha hb hl _ rfl
 unfold udpL
 rw [udp_got ha hb ⟨hn.1, hn.2.1⟩ (by omega) (fun _ => by rw [h1, h2]; exact hc.zero)]
 rw [decide_eq_false hn.2.2]
 rfl
theorem tcpL_got : tcpR h (tcpL s d a b f l) = (0, gotP 1 a b f) := by
 have hc := tcp_cl hs hd ha hb hl f _ rfl
 unfold tcpL
 rw [tcp_got ha hb (by rw [h1, h2]; exact hc.zero)]
 rfl
omit hs hd hb h1 h2 in
theorem echoL_got (r : Bool) : icmpR h (echoL r a l) = (0, gotP (if r then 3 else 2) a b f) := by
 have hk : 0 ≤ (if r then (0 : Int) else 8) ∧ (if r then (0 : Int) else 8) ≤ 255 := by cases r <;> decide
 have hc := echo_cl hl hk ha
 unfold echoL
 rw [echo_got ha (by cases r <;> simp) hc.zero]
 cases r <;> rfl
theorem car_got (k : Nat) (hk : k < 4) : getX (carP k) h (carL k s d a b f l) = (0, gotP k a b f) := by
 have hk' : k = 0 ∨ k = 1 ∨ k = 2 ∨ k = 3 := by omega
 rcases hk' with rfl | rfl | rfl | rfl
 ·exact udpL_got hs hd ha hb hl h1 h2
 ·exact tcpL_got hs hd ha hb hl h1 h2
 ·exact echoL_got (b := b) (f := f) (h := h) ha hl false
 ·exact echoL_got (b := b) (f := f) (h := h) ha hl true
end
section
variable {k : Nat} {s d a b f : Int} {l : List Int} (hs : 0 ≤ s ∧ s ≤ 4294967295) (hd : 0 ≤ d ∧ d ≤ 4294967295) (ha : 0 ≤ a ∧ a ≤ 65535) (hb : 0 ≤ b ∧ b ≤ 65535) (hl : Bytes8 l) (hn : l.length ≤ 40)
theorem frame_len : (frameL k s d a b f l).length = 20 + (carL k s d a b f l).length := put_len
include hn in
theorem frame_bd : 28 ≤ (frameL k s d a b f l).length ∧ (frameL k s d a b f l).length ≤ 130 := by
 have := carL_len k s d a b f l hn
 rw [frame_len]; omega
include hs hd hn in
theorem frame_get : getE (frameL k s d a b f l) = 0 ∧ hdIf (frameL k s d a b f l) 0 = ⟨20, (frameL k s d a b f l).length, 64, carP k, s, d⟩ := by
 have hc := carL_len k s d a b f l hn
 have := frame_head (P := carP k) (s := s) (d := d) (l := carL k s d a b f l) (carP_bd k) hs hd (by omega)
 unfold frameL
 rw [put_len]
 push_cast
 exact this
theorem getR_frame (h : Hd) (hh : h = ⟨20, (frameL k s d a b f l).length, 64, carP k, s, d⟩) : getR h (frameL k s d a b f l) = getX (carP k) h (carL k s d a b f l) :=
 getR_put 64 (carP k) s d _ h (by rw [hh, frame_len]; push_cast; rfl)
include hs hd ha hb hl hn
omit hn in
theorem frame_got (hk : k < 4) : getR ⟨20, (frameL k s d a b f l).length, 64, carP k, s, d⟩ (frameL k s d a b f l) = (0, gotP k a b f) := by
 rw [getR_frame _ rfl]
 exact car_got hs hd ha hb hl rfl rfl k hk
end
section
variable {s d a b f : Int} {l : List Int} (hs : 0 ≤ s ∧ s ≤ 4294967295) (hd : 0 ≤ d ∧ d ≤ 4294967295) (ha : 0 ≤ a ∧ a ≤ 65535) (hb : 0 ≤ b ∧ b ≤ 65535) (hl : Bytes8 l) (hn : l.length ≤ 40)
include hs hd ha hb hl hn
end
def B16 (x : Int) : Prop := 0 ≤ x ∧ x ≤ 65535
def B32 (x : Int) : Prop := 0 ≤ x ∧ x ≤ 4294967295
def PB (p : Pt) : Prop := B16 p.src ∧ B16 p.dst ∧ B32 p.inner.src ∧ B32 p.inner.dst
theorem b16z : B16 0 := ⟨by omega, by omega⟩
theorem b32z : B32 0 := ⟨by omega, by omega⟩
theorem PB.z : PB Pt.z := ⟨b16z, b16z, b32z, b32z⟩
theorem PB.ports {p : Pt} {l : List Int} {i j : Nat} (h : PB p) (hl : ∀ x, x ∈ l → 0 ≤ x ∧ x ≤ 255) (hi : i + 2 ≤ l.length) (hj : j + 2 ≤ l.length) : PB (portsP p l i j) :=
 ⟨n2_bd hl hi, n2_bd hl hj, h.2.2.1, h.2.2.2⟩
theorem udpR_bd {h : Hd} {x : List Int} (hl : ∀ y, y ∈ x → 0 ≤ y ∧ y ≤ 255) : PB (udpR h x).2 := by
 unfold udpR
 split
 ·exact PB.z
 split
 ·exact PB.z
 split
 ·exact PB.z
 ·exact PB.ports PB.z hl (by omega) (by omega)
theorem tcpR_bd {h : Hd} {x : List Int} (hl : ∀ y, y ∈ x → 0 ≤ y ∧ y ≤ 255) : PB (tcpR h x).2 := by
 unfold tcpR
 split
 ·exact PB.z
 split
 ·exact PB.z
 split
 ·exact PB.z
 ·exact PB.ports PB.z hl (by omega) (by omega)
theorem faultR_bd {p : Pt} {at_ : Int} {b : List Int} (hp : PB p) (hl : ∀ y, y ∈ b → 0 ≤ y ∧ y ≤ 255) : PB (faultR p at_ b).2 := by
 unfold faultR
 by_cases hz : partE b = 0
 ·rw [if_neg (fun h => h hz)]
  have h20 : 20 ≤ b.length := by
   rcases Nat.lt_or_ge b.length 20 with hh | hh
   ·exfalso
    unfold partE shapeE at hz
    rw [if_pos hh] at hz
    simp at hz
   ·exact hh
  have hd0 := hl (b.getD 0 0) (by rw [List.getD_eq_getElem?_getD, List.getElem?_eq_getElem (by omega)]; exact List.getElem_mem _)
  have hsz : (hdOf b).size = b.getD 0 0 % 16 * 4 := rfl
  have hi : B32 (hdOf b).src := n4_bd hl (by omega)
  have hj : B32 (hdOf b).dst := n4_bd hl (by omega)
  split
  ·exact PB.z
  ·have hdl : 8 ≤ (b.drop (hdOf b).size.toNat).length := by rw [List.length_drop]; omega
   have hdb : ∀ y, y ∈ b.drop (hdOf b).size.toNat → 0 ≤ y ∧ y ≤ 255 := fun y hy => hl y (List.mem_of_mem_drop hy)
   split
   ·exact PB.ports ⟨hp.1, hp.2.1, hi, hj⟩ hdb (by omega) (by omega)
   split
   ·exact PB.ports ⟨hp.1, hp.2.1, hi, hj⟩ hdb (by omega) (by omega)
   ·exact PB.z
 ·rw [if_pos hz]; exact PB.z
theorem icmpR_bd {h : Hd} {x : List Int} (hl : ∀ y, y ∈ x → 0 ≤ y ∧ y ≤ 255) : PB (icmpR h x).2 := by
 unfold icmpR
 split
 ·exact PB.z
 split
 ·exact PB.z
 split
 ·split
  ·exact PB.z
  ·exact PB.ports PB.z hl (by omega) (by omega)
 split
 ·exact faultR_bd PB.z (fun y hy => hl y (List.mem_of_mem_drop hy))
 ·exact PB.z
theorem getR_bd {h : Hd} {b : List Int} (hl : ∀ y, y ∈ b → 0 ≤ y ∧ y ≤ 255) : PB (getR h b).2 := by
 unfold getR
 split
 ·exact PB.z
 split
 ·exact udpR_bd (fun y hy => hl y (seg_mem hy))
 split
 ·exact tcpR_bd (fun y hy => hl y (seg_mem hy))
 split
 ·exact icmpR_bd (fun y hy => hl y (seg_mem hy))
 ·exact PB.z
theorem hd_bds {l : List Int} (hl : ∀ x, x ∈ l → 0 ≤ x ∧ x ≤ 255) (h : getE l = 0) : (0 ≤ (hdIf l 0).src ∧ (hdIf l 0).src ≤ 4294967295) ∧ (0 ≤ (hdIf l 0).dst ∧ (hdIf l 0).dst ≤ 4294967295) := by
 have h20 : 20 ≤ l.length := by
  rcases Nat.lt_or_ge l.length 20 with hh | hh
  ·exfalso
   unfold getE shapeE at h
   rw [if_pos hh] at h
   simp at h
  ·exact hh
 unfold hdIf
 rw [if_pos rfl]
 exact ⟨n4_bd hl (by omega), n4_bd hl (by omega)⟩
def FR (w : World) (e : Ending) (w' : World) : Prop := ∃ L : List Int, (1 ≤ L.length ∧ L.length ≤ 130) ∧ Gives w L e w'
def XB (w' : World) (base g5 : Nat) (wt f : Int) (A : Option Addr) (m cap : Nat) : Prop := ∃ vs vd va vb : Int, B32 vs ∧ B32 vd ∧ B16 va ∧ B16 vb ∧ Blk w' g5 73 (A14 wt vs vd va vb f A m cap) ∧ base ≤ g5
theorem Frame15_any (out : Bool) (wt wo po f be by_ ti : Int) (A : Option Addr) (len cap : Nat) (l : List Int) (w : World) (hr : Rd .u8 w w.heap.size A len l) (hlc : len ≤ cap) (hcm : cap ≤ 9223372036854775807) (hby : 0 ≤ by_ ∧ by_ ≤ 255) :
  Calls Tryz.prog 12 #[.agg (A17 out wt wo po f A len cap be by_ ti)] w (FR w) := by
 obtain ⟨no, hno⟩ : ∃ no, (!out) = no := ⟨_, rfl⟩
 obtain ⟨m, hmn, hm1, hm2⟩ := minc 20 (by omega) len
 have hj0 : (0 : Int) ≤ (m : Int) := by omega
 have hj1 : (m : Int) ≤ (cap : Int) := by omega
 have hj2 : m ≤ cap := by omega
 have hrt := hr.take hm1
 obtain ⟨L, hL⟩ : ∃ L, L = l.take m := ⟨_, rfl⟩
 rw [← hL] at hrt
 clear hL hr
 obtain ⟨k, hk, hk7⟩ := modn wt 7 (by omega)
 have hkv : Value.int .u64 ((IntKind.u64.wrap wt).tmod 7) = .int .u64 (k : Int) := by rw [hk]
 obtain ⟨a1, ha1, ha1b⟩ := modn wo 3 (by omega)
 have hav : Value.int .u64 ((IntKind.u64.wrap wo).tmod 3) = .int .u64 (a1 : Int) := by rw [ha1]
 obtain ⟨a2, ha2, ha2b⟩ := modn ((IntKind.u64.wrap wo).tdiv 3) 3 (by omega)
 have hav2 : Value.int .u64 ((IntKind.u64.wrap ((IntKind.u64.wrap wo).tdiv 3)).tmod 3) = .int .u64 (a2 : Int) := by rw [ha2]
 obtain ⟨p5, hp5, hp5b⟩ := modn po 5 (by omega)
 have hpv5 : Value.int .u64 ((IntKind.u64.wrap po).tmod 5) = .int .u64 (p5 : Int) := by rw [hp5]
 obtain ⟨p44, hp44, hp44b⟩ := modn po 44 (by omega)
 have hpv44 : Value.int .u64 ((IntKind.u64.wrap po).tmod 44) = .int .u64 (p44 : Int) := by rw [hp44]
 have hfr := fun w' (h : Below w.heap.size w w') vs vd va vb (h1 : B32 vs) (h2 : B32 vd) (h3 : B16 va) (h4 : B16 vb) => Frame_any wt vs vd va vb f L A m cap k w' ((hrt.below h).more h.size) hj2 hcm h1 h2 h3 h4 hk (by omega)
 have hbd := fun vs vd va vb => frame_bd (k := k) (s := vs) (d := vd) (a := va) (b := vb) (f := f) (l := L.take 40) (by rw [List.length_take]; omega)
 clear hk ha1 ha2 hp5 hp44
 replace hfr := Lib.hid hfr
 replace hbd := Lib.hid hbd
 go_enter Tryz.func12, Tryz.ntmps12
 go_upto_region 1 with fail
 have bn := Blk.new w 24 (A17 out wt wo po f A len cap be by_ ti)
 have bel := bel_alloc w (.cells (A17 out wt wo po f A len cap be by_ ti) 24)
 generalize w.alloc (.cells (A17 out wt wo po f A len cap be by_ ti) 24) = W at *
 have q2 := bn.cell 2
 go_region
 clear q2
 replace bn := bn.drew
 replace bel := bel.drew
 generalize W.drew = W1 at *
 go_upto_region 2 with fail
 have z0 : ∀ t : Tw (fun w' => Blk w' w.heap.size 24 (A17 out wt wo po f A len cap be by_ ti)), t.w.cell? ⟨w.heap.size, 0, none⟩ = some (.bool out) := fun t => t.h.cell 0
 have z1 : ∀ t : Tw (fun w' => Blk w' w.heap.size 24 (A17 out wt wo po f A len cap be by_ ti)), t.w.cell? ⟨w.heap.size, 1, none⟩ = some (.int .i64 wt) := fun t => t.h.cell 1
 have z2 : ∀ t : Tw (fun w' => Blk w' w.heap.size 24 (A17 out wt wo po f A len cap be by_ ti)), t.w.cell? ⟨w.heap.size, 2, none⟩ = some (.int .i64 wo) := fun t => t.h.cell 2
 have z3 : ∀ t : Tw (fun w' => Blk w' w.heap.size 24 (A17 out wt wo po f A len cap be by_ ti)), t.w.cell? ⟨w.heap.size, 3, none⟩ = some (.int .i64 po) := fun t => t.h.cell 3
 have z4 : ∀ t : Tw (fun w' => Blk w' w.heap.size 24 (A17 out wt wo po f A len cap be by_ ti)), t.w.cell? ⟨w.heap.size, 4, none⟩ = some (.int .i64 f) := fun t => t.h.cell 4
 have z5 : ∀ t : Tw (fun w' => Blk w' w.heap.size 24 (A17 out wt wo po f A len cap be by_ ti)), t.w.cell? ⟨w.heap.size, 5, none⟩ = some (.slice A len cap) := fun t => t.h.cell 5
 have ne : Nonempty (Tw (fun w' => Blk w' w.heap.size 24 (A17 out wt wo po f A len cap be by_ ti))) := ⟨⟨_, bn⟩⟩
 refine wp_region_plan (fun w' => Blk w' w.heap.size 24 (A17 out wt wo po f A len cap be by_ ti)) [(0, true), (1, true), (2, true), (3, true), (4, true), (5, true), (6, true), (7, true), (8, true), (9, true), (10, true), (11, true), (12, true), (13, true), (14, true), (15, true), (16, true), (17, true), (18, true), (19, true), (20, false), (21, false)] (by kernel_rfl) (by kernel_rfl) (by kernel_rfl) (by kernel_rfl) bn.drew ?_
 replace bn := bn.drew
 replace bel := bel.drew
 generalize W1.drew = W2 at *
 refine wpPl_qs 20 _ _ _ (by kernel_rfl) (by kernel_rfl) (by simp) ?_
 unfold clsS
 simp only [qq1, qq2, qq3, qq4, List.filterMap_cons, qq6, qq7, qq8, qq9]
 repeat (first | go_big_quiet_skip | (go_big_quiet_want; go_big_quiet_op; go_big_quiet_on) | refine id (?_ : wpQuiet _ _ _ _ (_ :: _) _))
 refine wpQuiet_nil ?_
 clear z0 z1 z2 z3 z4 z5 hav hav2 hmn hj0 hj1
 refine wpPl_e _ (by rfl) (by kernel_rfl) (fun K hK => ?_)
 go_simp
 refine hK _ _ (bn.alloc _) ?_
 clear hK K
 refine wpPl_e _ (by rfl) (by kernel_rfl) (fun K hK => ?_)
 have hnl := bn.lt
 refine wp_stRow rfl rfl rfl rfl (Blk.new W2 _ _) sn_size rfl (by simp [Value.oneCell']) ?_
 refine hK _ _ ((bn.alloc _).setRow_far (by omega) _) ?_
 clear hK K ne
 unfold wpPl
 refine NoPanic.normal ?_
 have bx := (Blk.new W2 73 Z10).setRow (A14 wt (167772161 + (a1 : Int)) (134744065 + (a2 : Int)) (5 + (p5 : Int)) 53 f A m cap)
 have hbg : w.heap.size ≤ W2.heap.size := bel.size
 replace bn := (bn.alloc (.cells Z10 73)).setRow_far (g' := W2.heap.size) (by omega) (A14 wt (167772161 + (a1 : Int)) (134744065 + (a2 : Int)) (5 + (p5 : Int)) 53 f A m cap)
 replace bel := below_setRow (bel.alloc bel.size (.cells Z10 73)) bel.size (A14 wt (167772161 + (a1 : Int)) (134744065 + (a2 : Int)) (5 + (p5 : Int)) 53 f A m cap)
 generalize (W2.alloc (.cells Z10 73)).setRow W2.heap.size (A14 wt (167772161 + (a1 : Int)) (134744065 + (a2 : Int)) (5 + (p5 : Int)) 53 f A m cap) = W3 at *
 generalize W2.heap.size = g5 at *
 have q0 := bn.cell 0
 go_upto_if 44 with fail
 go_cut [] (fun wx => XB wx w.heap.size g5 wt f A m cap ∧ Blk wx w.heap.size 24 (A17 out wt wo po f A len cap be by_ ti) ∧ Below w.heap.size w wx)
 case first =>
  cases no with
  | false =>
   go_wp2_with fail
   go_meet
   exact ⟨⟨_, _, _, _, ⟨by omega, by omega⟩, ⟨by omega, by omega⟩, ⟨by omega, by omega⟩, ⟨by omega, by omega⟩, bx, hbg⟩, bn, bel⟩
  | true =>
   go_upto_region 4 with fail
   clear q0
   have z3 : ∀ t : Tw (fun w' => Blk w' w.heap.size 24 (A17 out wt wo po f A len cap be by_ ti)), t.w.cell? ⟨w.heap.size, 3, none⟩ = some (.int .i64 po) := fun t => t.h.cell 3
   have ne : Nonempty (Tw (fun w' => Blk w' w.heap.size 24 (A17 out wt wo po f A len cap be by_ ti))) := ⟨⟨_, bn⟩⟩
   refine wp_region_plan (fun w' => Blk w' w.heap.size 24 (A17 out wt wo po f A len cap be by_ ti)) [(0, true), (1, true), (2, true), (3, true), (4, true), (5, true), (6, true), (7, true), (8, false), (9, true), (10, false), (11, true), (12, false), (13, true), (14, false)] (by kernel_rfl) (by kernel_rfl) (by kernel_rfl) (by kernel_rfl) bn.drew ?_
   have hgn : w.heap.size ≠ g5 := bn.ne_ bx (by decide)
   replace bn := bn.drew
   replace bx := bx.drew
   replace bel := bel.drew
   generalize W3.drew = W4 at *
   refine wpPl_qs 8 _ _ _ (by kernel_rfl) (by kernel_rfl) (by simp) ?_
   unfold clsS
   simp only [qq1, qq2, qq3, qq4, List.filterMap_cons, qq6, qq7, qq8, qq9]
   repeat (first | go_big_quiet_skip | (go_big_quiet_want; go_big_quiet_op; go_big_quiet_on) | refine id (?_ : wpQuiet _ _ _ _ (_ :: _) _))
   refine wpQuiet_nil ?_
   clear z3
   have c1 := bx.cell 1
   have f1 := bx.frozen 1
   refine wpPl_e _ (by rfl) (by kernel_rfl) (fun K hK => ?_)
   go_simp
   replace bn := bn.far (p := ⟨g5, 1, none⟩) hgn (.int .u32 (134744065 + (a2 : Int)))
   replace bx := bx.set_ 1 (.int .u32 (134744065 + (a2 : Int)))
   replace bel := bel.setCell (p := ⟨g5, 1, none⟩) hbg (.int .u32 (134744065 + (a2 : Int)))
   refine hK _ _ bn ?_
   clear hK K c1 f1
   generalize W4.setCell ⟨g5, 1, none⟩ (.int .u32 (134744065 + (a2 : Int))) = W5 at *
   refine wpPl_qs 1 _ _ _ (by kernel_rfl) (by kernel_rfl) (by simp) ?_
   unfold clsS
   simp only [qq1, qq2, qq3, qq4, List.filterMap_cons, qq6, qq7, qq8, qq9]
   repeat (first | go_big_quiet_skip | (go_big_quiet_want; go_big_quiet_op; go_big_quiet_on) | refine id (?_ : wpQuiet _ _ _ _ (_ :: _) _))
   refine wpQuiet_nil ?_
   have c1 := bx.cell 2
   have f1 := bx.frozen 2
   refine wpPl_e _ (by rfl) (by kernel_rfl) (fun K hK => ?_)
   go_simp
   replace bn := bn.far (p := ⟨g5, 2, none⟩) hgn (.int .u32 3221225985)
   replace bx := bx.set_ 2 (.int .u32 3221225985)
   replace bel := bel.setCell (p := ⟨g5, 2, none⟩) hbg (.int .u32 3221225985)
   refine hK _ _ bn ?_
   clear hK K c1 f1
   generalize W5.setCell ⟨g5, 2, none⟩ (.int .u32 3221225985) = W6 at *
   refine wpPl_qs 1 _ _ _ (by kernel_rfl) (by kernel_rfl) (by simp) ?_
   unfold clsS
   simp only [qq1, qq2, qq3, qq4, List.filterMap_cons, qq6, qq7, qq8, qq9]
   repeat (first | go_big_quiet_skip | (go_big_quiet_want; go_big_quiet_op; go_big_quiet_on) | refine id (?_ : wpQuiet _ _ _ _ (_ :: _) _))
   refine wpQuiet_nil ?_
   have c1 := bx.cell 3
   have f1 := bx.frozen 3
   refine wpPl_e _ (by rfl) (by kernel_rfl) (fun K hK => ?_)
   go_simp
   replace bn := bn.far (p := ⟨g5, 3, none⟩) hgn (.int .u16 53)
   replace bx := bx.set_ 3 (.int .u16 53)
   replace bel := bel.setCell (p := ⟨g5, 3, none⟩) hbg (.int .u16 53)
   refine hK _ _ bn ?_
   clear hK K c1 f1
   generalize W6.setCell ⟨g5, 3, none⟩ (.int .u16 53) = W7 at *
   refine wpPl_qs 1 _ _ _ (by kernel_rfl) (by kernel_rfl) (by simp) ?_
   unfold clsS
   simp only [qq1, qq2, qq3, qq4, List.filterMap_cons, qq6, qq7, qq8, qq9]
   repeat (first | go_big_quiet_skip | (go_big_quiet_want; go_big_quiet_op; go_big_quiet_on) | refine id (?_ : wpQuiet _ _ _ _ (_ :: _) _))
   refine wpQuiet_nil ?_
   have c1 := bx.cell 4
   have f1 := bx.frozen 4
   refine wpPl_e _ (by rfl) (by kernel_rfl) (fun K hK => ?_)
   go_simp
   replace bn := bn.far (p := ⟨g5, 4, none⟩) hgn (.int .u16 (998 + (p44 : Int)))
   replace bx := bx.set_ 4 (.int .u16 (998 + (p44 : Int)))
   replace bel := bel.setCell (p := ⟨g5, 4, none⟩) hbg (.int .u16 (998 + (p44 : Int)))
   refine hK _ _ bn ?_
   clear hK K c1 f1
   generalize W7.setCell ⟨g5, 4, none⟩ (.int .u16 (998 + (p44 : Int))) = W8 at *
   unfold wpPl
   refine NoPanic.normal ?_
   go_wp2_with fail
   go_meet
   replace bx : Blk W8 g5 73 (A14 wt (134744065 + (a2 : Int)) 3221225985 53 (998 + (p44 : Int)) f A m cap) := bx
   exact ⟨⟨_, _, _, _, ⟨by omega, by omega⟩, ⟨by omega, by omega⟩, ⟨by omega, by omega⟩, ⟨by omega, by omega⟩, bx, hbg⟩, bn, bel⟩
 case rest =>
  clear bx bn bel hbg q0
  obtain ⟨⟨vs, vd, va, vb, hvs, hvd, hva, hvb, bx, hbg⟩, bn, bel⟩ := hcut
  have q0 := bn.cell 0
  have q1 := bn.cell 1
  go_upto_region 5 with fail
  go_cut [79] (fun s79 wx => (∃ x : Bool, s79 = .bool x) ∧ wc = wx)
  case first =>
   have hk' : k = 3 ∨ k = 2 ∨ (k ≠ 3 ∧ k ≠ 2) := by omega
   rcases hk' with hk0 | hk0 | hk0
   ·have d3 : ((k : Int) == 3) = true := by simp; omega
    have d2 : ((k : Int) == 2) = false := by simp; omega
    replace hk0 := Lib.hid hk0
    cases no <;> (go_wp2_with fail; go_meet; exact ⟨⟨_, rfl⟩, rfl⟩)
   ·have d3 : ((k : Int) == 3) = false := by simp; omega
    have d2 : ((k : Int) == 2) = true := by simp; omega
    replace hk0 := Lib.hid hk0
    cases no <;> (go_wp2_with fail; go_meet; exact ⟨⟨_, rfl⟩, rfl⟩)
   ·have d3 : ((k : Int) == 3) = false := by simp; omega
    have d2 : ((k : Int) == 2) = false := by simp; omega
    replace hk0 := Lib.hid hk0
    cases no <;> (go_wp2_with fail; go_meet; exact ⟨⟨_, rfl⟩, rfl⟩)
  case rest =>
   obtain ⟨⟨x, rfl⟩, rfl⟩ := hcut
   clear q0 q1
   go_upto_if 79 with fail
   have hgn : w.heap.size ≠ g5 := bn.ne_ bx (by decide)
   go_cut [] (fun wx => XB wx w.heap.size g5 wt f A m cap ∧ Blk wx w.heap.size 24 (A17 out wt wo po f A len cap be by_ ti) ∧ Below w.heap.size w wx)
   case first =>
    cases x with
    | false =>
     go_wp2_with fail
     go_meet
     exact ⟨⟨_, _, _, _, hvs, hvd, hva, hvb, bx, hbg⟩, bn, bel⟩
    | true =>
     have c4 := bx.cell 4
     have c3 := bx.cell 3
     have f3 := bx.frozen 3
     go_wp2_with fail
     go_meet
     replace bx : Blk (wc.setCell ⟨g5, 3, none⟩ (.int .u16 vb)) g5 73 (A14 wt vs vd vb vb f A m cap) := bx.set_ 3 (.int .u16 vb)
     exact ⟨⟨_, _, _, _, hvs, hvd, hvb, hvb, bx, hbg⟩, bn.far (p := ⟨g5, 3, none⟩) hgn _, bel.setCell (p := ⟨g5, 3, none⟩) hbg _⟩
   case rest =>
    clear bx bn bel hbg hvs hvd hva hvb
    obtain ⟨⟨vs, vd, va, vb, hvs, hvd, hva, hvb, bx, hbg⟩, bn, bel⟩ := hcut
    obtain ⟨x6, h6⟩ : ∃ x6, ((k : Int) == 6) = x6 := ⟨_, rfl⟩
    have q1 := bn.cell 1
    go_upto_if 88 with fail
    clear q1
    go_cut [] (fun wx => XB wx w.heap.size g5 wt f A m cap ∧ Blk wx w.heap.size 24 (A17 out wt wo po f A len cap be by_ ti) ∧ Below w.heap.size w wx)
    case first =>
     have q0 := bn.cell 0
     have q3 := bn.cell 3
     have c4 := bx.cell 4
     have c3 := bx.cell 3
     have f4 := bx.frozen 4
     cases x6 with
     | false =>
      go_wp2_with fail
      go_meet
      exact ⟨⟨_, _, _, _, hvs, hvd, hva, hvb, bx, hbg⟩, bn, bel⟩
     | true =>
      cases no with
      | false =>
       go_wp2_with fail
       go_meet
       replace bx : Blk (wc.setCell ⟨g5, 4, none⟩ (.int .u16 va)) g5 73 (A14 wt vs vd va va f A m cap) := bx.set_ 4 (.int .u16 va)
       exact ⟨⟨_, _, _, _, hvs, hvd, hva, hva, bx, hbg⟩, bn.far (p := ⟨g5, 4, none⟩) hgn _, bel.setCell (p := ⟨g5, 4, none⟩) hbg _⟩
      | true =>
       go_wp2_with fail
       go_meet
       replace bx : Blk ((wc.setCell ⟨g5, 4, none⟩ (.int .u16 va)).setCell ⟨g5, 4, none⟩ (.int .u16 (998 + (p44 : Int)))) g5 73 (A14 wt vs vd va (998 + (p44 : Int)) f A m cap) := (bx.set_ 4 (.int .u16 va)).set_ 4 (.int .u16 (998 + (p44 : Int)))
       exact ⟨⟨_, _, _, _, hvs, hvd, hva, ⟨by omega, by omega⟩, bx, hbg⟩, (bn.far (p := ⟨g5, 4, none⟩) hgn _).far (p := ⟨g5, 4, none⟩) hgn _, (bel.setCell (p := ⟨g5, 4, none⟩) hbg _).setCell (p := ⟨g5, 4, none⟩) hbg _⟩
    case rest =>
     clear bx bn bel hbg hvs hvd hva hvb
     obtain ⟨⟨vs, vd, va, vb, hvs, hvd, hva, hvb, bx, hbg⟩, bn, bel⟩ := hcut
     go_wp2_with (refine wpList_ldRow rfl rfl rfl bx Tryz.underlying73 sn_size ?_)
     refine (hfr.out _ bel vs vd va vb hvs hvd hva hvb).mono ?_
     rintro e w1 ⟨v1, rfl, own1, bel1⟩
     replace own1 := own1.mono_ bel.size
     replace bn := bn.bel bel1
     replace bel := bel_after bel bel1
     clear bel1 bx hbg
     replace hbd := hbd.out vs vd va vb
     clear hfr hpv5 hpv44 hkv
     generalize frameL k vs vd va vb f (L.take 40) = X at *
     obtain ⟨n, hX⟩ : ∃ n, X.length = n := ⟨_, rfl⟩
     rw [hX] at hbd
     replace hX := Lib.hid hX
     have q7 := bn.cell 7
     go_upto_if 106 with fail
     go_cut [6] (fun s6 wx => ∃ F : List Int, F.length = n ∧ Own .u8 5 wx w.heap.size s6 F ∧ Below w.heap.size w wx)
     case first =>
      by_cases hb0 : by_ = 0
      ·have d1 : (by_ != 0) = false := by simpa using hb0
       replace hb0 := Lib.hid hb0
       go_wp2_with fail
       go_meet
       exact ⟨X, hX.out, own1, bel⟩
      ·have d1 : (by_ != 0) = true := by simpa using hb0
       clear hb0
       obtain ⟨g, c1, rfl, hc1, hc2, hg1, hg2⟩ := own1.formG hX.out (by omega)
       unfold maxLen at hc2
       obtain ⟨j, hj, hjn⟩ := modn be (n : Int) (by omega)
       have hjv : Value.int .u64 ((IntKind.u64.wrap be).tmod (n : Int)) = .int .u64 (j : Int) := by rw [hj]
       clear hj
       have hjn2 : j < n := by omega
       have hj0 : (0 : Int) ≤ (j : Int) := by omega
       obtain ⟨cj, fj, xj⟩ := own1.at_ hX.out (j := j) hjn2
       obtain ⟨xo, hxo⟩ : ∃ v, v = X.getD j 0 := ⟨_, rfl⟩
       rw [← hxo] at cj
       clear hxo xj
       obtain ⟨xv, hxv⟩ : ∃ v, bits .xor .u8 xo by_ = v := ⟨_, rfl⟩
       have hxb : 0 ≤ xv ∧ xv ≤ 255 := by
        rw [← hxv]
        have h : ∀ v : Int, 0 ≤ IntKind.u8.wrap v ∧ IntKind.u8.wrap v ≤ 255 := fun v => by rw [IntKind.wrap_u8' v]; omega
        exact h _
       have hne := own1.ne bn (by decide)
       have q6 := bn.cell 6
       go_upto_region 13 with fail
       go_region
       have own2 := (own1.set hX.out j (x := xv) (u8_inr hxb)).drew
       have hl2 : (X.set j xv).length = n := by rw [List.length_set]; exact hX.out
       replace bn := (bn.far (p := ⟨g, j, none⟩) hne (.int .u8 xv)).drew
       replace bel := (bel.setCell (p := ⟨g, j, none⟩) hg1 (.int .u8 xv)).drew
       clear cj fj own1 q6 q7
       generalize X.set j xv = F at *
       generalize (w1.setCell ⟨g, j, none⟩ (.int .u8 xv)).drew = W9 at *
       obtain ⟨x2, h2⟩ : ∃ x2, (be.tmod 2 == 0) = x2 := ⟨_, rfl⟩
       have q6 := bn.cell 6
       cases x2 with
       | false =>
        go_wp2_with fail
        go_meet
        exact ⟨F, hl2, own2, bel⟩
       | true =>
        go_wp2_with fail
        clear q6
        refine (rHFix_any F (some ⟨g, 0, none⟩) n c1 _ W9 (own2.rd hl2) (Nat.le_refl _) (by omega) (by omega)).mono ?_
        rintro e w3 ⟨v3, rfl, own3, bel3⟩
        replace own3 := own3.mono_ bel.size
        replace own2 := own2.below bel3
        replace bel := bel_after bel bel3
        clear bel3 bn hne hjv hjn2 hj0 hxv hxb h2
        have hl3 : (fixL F).length = n := by rw [fixL_len]; exact hl2
        have hY8 : ∀ x, x ∈ fixL F → 0 ≤ x ∧ x ≤ 255 := fun x hx => inr_u8 (own3.rng x hx)
        obtain ⟨g3, c3, rfl, hd1, hd2, hd3, hd4⟩ := own3.formG hl3 (by omega)
        unfold maxLen at hd2
        have hge := rGet_any (fixL F) false (some ⟨g3, 0, none⟩) n c3 _ w3 (own3.rd hl3) (Nat.le_refl _) hd1 (by omega) (by omega)
        rw [show getP (fixL F) false = getE (fixL F) from rfl] at hge
        by_cases hE : getE (fixL F) = 0
        ·have hb := hd_bds hY8 hE
         rw [hE] at hge
         clear hE hY8
         generalize hdIf (fixL F) 0 = H at *
         obtain ⟨h0, h1, h2, h3, h4, h5⟩ := H
         simp only [Hd.val] at hge hb
         replace hge := Lib.hid hge
         clear hl3 own3
         go_wp2_with fail
         refine hge.out.mono ?_
         rintro e w4 ⟨rfl, hb4⟩
         replace own2 := own2.below hb4
         replace bel := bel_after bel hb4
         clear hb4 hge
         have hgl : g < w4.heap.size := (own2.lt g rfl).2
         have bh := (Blk.new w4 67 Z1).setRow (A6 h0 h1 h2 h3 h4 h5)
         replace own2 := (own2.alloc (.cells Z1 67)).upd (Upd.row (w4.alloc (.cells Z1 67)) w4.heap.size (A6 h0 h1 h2 h3 h4 h5)) (by intro x hx e; simp [Value.ownBlock] at hx; omega)
         replace bel := below_setRow (bel.alloc bel.size (.cells Z1 67)) bel.size (A6 h0 h1 h2 h3 h4 h5)
         go_upto_region 17 with (refine wpList_stRow rfl rfl rfl rfl rfl (Blk.new w4 _ _) rhd_size rfl (by simp [Value.oneCell']) ?_; generalize (w4.alloc (.cells Z1 67)).setRow w4.heap.size (A6 h0 h1 h2 h3 h4 h5) = W4 at *; generalize w4.heap.size = g7 at *)
         have z0 : ∀ t : Tw (fun w' => Blk w' g7 67 (A6 h0 h1 h2 h3 h4 h5)), t.w.cell? ⟨g7, 0, none⟩ = some (.int .i64 h0) := fun t => t.h.cell 0
         have z1 : ∀ t : Tw (fun w' => Blk w' g7 67 (A6 h0 h1 h2 h3 h4 h5)), t.w.cell? ⟨g7, 1, none⟩ = some (.int .i64 h1) := fun t => t.h.cell 1
         have z2 : ∀ t : Tw (fun w' => Blk w' g7 67 (A6 h0 h1 h2 h3 h4 h5)), t.w.cell? ⟨g7, 2, none⟩ = some (.int .i64 h2) := fun t => t.h.cell 2
         have z3 : ∀ t : Tw (fun w' => Blk w' g7 67 (A6 h0 h1 h2 h3 h4 h5)), t.w.cell? ⟨g7, 3, none⟩ = some (.int .i64 h3) := fun t => t.h.cell 3
         have z4 : ∀ t : Tw (fun w' => Blk w' g7 67 (A6 h0 h1 h2 h3 h4 h5)), t.w.cell? ⟨g7, 4, none⟩ = some (.int .u32 h4) := fun t => t.h.cell 4
         have z5 : ∀ t : Tw (fun w' => Blk w' g7 67 (A6 h0 h1 h2 h3 h4 h5)), t.w.cell? ⟨g7, 5, none⟩ = some (.int .u32 h5) := fun t => t.h.cell 5
         have ne : Nonempty (Tw (fun w' => Blk w' g7 67 (A6 h0 h1 h2 h3 h4 h5))) := ⟨⟨_, bh⟩⟩
         refine wp_region_plan (fun w' => Blk w' g7 67 (A6 h0 h1 h2 h3 h4 h5)) [(0, true), (1, true), (2, false), (3, false), (4, true)] (by kernel_rfl) (by kernel_rfl) (by kernel_rfl) (by kernel_rfl) bh.drew ?_
         replace bh := bh.drew
         replace own2 := own2.drew
         replace bel := bel.drew
         generalize W4.drew = W5 at *
         refine wpPl_qs 2 _ _ _ (by kernel_rfl) (by kernel_rfl) (by simp) ?_
         unfold clsS
         simp only [qq1, qq2, qq3, qq4, List.filterMap_cons, qq6, qq7, qq8, qq9]
         repeat (first | go_big_quiet_skip | (go_big_quiet_want; go_big_quiet_op; go_big_quiet_on) | refine id (?_ : wpQuiet _ _ _ _ (_ :: _) _))
         refine wpQuiet_nil ?_
         clear z0 z1 z2 z3 z4 z5
         refine wpPl_e _ (by rfl) (by kernel_rfl) (fun K hK => ?_)
         go_simp
         refine (rHFix_any F (some ⟨g, 0, none⟩) n c1 _ W5 (own2.rd hl2) (Nat.le_refl _) (by omega) (by omega)).mono ?_
         rintro e w5 ⟨v5, rfl, own5, bel5⟩
         replace own5 := own5.mono_ bel.size
         replace bh := bh.bel bel5
         replace bel := bel_after bel bel5
         clear bel5
         have hl5 : (fixL F).length = n := by rw [fixL_len]; exact hl2
         obtain ⟨g5', c5, rfl, hf1, hf2, hf3, hf4⟩ := own5.formG hl5 (by omega)
         refine hK _ _ bh ?_
         clear hK K
         refine wpPl_e _ (by rfl) (by kernel_rfl) (fun K hK => ?_)
         go_simp
         refine (Right_any ⟨h0, h1, h2, h3, h4, h5⟩ (fixL F) (some ⟨g5', 0, none⟩) n c5 w5 (own5.rd hl5) (by omega) hb.1 hb.2).mono ?_
         rintro e w6 ⟨R, hRl, v6, rfl, own6, bel6⟩
         replace own6 := own6.mono_ bel.size
         replace bh := bh.bel bel6
         replace bel := bel_after bel bel6
         refine hK _ _ bh ?_
         clear hK K
         refine wpPl_qs 1 _ _ _ (by kernel_rfl) (by kernel_rfl) (by simp) ?_
         unfold clsS
         simp only [qq1, qq2, qq3, qq4, List.filterMap_cons, qq6, qq7, qq8, qq9]
         repeat (first | go_big_quiet_skip | (go_big_quiet_want; go_big_quiet_op; go_big_quiet_on) | refine id (?_ : wpQuiet _ _ _ _ (_ :: _) _))
         refine wpQuiet_nil ?_
         unfold wpPl
         refine NoPanic.normal ?_
         go_wp2_with fail
         go_meet
         exact ⟨R, hRl, own6, bel⟩
        ·have hE1 : (getE (fixL F) == 0) = false := by simpa using hE
         have hv : (hdIf (fixL F) (getE (fixL F))).val = Hd.z.val := by unfold hdIf; rw [if_neg hE]
         rw [hv] at hge
         simp only [Hd.val, Hd.z] at hge
         clear hv hE hY8
         generalize getE (fixL F) = E at *
         replace hge := Lib.hid hge
         clear hl3 own3
         go_wp2_with fail
         refine hge.out.mono ?_
         rintro e w4 ⟨rfl, hb4⟩
         replace own2 := own2.below hb4
         replace bel := bel_after bel hb4
         clear hb4 hge
         have hgl : g < w4.heap.size := (own2.lt g rfl).2
         replace own2 := (own2.alloc (.cells Z1 67)).upd (Upd.row (w4.alloc (.cells Z1 67)) w4.heap.size Z1) (by intro x hx e; simp [Value.ownBlock] at hx; omega)
         replace bel := below_setRow (bel.alloc bel.size (.cells Z1 67)) bel.size Z1
         go_wp2_with (refine wpList_stRow rfl rfl rfl rfl rfl (Blk.new w4 _ _) rhd_size rfl (by simp [Value.oneCell']) ?_; generalize (w4.alloc (.cells Z1 67)).setRow w4.heap.size Z1 = W4 at *; generalize w4.heap.size = g7 at *)
         go_meet
         exact ⟨F, hl2, own2, bel⟩
     case rest =>
      obtain ⟨F, hF, own2, bel⟩ := hcut
      go_wp2
      go_ret
      exact ⟨F, by omega, _, rfl, own2, bel⟩
theorem Frame15_k (wt wo po f be ti : Int) (A : Option Addr) (len cap : Nat) (l : List Int) (a1 a2 p5 m k : Nat) (w : World) (hr : Rd .u8 w w.heap.size A len l) (hlc : len ≤ cap) (hcm : cap ≤ 9223372036854775807)
  (hmn : (if (20 : Int) < (len : Int) then (20 : Int) else (len : Int)) = (m : Int)) (hm1 : m ≤ len) (hk : (IntKind.u64.wrap wt).tmod 7 = (k : Int)) (hk3 : k < 3) (ha1 : (IntKind.u64.wrap wo).tmod 3 = (a1 : Int)) (ha1b : (a1 : Int) < 3) (ha2 : (IntKind.u64.wrap ((IntKind.u64.wrap wo).tdiv 3)).tmod 3 = (a2 : Int)) (ha2b : (a2 : Int) < 3) (hp5 : (IntKind.u64.wrap po).tmod 5 = (p5 : Int)) (hp5b : (p5 : Int) < 5) :
  Calls Tryz.prog 12 #[.agg (A17 true wt wo po f A len cap be 0 ti)] w (Gives w (frameL k (167772161 + (a1 : Int)) (134744065 + (a2 : Int)) (5 + (p5 : Int)) 53 f ((l.take m).take 40))) := by
 have hj0 : (0 : Int) ≤ (m : Int) := by omega
 have hj1 : (m : Int) ≤ (cap : Int) := by omega
 have hj2 : m ≤ cap := by omega
 have hrt := hr.take hm1
 obtain ⟨L, hL⟩ : ∃ L, L = l.take m := ⟨_, rfl⟩
 rw [← hL] at hrt ⊢
 clear hL hr
 have hkv : Value.int .u64 ((IntKind.u64.wrap wt).tmod 7) = .int .u64 (k : Int) := by rw [hk]
 have hav : Value.int .u64 ((IntKind.u64.wrap wo).tmod 3) = .int .u64 (a1 : Int) := by rw [ha1]
 have hav2 : Value.int .u64 ((IntKind.u64.wrap ((IntKind.u64.wrap wo).tdiv 3)).tmod 3) = .int .u64 (a2 : Int) := by rw [ha2]
 have hpv5 : Value.int .u64 ((IntKind.u64.wrap po).tmod 5) = .int .u64 (p5 : Int) := by rw [hp5]
 have hfr := fun w' (h : Below w.heap.size w w') => Frame_any wt (167772161 + (a1 : Int)) (134744065 + (a2 : Int)) (5 + (p5 : Int)) 53 f L A m cap k w' ((hrt.below h).more h.size) hj2 hcm (by omega) (by omega) (by omega) (by omega) hk (by omega)
 unfold Gives at hfr
 obtain ⟨X, hX⟩ : ∃ X, X = frameL k (167772161 + (a1 : Int)) (134744065 + (a2 : Int)) (5 + (p5 : Int)) 53 f (L.take 40) := ⟨_, rfl⟩
 rw [← hX]
 simp only [← hX] at hfr
 clear hX hk ha1 ha2 hp5
 replace hfr := Lib.hid hfr
 go_enter Tryz.func12, Tryz.ntmps12
 go_upto_region 1 with fail
 have bn := Blk.new w 24 (A17 true wt wo po f A len cap be 0 ti)
 have bel := bel_alloc w (.cells (A17 true wt wo po f A len cap be 0 ti) 24)
 generalize w.alloc (.cells (A17 true wt wo po f A len cap be 0 ti) 24) = W at *
 have q2 := bn.cell 2
 go_region
 clear q2
 replace bn := bn.drew
 replace bel := bel.drew
 generalize W.drew = W1 at *
 go_upto_region 2 with fail
 have z0 : ∀ t : Tw (fun w' => Blk w' w.heap.size 24 (A17 true wt wo po f A len cap be 0 ti)), t.w.cell? ⟨w.heap.size, 0, none⟩ = some (.bool true) := fun t => t.h.cell 0
 have z1 : ∀ t : Tw (fun w' => Blk w' w.heap.size 24 (A17 true wt wo po f A len cap be 0 ti)), t.w.cell? ⟨w.heap.size, 1, none⟩ = some (.int .i64 wt) := fun t => t.h.cell 1
 have z2 : ∀ t : Tw (fun w' => Blk w' w.heap.size 24 (A17 true wt wo po f A len cap be 0 ti)), t.w.cell? ⟨w.heap.size, 2, none⟩ = some (.int .i64 wo) := fun t => t.h.cell 2
 have z3 : ∀ t : Tw (fun w' => Blk w' w.heap.size 24 (A17 true wt wo po f A len cap be 0 ti)), t.w.cell? ⟨w.heap.size, 3, none⟩ = some (.int .i64 po) := fun t => t.h.cell 3
 have z4 : ∀ t : Tw (fun w' => Blk w' w.heap.size 24 (A17 true wt wo po f A len cap be 0 ti)), t.w.cell? ⟨w.heap.size, 4, none⟩ = some (.int .i64 f) := fun t => t.h.cell 4
 have z5 : ∀ t : Tw (fun w' => Blk w' w.heap.size 24 (A17 true wt wo po f A len cap be 0 ti)), t.w.cell? ⟨w.heap.size, 5, none⟩ = some (.slice A len cap) := fun t => t.h.cell 5
 have ne : Nonempty (Tw (fun w' => Blk w' w.heap.size 24 (A17 true wt wo po f A len cap be 0 ti))) := ⟨⟨_, bn⟩⟩
 refine wp_region_plan (fun w' => Blk w' w.heap.size 24 (A17 true wt wo po f A len cap be 0 ti)) [(0, true), (1, true), (2, true), (3, true), (4, true), (5, true), (6, true), (7, true), (8, true), (9, true), (10, true), (11, true), (12, true), (13, true), (14, true), (15, true), (16, true), (17, true), (18, true), (19, true), (20, false), (21, false)] (by kernel_rfl) (by kernel_rfl) (by kernel_rfl) (by kernel_rfl) bn.drew ?_
 replace bn := bn.drew
 replace bel := bel.drew
 generalize W1.drew = W2 at *
 refine wpPl_qs 20 _ _ _ (by kernel_rfl) (by kernel_rfl) (by simp) ?_
 unfold clsS
 simp only [qq1, qq2, qq3, qq4, List.filterMap_cons, qq6, qq7, qq8, qq9]
 repeat (first | go_big_quiet_skip | (go_big_quiet_want; go_big_quiet_op; go_big_quiet_on) | refine id (?_ : wpQuiet _ _ _ _ (_ :: _) _))
 refine wpQuiet_nil ?_
 clear z0 z1 z2 z3 z4 z5 hav hav2 hmn hj0 hj1
 refine wpPl_e _ (by rfl) (by kernel_rfl) (fun K hK => ?_)
 go_simp
 refine hK _ _ (bn.alloc _) ?_
 clear hK K
 refine wpPl_e _ (by rfl) (by kernel_rfl) (fun K hK => ?_)
 have hnl := bn.lt
 refine wp_stRow rfl rfl rfl rfl (Blk.new W2 _ _) sn_size rfl (by simp [Value.oneCell']) ?_
 refine hK _ _ ((bn.alloc _).setRow_far (by omega) _) ?_
 clear hK K ne
 unfold wpPl
 refine NoPanic.normal ?_
 have bx := (Blk.new W2 73 Z10).setRow (A14 wt (167772161 + (a1 : Int)) (134744065 + (a2 : Int)) (5 + (p5 : Int)) 53 f A m cap)
 have hbg : w.heap.size ≤ W2.heap.size := bel.size
 replace bn := (bn.alloc (.cells Z10 73)).setRow_far (g' := W2.heap.size) (by omega) (A14 wt (167772161 + (a1 : Int)) (134744065 + (a2 : Int)) (5 + (p5 : Int)) 53 f A m cap)
 replace bel := below_setRow (bel.alloc bel.size (.cells Z10 73)) bel.size (A14 wt (167772161 + (a1 : Int)) (134744065 + (a2 : Int)) (5 + (p5 : Int)) 53 f A m cap)
 generalize (W2.alloc (.cells Z10 73)).setRow W2.heap.size (A14 wt (167772161 + (a1 : Int)) (134744065 + (a2 : Int)) (5 + (p5 : Int)) 53 f A m cap) = W3 at *
 generalize W2.heap.size = g5 at *
 have q0 := bn.cell 0
 have q1 := bn.cell 1
 have q7 := bn.cell 7
 have hk7 : (k : Int) < 7 := by omega
 have d3 : ((k : Int) == 3) = false := by simp; omega
 have d6 : ((k : Int) == 6) = false := by simp; omega
 have hk' : k = 2 ∨ k ≠ 2 := by omega
 rcases hk' with hk0 | hk0
 ·have d2 : ((k : Int) == 2) = true := by simp; omega
  replace hk0 := Lib.hid hk0
  go_wp2_with (refine wpList_ldRow rfl rfl rfl bx Tryz.underlying73 sn_size ?_)
  refine (hfr.out _ bel).mono ?_
  rintro e w1 ⟨v1, rfl, own1, bel1⟩
  replace own1 := own1.mono_ bel.size
  replace bn := bn.bel bel1
  replace bel := bel_after bel bel1
  clear bel1 bx hbg q0 q1 q7
  have q7 := bn.cell 7
  go_wp2
  go_ret
  exact ⟨_, rfl, own1, bel⟩
 ·have d2 : ((k : Int) == 2) = false := by simp; omega
  replace hk0 := Lib.hid hk0
  go_wp2_with (refine wpList_ldRow rfl rfl rfl bx Tryz.underlying73 sn_size ?_)
  refine (hfr.out _ bel).mono ?_
  rintro e w1 ⟨v1, rfl, own1, bel1⟩
  replace own1 := own1.mono_ bel.size
  replace bn := bn.bel bel1
  replace bel := bel_after bel bel1
  clear bel1 bx hbg q0 q1 q7
  have q7 := bn.cell 7
  go_wp2
  go_ret
  exact ⟨_, rfl, own1, bel⟩
theorem s15_size : (Tryz.prog.info? 24).map (·.size) = some 9 := by kernel_rfl
theorem KeepO.belA {o : Obj} {w w' : World} (h : Below w.heap.size w w') : KeepO o w w' := fun k hk => by
 have hlt : k < w.heap.size := (Array.getElem?_eq_some_iff.1 hk).1
 rw [h.block k hlt]; exact hk
theorem act_size : (Tryz.prog.info? 52).map (·.size) = some 12 := by kernel_rfl
theorem rcall_size : (Tryz.prog.info? 50).map (·.size) = some 4 := by kernel_rfl
def CallT (w : World) (ti : Int) (e : Ending) (w' : World) : Prop :=
 ∃ (o : Bool) (A : Option Addr) (n c : Nat) (F : List Int) (po : Int), e = .returned (.agg (A13 o A n c ti po)) ∧ n ≤ 130 ∧ n ≤ c ∧ c ≤ 9223372036854775807 ∧ Rd .u8 w' w'.heap.size A n F ∧ Below w.heap.size w w'
structure AcC (w : World) (av : Array Value) (w' : World) : Prop where
 ba : Blk w' w.heap.size 52 av
 br : Blk w' (w.heap.size + 1) 50 Z8
 bel : Below w.heap.size w w'
theorem AcC.bel_ {w W W' : World} {av : Array Value} (h : AcC w av W) (hb : Below W.heap.size W W') : AcC w av W' := ⟨h.ba.bel hb, h.br.bel hb, bel_after h.bel hb⟩
theorem Own.rdS {k : IntKind} {e : TypeId} {w : World} {base n c : Nat} {A : Option Addr} {l : List Int} (h : Own k e w base (.slice A n c) l) (hn : l.length = n) : Rd k w w.heap.size A n l := by
 obtain ⟨A', c', e1, _, _, hr⟩ := h.form hn
 simp only [Value.slice.injEq] at e1
 obtain ⟨rfl, _, rfl⟩ := e1
 exact hr
theorem Call_any (wh : Int) (out : Bool) (wt wo po f be by_ ti pt : Int) (A RA : Option Addr) (len cap rn rc : Nat) (l lr : List Int) (w : World) (hr : Rd .u8 w w.heap.size A len l) (hrr : Rd .u8 w w.heap.size RA rn lr) (hlc : len ≤ cap) (hcm : cap ≤ 9223372036854775807) (hrc : rn ≤ rc) (hrm : rc ≤ 9223372036854775807) (hby : 0 ≤ by_ ∧ by_ ≤ 255) :
  Calls Tryz.prog 21 #[.agg (A16 wh out wt wo po f A len cap be by_ ti pt RA rn rc)] w (CallT w ti) := by
 obtain ⟨m, hmn, hm1, hm2⟩ := minc 100 (by omega) rn
 have hj0 : (0 : Int) ≤ (m : Int) := by omega
 have hj1 : (m : Int) ≤ (rc : Int) := by omega
 have hj2 : m ≤ rc := by omega
 have hrt := hrr.take hm1
 obtain ⟨Lr, hLr⟩ : ∃ Lr, Lr = lr.take m := ⟨_, rfl⟩
 rw [← hLr] at hrt
 clear hLr hrr
 have hfr := fun w' (h : Below w.heap.size w w') => Frame15_any out wt wo po f be by_ ti A len cap l w' ((hr.below h).more h.size) hlc (by omega) hby
 unfold FR Gives at hfr
 replace hfr := Lib.hid hfr
 replace hrt := Lib.hid hrt
 go_enter Tryz.func21, Tryz.ntmps21
 go_upto_region 1 with fail
 have ac : AcC w (A16 wh out wt wo po f A len cap be by_ ti pt RA rn rc) ((w.alloc (.cells (A16 wh out wt wo po f A len cap be by_ ti pt RA rn rc) 52)).alloc (.cells Z8 50)) := by
  have e1 : (w.alloc (.cells (A16 wh out wt wo po f A len cap be by_ ti pt RA rn rc) 52)).heap.size = w.heap.size + 1 := by simp
  have b1 := Blk.new w 52 (A16 wh out wt wo po f A len cap be by_ ti pt RA rn rc)
  have b2 := Blk.new (w.alloc (.cells (A16 wh out wt wo po f A len cap be by_ ti pt RA rn rc) 52)) 50 Z8
  rw [e1] at b2
  exact ⟨b1.alloc _, b2, (bel_alloc _ _).alloc (by simp) _⟩
 generalize (w.alloc (.cells (A16 wh out wt wo po f A len cap be by_ ti pt RA rn rc) 52)).alloc (.cells Z8 50) = W at *
 have z1 : ∀ t : Tw (AcC w (A16 wh out wt wo po f A len cap be by_ ti pt RA rn rc)), t.w.cell? ⟨w.heap.size, 1, none⟩ = some (.bool out) := fun t => t.h.ba.cell 1
 have z9 : ∀ t : Tw (AcC w (A16 wh out wt wo po f A len cap be by_ ti pt RA rn rc)), t.w.cell? ⟨w.heap.size, 9, none⟩ = some (.int .i64 ti) := fun t => t.h.ba.cell 9
 have z10 : ∀ t : Tw (AcC w (A16 wh out wt wo po f A len cap be by_ ti pt RA rn rc)), t.w.cell? ⟨w.heap.size, 10, none⟩ = some (.int .i64 pt) := fun t => t.h.ba.cell 10
 have zs : ∀ w', (∃ t : Tw (AcC w (A16 wh out wt wo po f A len cap be by_ ti pt RA rn rc)), w' = t.w) → ∀ j u, ([.bool out, .int .i64 wt, .int .i64 wo, .int .i64 po, .int .i64 f, .slice A len cap, .int .i64 be, .int .u8 by_, .int .i64 ti] : List Value)[j]? = some u → w'.cell? ⟨w.heap.size, 1 + j, none⟩ = some u := fun w' ⟨t, ht⟩ j u hu => by
  rw [ht, t.h.ba.cell, ← hu]
  match j with
  | 0 | 1 | 2 | 3 | 4 | 5 | 6 | 7 | 8 => rfl
  | j + 9 => simp at hu
 have zz : Nonempty (Tw (AcC w (A16 wh out wt wo po f A len cap be by_ ti pt RA rn rc))) := ⟨⟨_, ac⟩⟩
 refine wp_region_float (AcC w (A16 wh out wt wo po f A len cap be by_ ti pt RA rn rc)) (.cells Z8 50) (w.heap.size + 2) (fun h => .pointer (some ⟨h, 0, none⟩)) 14 _ [(0, true), (1, true), (2, true), (3, true), (4, true), (6, true), (7, true), (8, true), (9, true), (10, true), (11, true), (12, true), (5, false), (13, true)] [(15, false)] (by kernel_rfl) (by kernel_rfl) (by rfl) (by rfl) (by kernel_rfl) (by kernel_rfl) (ac.bel_ (Below.refl _ _).drew) (fun w' h => h.bel_ (bel_alloc _ _)) (fun w' h => h.br.lt) (by intro a w; simp [execOp, go_sem]) ?_
 refine wpFl_qs 12 _ _ _ (by kernel_rfl) (by kernel_rfl) (by simp) ?_
 unfold clsS
 simp only [qq1, qq2, qq3, qq4, List.filterMap_cons, qq6, qq7, qq8, qq9]
 repeat (first
  | go_big_quiet_skip
  | (go_big_quiet_want; first | (refine quiet_ldAt rfl rfl zs Tryz.underlying24 s15_size ?_; go_simp; go_big_quiet_on) | (go_big_quiet_op; go_big_quiet_on))
  | (refine id (?_ : wpQuiet _ _ _ _ (_ :: _) _); first | go_big_quiet_skip | (go_big_quiet_want; first | (refine quiet_ldAt rfl rfl zs Tryz.underlying24 s15_size ?_; go_simp; go_big_quiet_on) | (go_big_quiet_op; go_big_quiet_on))))
 refine wpQuiet_nil ?_
 refine wpFl_e (fun _ => True) _ (by rfl) (by kernel_rfl) trivial (fun _ _ => trivial) (fun W1 _ hS1 K hK => ?_)
 go_simp
 refine (hfr.out W1 hS1.bel).mono ?_
 rintro e W2 ⟨F, ⟨hF1, hF2⟩, v, rfl, own, hb2⟩
 obtain ⟨n, hn⟩ : ∃ n, F.length = n := ⟨_, rfl⟩
 obtain ⟨A3, c3, rfl, hc1, hc2, _⟩ := own.form hn
 refine hK _ _ (hS1.bel_ hb2) (KeepO.belA hb2) ?_
 clear hK K hfr
 replace own := own.mono_ hS1.bel.size
 clear hS1 hb2
 refine wpFl_qs 1 _ _ _ (by kernel_rfl) (by kernel_rfl) (by simp) ?_
 unfold clsS
 simp only [qq1, qq2, qq3, qq4, List.filterMap_cons, qq6, qq7, qq8, qq9]
 repeat (first | go_big_quiet_skip | (go_big_quiet_want; go_big_quiet_op; go_big_quiet_on) | refine id (?_ : wpQuiet _ _ _ _ (_ :: _) _))
 refine wpQuiet_nil ?_
 unfold wpFl
 refine ⟨fun w' => Own .u8 5 w' w.heap.size (.slice A3 n c3) F, own, fun _ h => h.alloc _, fun W3 gf own3 hS3 hgf hbf => ?_⟩
 clear own zz z1 z9 z10 zs
 replace hbf : Blk W3 gf 50 Z8 := hbf
 unfold maxLen at hc2
 replace hn := Lib.hid hn
 go_simp
 refine wpPl_e _ (by rfl) (by kernel_rfl) (fun K hK => ?_)
 obtain ⟨pv, hpv⟩ : ∃ pv, wrap64 (998 + pt.tmod 44) = pv := ⟨_, rfl⟩
 rw [hpv]
 refine wp_stRow rfl rfl rfl rfl hbf rcall_size rfl (by simp [Value.oneCell']) ?_
 have bk := hbf.setRow (A13 out A3 n c3 ti pv)
 have own4 := own3.updne hbf (by decide) (Upd.row' W3 gf (A13 out A3 n c3 ti pv))
 have ac4 : AcC w (A16 wh out wt wo po f A len cap be by_ ti pt RA rn rc) (W3.setRow gf (A13 out A3 n c3 ti pv)) := ⟨hS3.ba.setRow_far (by omega) _, hS3.br.setRow_far (by omega) _, below_setRow hS3.bel (by omega) _⟩
 refine hK _ _ ac4 ?_
 clear hK K hS3 own3 hbf ac hpv
 unfold wpPl
 refine NoPanic.normal ?_
 generalize W3.setRow gf (A13 out A3 n c3 ti pv) = W4 at *
 have ac := ac4
 clear ac4
 have a0 := ac.ba.cell 0
 have a10 := ac.ba.cell 10
 have a11 := ac.ba.cell 11
 have f1 := bk.frozen 1
 have f3 := bk.frozen 3
 have c1 := bk.cell 1
 have c3' := bk.cell 3
 have br := ac.br
 have hn130 : n ≤ 130 := by have := hn.out; omega
 by_cases h6 : wh = 6
 ·subst h6
  have bk8 : Blk (W4.setCell ⟨gf, 3, none⟩ (.int .i64 pt)) gf 50 (A13 out A3 n c3 ti pt)  := bk.set_ 3 (.int .i64 pt)
  have br8 := ac.br.far (p := ⟨gf, 3, none⟩) (show w.heap.size + 1 ≠ gf by omega) (.int .i64 pt)
  have bel8 := ac.bel.setCell (p := ⟨gf, 3, none⟩) (show w.heap.size ≤ gf by omega) (.int .i64 pt)
  have own8 := (own4.updne bk (by decide) (Upd.one W4 gf 3 (.int .i64 pt))).updne br8 (by decide) (Upd.row' _ (w.heap.size + 1) (A13 out A3 n c3 ti pt) )
  have bel9 := below_setRow bel8 (Nat.le_succ _) (A13 out A3 n c3 ti pt)
  go_wp2_with (first
   | (refine wpList_ldRow rfl rfl rfl bk8 Tryz.underlying50 rcall_size ?_)
   | (refine wpList_stRow rfl rfl rfl rfl rfl br8 rcall_size rfl (by simp [Value.oneCell']) ?_))
  exact bodyPost_ret (results_row rfl _ rfl (br8.setRow _) Tryz.underlying50 rcall_size) rfl ⟨_, _, _, _, _, _, rfl, by omega, hc1, by omega, own8.rdS hn.out, bel9⟩
 by_cases h5 : wh = 5
 ·subst h5
  obtain ⟨j, hj, hj2'⟩ := modn pt 2 (by omega)
  have hjv : Value.int .u64 ((IntKind.u64.wrap pt).tmod 2) = .int .u64 (j : Int) := by rw [hj]
  clear hj
  have h01 : j = 0 ∨ j = 1 := by omega
  rcases h01 with rfl | rfl
  ·have bk8 : Blk (W4.setCell ⟨gf, 3, none⟩ (.int .i64 (-1))) gf 50 (A13 out A3 n c3 ti (-1))  := bk.set_ 3 (.int .i64 (-1))
   have br8 := ac.br.far (p := ⟨gf, 3, none⟩) (show w.heap.size + 1 ≠ gf by omega) (.int .i64 (-1))
   have bel8 := ac.bel.setCell (p := ⟨gf, 3, none⟩) (show w.heap.size ≤ gf by omega) (.int .i64 (-1))
   have own8 := (own4.updne bk (by decide) (Upd.one W4 gf 3 (.int .i64 (-1)))).updne br8 (by decide) (Upd.row' _ (w.heap.size + 1) (A13 out A3 n c3 ti (-1)) )
   have bel9 := below_setRow bel8 (Nat.le_succ _) (A13 out A3 n c3 ti (-1))
   go_wp2_with (first
    | (refine wpList_ldRow rfl rfl rfl bk8 Tryz.underlying50 rcall_size ?_)
    | (refine wpList_stRow rfl rfl rfl rfl rfl br8 rcall_size rfl (by simp [Value.oneCell']) ?_))
   exact bodyPost_ret (results_row rfl _ rfl (br8.setRow _) Tryz.underlying50 rcall_size) rfl ⟨_, _, _, _, _, _, rfl, by omega, hc1, by omega, own8.rdS hn.out, bel9⟩
  ·have bk8 : Blk (W4.setCell ⟨gf, 3, none⟩ (.int .i64 (-2))) gf 50 (A13 out A3 n c3 ti (-2))  := bk.set_ 3 (.int .i64 (-2))
   have br8 := ac.br.far (p := ⟨gf, 3, none⟩) (show w.heap.size + 1 ≠ gf by omega) (.int .i64 (-2))
   have bel8 := ac.bel.setCell (p := ⟨gf, 3, none⟩) (show w.heap.size ≤ gf by omega) (.int .i64 (-2))
   have own8 := (own4.updne bk (by decide) (Upd.one W4 gf 3 (.int .i64 (-2)))).updne br8 (by decide) (Upd.row' _ (w.heap.size + 1) (A13 out A3 n c3 ti (-2)) )
   have bel9 := below_setRow bel8 (Nat.le_succ _) (A13 out A3 n c3 ti (-2))
   go_wp2_with (first
    | (refine wpList_ldRow rfl rfl rfl bk8 Tryz.underlying50 rcall_size ?_)
    | (refine wpList_stRow rfl rfl rfl rfl rfl br8 rcall_size rfl (by simp [Value.oneCell']) ?_))
   exact bodyPost_ret (results_row rfl _ rfl (br8.setRow _) Tryz.underlying50 rcall_size) rfl ⟨_, _, _, _, _, _, rfl, by omega, hc1, by omega, own8.rdS hn.out, bel9⟩
 by_cases h7 : wh = 7
 ·subst h7
  have bk8 : Blk (W4.setCell ⟨gf, 1, none⟩ (.slice RA m rc)) gf 50 (A13 out RA m rc ti pv)  := bk.set_ 1 (.slice RA m rc)
  have br8 := ac.br.far (p := ⟨gf, 1, none⟩) (show w.heap.size + 1 ≠ gf by omega) (.slice RA m rc)
  have bel8 := ac.bel.setCell (p := ⟨gf, 1, none⟩) (show w.heap.size ≤ gf by omega) (.slice RA m rc)
  have own8 := (own4.updne bk (by decide) (Upd.one W4 gf 1 (.slice RA m rc))).updne br8 (by decide) (Upd.row' _ (w.heap.size + 1) (A13 out RA m rc ti pv) )
  have bel9 := below_setRow bel8 (Nat.le_succ _) (A13 out RA m rc ti pv)
  go_wp2_with (first
   | (refine wpList_ldRow rfl rfl rfl bk8 Tryz.underlying50 rcall_size ?_)
   | (refine wpList_stRow rfl rfl rfl rfl rfl br8 rcall_size rfl (by simp [Value.oneCell']) ?_))
  exact bodyPost_ret (results_row rfl _ rfl (br8.setRow _) Tryz.underlying50 rcall_size) rfl ⟨_, _, _, _, _, _, rfl, by omega, hj2, by omega, (hrt.out.below bel9).more bel9.size, bel9⟩
 have d6 : (wh == 6) = false := by simpa using h6
 have d5 : (wh == 5) = false := by simpa using h5
 have d7 : (wh == 7) = false := by simpa using h7
 clear h5 h6 h7
 have br8 := ac.br
 have own8 := own4.updne br8 (by decide) (Upd.row' _ (w.heap.size + 1) (A13 out A3 n c3 ti pv))
 have bel9 := below_setRow ac.bel (Nat.le_succ _) (A13 out A3 n c3 ti pv)
 go_wp2_with (first
  | (refine wpList_ldRow rfl rfl rfl bk Tryz.underlying50 rcall_size ?_)
  | (refine wpList_stRow rfl rfl rfl rfl rfl br8 rcall_size rfl (by simp [Value.oneCell']) ?_))
 exact bodyPost_ret (results_row rfl _ rfl (br8.setRow _) Tryz.underlying50 rcall_size) rfl ⟨_, _, _, _, _, _, rfl, by omega, hc1, by omega, own8.rdS hn.out, bel9⟩
structure Ac where
 wh : Int
 out : Bool
 wt : Int
 wo : Int
 po : Int
 f : Int
 A : Option Addr
 n : Nat
 c : Nat
 be : Int
 by_ : Int
 ti : Int
 pt : Int
 RA : Option Addr
 rn : Nat
 rc : Nat
def Ac.cs (x : Ac) : List Value := [.int .i64 x.wh, .bool x.out, .int .i64 x.wt, .int .i64 x.wo, .int .i64 x.po, .int .i64 x.f, .slice x.A x.n x.c, .int .i64 x.be, .int .u8 x.by_, .int .i64 x.ti, .int .i64 x.pt, .slice x.RA x.rn x.rc]
structure AcOk (w : World) (x : Ac) : Prop where
 by8 : 0 ≤ x.by_ ∧ x.by_ ≤ 255
 b : ∃ l, Rd .u8 w w.heap.size x.A x.n l
 bn : x.n ≤ x.c
 bc : x.c ≤ 9223372036854775807
 r : ∃ l, Rd .u8 w w.heap.size x.RA x.rn l
 rn : x.rn ≤ x.rc
 rc : x.rc ≤ 9223372036854775807
theorem AcOk.bel {w w' : World} {x : Ac} (h : AcOk w x) (hb : Below w.heap.size w w') : AcOk w' x := by
 obtain ⟨h1, ⟨l, h2⟩, h3, h4, ⟨l', h5⟩, h6, h7⟩ := h
 exact ⟨h1, ⟨l, (h2.below hb).more hb.size⟩, h3, h4, ⟨l', (h5.below hb).more hb.size⟩, h6, h7⟩
theorem Call_of {w : World} {x : Ac} (h : AcOk w x) : Calls Tryz.prog 21 #[.agg (A16 x.wh x.out x.wt x.wo x.po x.f x.A x.n x.c x.be x.by_ x.ti x.pt x.RA x.rn x.rc)] w (CallT w x.ti) := by
 obtain ⟨h1, ⟨l, h2⟩, h3, h4, ⟨l', h5⟩, h6, h7⟩ := h
 exact Call_any x.wh x.out x.wt x.wo x.po x.f x.be x.by_ x.ti x.pt x.A x.RA x.n x.c x.rn x.rc l l' w h2 h5 h3 h4 h6 h7 h1
def AcRd (w : World) (A : Option Addr) (n : Nat) : Prop := 0 < n → ∃ b o, A = some ⟨b, o, none⟩ ∧ b < w.heap.size ∧ ∀ i, i < n → ∃ x : Ac, AcOk w x ∧ ∀ j v, x.cs[j]? = some v → w.cell? ⟨b, o + i * 12 + j, none⟩ = some v
theorem arr12 {ys : List Value} {x0 x1 x2 x3 x4 x5 x6 x7 x8 x9 x10 x11 : Value} (h0 : ys[0]? = some x0) (h1 : ys[1]? = some x1) (h2 : ys[2]? = some x2) (h3 : ys[3]? = some x3) (h4 : ys[4]? = some x4) (h5 : ys[5]? = some x5) (h6 : ys[6]? = some x6) (h7 : ys[7]? = some x7) (h8 : ys[8]? = some x8) (h9 : ys[9]? = some x9) (h10 : ys[10]? = some x10) (h11 : ys[11]? = some x11) :
  ∀ (j : Nat) v, ([x0, x1, x2, x3, x4, x5, x6, x7, x8, x9, x10, x11] : List Value)[j]? = some v → ys[j]? = some v := fun j v hv => by
 match j with
 | 0 => rw [h0]; exact hv
 | 1 => rw [h1]; exact hv
 | 2 => rw [h2]; exact hv
 | 3 => rw [h3]; exact hv
 | 4 => rw [h4]; exact hv
 | 5 => rw [h5]; exact hv
 | 6 => rw [h6]; exact hv
 | 7 => rw [h7]; exact hv
 | 8 => rw [h8]; exact hv
 | 9 => rw [h9]; exact hv
 | 10 => rw [h10]; exact hv
 | 11 => rw [h11]; exact hv
 | j + 12 => simp at hv
theorem ac_of {W : World} {m : Nat} {ys : List Value} (h : Rdg Tryz.prog W m 52 ys) : ∃ x : Ac, AcOk W x ∧ ys.length = 12 ∧ ∀ (j : Nat) v, x.cs[j]? = some v → ys[j]? = some v := by
 have hC : Tryz.prog.cellsOf 52 = 12 := by kernel_rfl
 have hCi : Tryz.prog.cellsOf 3 = 1 := by kernel_rfl
 have hCl : Tryz.prog.cellsOf 4 = 1 := by kernel_rfl
 have hCb : Tryz.prog.cellsOf 5 = 1 := by kernel_rfl
 have hCs : Tryz.prog.cellsOf 22 = 1 := by kernel_rfl
 have hCt : Tryz.prog.cellsOf 24 = 9 := by kernel_rfl
 obtain ⟨m', hl, hf⟩ := rdg_struct Tryz.underlying52 h
 obtain ⟨x0, e0, _⟩ := fld_int (i := 0) hf rfl Tryz.underlying3 hCi
 obtain ⟨m2, _, hf2⟩ := rdg_struct Tryz.underlying24 (hf 1 _ rfl)
 obtain ⟨x10, e10, _⟩ := fld_int (i := 2) hf rfl Tryz.underlying3 hCi
 obtain ⟨rA, rn, rc, rl, e11, k1, k2, k3⟩ := fld_ints (i := 3) hf rfl Tryz.underlying22 Tryz.underlying5 hCb hCs
 obtain ⟨y0, u0⟩ := fld_bool (i := 0) hf2 rfl Tryz.underlying4 hCl
 obtain ⟨y1, u1, _⟩ := fld_int (i := 1) hf2 rfl Tryz.underlying3 hCi
 obtain ⟨y2, u2, _⟩ := fld_int (i := 2) hf2 rfl Tryz.underlying3 hCi
 obtain ⟨y3, u3, _⟩ := fld_int (i := 3) hf2 rfl Tryz.underlying3 hCi
 obtain ⟨y4, u4, _⟩ := fld_int (i := 4) hf2 rfl Tryz.underlying3 hCi
 obtain ⟨sA, sn, sc, sl, u5, g1, g2, g3⟩ := fld_ints (i := 5) hf2 rfl Tryz.underlying22 Tryz.underlying5 hCb hCs
 obtain ⟨y6, u6, _⟩ := fld_int (i := 6) hf2 rfl Tryz.underlying3 hCi
 obtain ⟨y7, u7, r7⟩ := fld_int (i := 7) hf2 rfl Tryz.underlying5 hCb
 obtain ⟨y8, u8, _⟩ := fld_int (i := 8) hf2 rfl Tryz.underlying3 hCi
 clear hf hf2 h
 simp [List.getElem?_take, List.getElem?_drop, hCt] at u0 u1 u2 u3 u4 u5 u6 u7 u8
 unfold maxLen at g2 k2
 refine ⟨⟨x0, y0, y1, y2, y3, y4, sA, sn, sc, y6, y7, y8, x10, rA, rn, rc⟩, ⟨inr_u8 r7, ⟨sl, g3⟩, g1, by omega, ⟨rl, k3⟩, k1, by omega⟩, hl.trans hC, arr12 e0 u0 u1 u2 u3 u4 u5 u6 u7 u8 e10 e11⟩
theorem arg_acts {W : World} {v : Value} (h : Arg Tryz.prog W 45 v) : ∃ A n c, v = .slice A n c ∧ n ≤ c ∧ c ≤ 9223372036854775807 ∧ AcRd W A n := by
 obtain ⟨A, len, cap, m, rfl, h1, h2, h3⟩ := arg_slice Tryz.underlying45 h
 have hC : Tryz.prog.cellsOf 52 = 12 := by kernel_rfl
 rw [hC] at h3
 have h4 := slice_rows (by omega) h3
 unfold maxLen at h2
 refine ⟨A, len, cap, rfl, h1, by omega, fun hp => ?_⟩
 obtain ⟨b, o, rfl, hb, hi⟩ := h4 hp
 refine ⟨b, o, rfl, hb, fun i hil => ?_⟩
 obtain ⟨ys, hc, hl, hr⟩ := hi i hil
 obtain ⟨x, hx, hyl, hj⟩ := ac_of hr
 refine ⟨x, hx, fun j v hv => ?_⟩
 have hj12 : j < 12 := by
  have := (List.getElem?_eq_some_iff.1 (hj j v hv)).1
  omega
 exact (hc j (by omega)).trans (hj j v hv)
end Go.Proofs.YtbckoohljkmahaaGreat
