/- Every input of RingOrder answers true, and reads behind the call as it read before. No condition. -/
import Derived.Test.YtpkcajnlcpmmcaaRingOM
import Derived.Test.YtpkcajnlcpmmcaaRowT2
namespace Go.Proofs.Ytpkcajnlcpmmcaa
set_option linter.unusedVariables false
set_option linter.unusedSimpArgs false
open Go.RowKit
theorem list_of2 {α : Type} {P : Nat → α → Prop} : ∀ n : Nat, (∀ i, i < n → ∃ x, P i x) → ∃ l : List α, l.length = n ∧ ∀ i x, l[i]? = some x → P i x
  | 0, _ => ⟨[], rfl, by simp⟩
  | n + 1, h => by
      obtain ⟨l, hl, hP⟩ := list_of2 n (fun i hi => h i (by omega))
      obtain ⟨x, hx⟩ := h n (by omega)
      refine ⟨l ++ [x], by simp [hl], fun i y hy => ?_⟩
      rcases Nat.lt_or_ge i n with hi | hi
      · rw [List.getElem?_append_left (by omega)] at hy; exact hP i y hy
      · rw [List.getElem?_append_right (by omega)] at hy
        cases hj : i - l.length with
        | zero => rw [hj] at hy; simp at hy; subst hy; rw [show i = n by omega]; exact hx
        | succ j => rw [hj] at hy; simp at hy
attribute [local irreducible] Rg.does
structure RAct where
  what : Int
  second : Bool
  v : Int
def RAct.cs (x : RAct) : List Value := [.int .i64 x.what, .bool x.second, .int .u64 x.v]
theorem info_u64t : (Try.prog.info? 23).map (fun i => (i.zero, i.size, i.bytes)) = some (some (.int .u64 0), 1, 8) := by kernel_rfl
set_option maxHeartbeats 1000000 in
theorem Do_get (b g h sb : Nat) (P G : Option Addr) (r : Rg) (s : Stp) (w : World) (rg : RgAt w b g h P G r) (st : StpAt w sb s) (hp : s.pos ≤ 2) (hg : s.get = true) (hd : s.done = false) :
    Calls Try.prog 9 #[.pointer (some ⟨b, 0, none⟩), .pointer (some ⟨sb, 0, none⟩)] w fun e w' => e = .returned (.bool (r.does s).2.done) ∧ RS w b g h sb P G (r.does s).1 (r.does s).2 w' := by
  have e4 := Blk.cell st 4
  have e0 := Blk.cell st 0
  rw [hd] at e4
  replace hd := Lib.hid hd
  rw [hg] at e0
  rw [show r.does s = ((r.gets s).1, (r.gets s).2.up) by unfold Rg.does; rw [if_pos hg]]
  replace hg := Lib.hid hg
  have hA := gets_any b g h sb P G r s w rg st hp
  have hpos := gets_pos r s
  obtain ⟨r1, s1, hgs⟩ : ∃ r1 s1, r.gets s = (r1, s1) := ⟨_, _, rfl⟩
  rw [hgs] at hA hpos ⊢
  simp only at hA hpos ⊢
  replace hA := Lib.hid hA
  replace hgs := Lib.hid hgs
  replace hpos := Lib.hid hpos
  go_enter Try.func9, Try.ntmps9
  go_wp2_with fail
  refine hA.out.mono ?_
  rintro e w1 ⟨rfl, k1⟩
  clear hA
  replace hpos := hpos.out
  have k2 := k1.up
  have x1 := Blk.cell k1.st 1
  have f1 := Blk.frozen k1.st 1
  have x4 := Blk.cell k2.st 4
  have hw : wrap64 ((s1.pos : Int) + 1) = (s1.pos : Int) + 1 := IntWalk.wrap64_in _ (by omega)
  clear e4 e0 hpos
  go_wp2_with fail
  go_ret
  exact ⟨rfl, k2⟩
set_option maxRecDepth 100000 in
set_option maxHeartbeats 4000000 in
theorem RingOrder_any (x0 : Int) (A : Option Addr) (m cap : Nat) (acts : List RAct) (w : World) (rd : RdT RAct.cs 3 w w.heap.size A m acts) (hv : ∀ x ∈ acts, inr .u64 x.v) (hmx : m ≤ 9223372036854775807) :
    Calls Try.prog 3 #[.int .i64 x0, .slice A m cap] w fun e w' => e = .returned (.bool true) ∧ Below w.heap.size w w' := by
  obtain ⟨i0, hi, hz0, hz1, hz2⟩ := info_parts info_u64t
  obtain ⟨q, hq, hq8⟩ := modn x0 256 (by omega)
  obtain ⟨k, hk⟩ : ∃ k : Nat, k = 1 + q := ⟨_, rfl⟩
  have hqv : (Value.int .u64 ((IntKind.u64.wrap x0).tmod 256)) = .int .u64 q := by rw [hq]
  have hw2 : 1 + (q : Int) = (k : Int) := by omega
  have hk1 : 1 ≤ k := by omega
  have hk2 : k ≤ 256 := by omega
  clear hq
  replace hk := Lib.hid hk
  go_enter Try.func3, Try.ntmps3
  go_wp2_with fail
  refine (RgNew_yes k _ hk1 hk2).mono ?_
  rintro e w1 ⟨b, g, h, rfl, bel, hb, hh, rg⟩
  have m1 : OM w b g h k none none _ (.slice none 0 0) [] 0 0 none none w1 := ⟨rg, o_new k hk1, Own.nil _ _ _ _, .inl ⟨rfl, .inl rfl⟩, .inl ⟨rfl, .inl rfl⟩, by simp, bel, hb, hh⟩
  clear rg bel hqv hw2 hq8
  go_wp2_with fail
  refine (waits_any _).mono ?_
  rintro e w2 ⟨rfl, bel2⟩
  have m2 := m1.bel' bel2
  clear m1 bel2
  go_wp2_with fail
  go_loopg [8, 9, 10, 11, 12, 13, 14, 15] m (fun gk s8 s9 s10 s11 s12 s13 s14 s15 wr => ∃ (i nx hd : Nat) (P G : Option Addr) (r : Rg) (was : List Int) (sp sg : Option Stp) (full empty : Bool), gk = m - i ∧ i ≤ m ∧ i ≤ 300 ∧ s15 = .int .i64 i ∧ s8 = .pointer (pv sp P) ∧ s9 = .pointer (pv sg G) ∧ s11 = .int .i64 nx ∧ s12 = .int .i64 hd ∧ s13 = .bool full ∧ s14 = .bool empty ∧
    OM w b g h k P G r s10 was nx hd sp sg wr ∧ hd ≤ i ∧ (sp ≠ none → hd = nx + k → full = true) ∧ (sg ≠ none → hd = nx → empty = true))
  case atStart => exact ⟨0, 0, 0, none, none, _, [], none, none, false, false, rfl, Nat.zero_le _, by omega, rfl, rfl, rfl, rfl, rfl, rfl, rfl, m2, by omega, by simp, by simp⟩
  case round =>
    clear m2
    obtain ⟨i, nx, hd, P, G, r, was, sp, sg, full, empty, hgk, him, hi300, rfl, rfl, rfl, rfl, rfl, rfl, rfl, om, hdi, hfull, hempty⟩ := hrel
    by_cases hlt : i < m ∧ i < 300
    · obtain ⟨hlt, hlt300⟩ := hlt
      have hdc : decide (i < m) = true := by simpa using hlt
      have hdc2 : decide ((i : Int) < 300) = true := by simp; omega
      obtain ⟨pb, po, rfl, hpb, pc⟩ := rd.cel (by omega)
      obtain ⟨a, hai⟩ : ∃ a, acts[i]? = some a := ⟨_, List.getElem?_eq_getElem (by have := rd.len; omega)⟩
      have hav := hv a (List.mem_of_getElem? hai)
      obtain ⟨wh, sec, v⟩ := a
      have c0 : wr.cell? ⟨pb, po + i * 3, none⟩ = some (.int .i64 wh) := (om.bel.cell (p := ⟨pb, po + i * 3, none⟩) hpb).trans (pc i _ hai 0 _ rfl)
      have c1 : wr.cell? ⟨pb, po + i * 3 + 1, none⟩ = some (.bool sec) := (om.bel.cell (p := ⟨pb, po + i * 3 + 1, none⟩) hpb).trans (pc i _ hai 1 _ rfl)
      have c2 : wr.cell? ⟨pb, po + i * 3 + 2, none⟩ = some (.int .u64 v) := (om.bel.cell (p := ⟨pb, po + i * 3 + 2, none⟩) hpb).trans (pc i _ hai 2 _ rfl)
      simp only at hav
      clear pc hai
      have bx := Blk.new wr 32 #[.int .i64 wh, .bool sec, .int .u64 v]
      have om0 := om.bel' (bel_alloc wr (.cells #[.int .i64 wh, .bool sec, .int .u64 v] 32))
      have y0 := bx.cell 0
      have y1 := bx.cell 1
      have y2 := bx.cell 2
      replace hgk := Lib.hid hgk
      replace hfull := Lib.hid hfull
      replace hempty := Lib.hid hempty
      go_upto_if 49 with fail
      clear c0 c1 c2 om y0 y1
      generalize wr.alloc (.cells #[.int .i64 wh, .bool sec, .int .u64 v] 32) = W0 at *
      generalize wr.heap.size = bxg at *
      go_cut [8, 9, 10, 11, 12, 13, 14] (fun s8 s9 s10 s11 s12 s13 s14 wx => ∃ (nx hd : Nat) (P G : Option Addr) (r : Rg) (was : List Int) (sp sg : Option Stp) (full empty : Bool), s8 = .pointer (pv sp P) ∧ s9 = .pointer (pv sg G) ∧ s11 = .int .i64 nx ∧ s12 = .int .i64 hd ∧ s13 = .bool full ∧ s14 = .bool empty ∧ OM w b g h k P G r s10 was nx hd sp sg wx ∧ hd ≤ i + 1)
      case first =>
        cases sec with
        | false =>
          have om0' := om0
          rcases om0'.hp with ⟨rfl, hpd⟩ | ⟨s, sb, rfl, rfl, hsb, st⟩
          · rw [show pv (none : Option Stp) P = none from rfl]
            go_wp2_with fail
            refine (Put_yes v b g h _ _ _ _ om0.rg hpd).mono ?_
            rintro e w3 ⟨nb, rfl, hnb, rg3, st3, up3⟩
            have mb := (om0.newP hnb rg3 up3).alloc (.cells #[.int .u64 v] 23)
            have hx := Rd.new .u64 w3 23 [v] (by intro y hy; simp at hy; subst hy; exact hav) #[.int .u64 v] rfl 1 rfl
            have hwl := om0.oi.wl
            have oi2 := om0.oi.put v
            have y2' : w3.cell? ⟨bxg, 2, none⟩ = some (.int .u64 v) := (bx.upd up3 (fun e => by subst e; exact bx.ne_ om0.rg.obj (by decide) rfl)).cell 2
            have hnb2 := om0.bel.size
            have st4 := Blk.alloc st3 (.cells #[.int .u64 v] 23)
            have hbz := mb.bel.size
            have hlen : was.length ≤ 1000 := by rw [hwl]; simp only [one]; omega
            clear hwl st3 rg3 up3 om0 om0'
            go_wp2_with (at_builtin; go_loud (refine wpList_app _ rfl (.tmp 56) (.tmp 59) 30 rfl .u64 w.heap.size 23 i0 (.int .u64 0) 8 Try.underlying30 hi hz0 hz1 hz2 rfl _ (by rfl) was mb.own _ _ 1 1 rfl [v] hx (by omega) (by decide) hbz ?_; intro v1 w4 own4 hg4 hb4))
            have om4 := mb.app hg4 own4 oi2 (.inr ⟨_, nb, rfl, rfl, Nat.le_trans hnb2 hnb, st4⟩)
            clear mb hx own4 hg4 hb4 st4 y2'
            go_wp2_with fail
            go_meet
            exact ⟨_, _, _, _, _, _, _, _, _, _, rfl, rfl, rfl, rfl, rfl, rfl, om4, by omega⟩
          · have hpp := om0.oi.pp s rfl
            obtain ⟨p1, p2, p3, p4, p5, p6⟩ := hpp
            have hsv : inr .u64 s.v := om0.own.rng _ (List.mem_of_getElem? p4)
            have hwl := om0.oi.wl
            simp only [one] at hwl
            obtain ⟨g4, c4, rfl, hc4, hc5, _, _⟩ := om0.own.formG hwl (by omega)
            rw [show pv (some s) (some (⟨sb, 0, none⟩ : Addr)) = some ⟨sb, 0, none⟩ from rfl]
            have hA := Do_any b g h sb _ _ r s W0 om0.rg st p3 hsv p2
            have hcase := om0.oi.doPut (by omega)
            obtain ⟨r1, s1, hrs⟩ : ∃ r1 s1, r.does s = (r1, s1) := ⟨_, _, rfl⟩
            rw [hrs] at hA hcase
            simp only at hA hcase
            clear hrs p1 p2 p3 p4 p5 p6
            replace hA := Lib.hid hA
            rcases hcase with ⟨hdn, hfin, hdk, oi2⟩ | ⟨hdn, hfin, oi2⟩ | ⟨hdn, oi2⟩
            · rw [hdn] at hA
              have hft := hfull.out (by simp) hdk
              subst hft
              replace hwl := Lib.hid hwl
              replace hdk := Lib.hid hdk
              go_wp2_with fail
              refine hA.out.mono ?_
              rintro e w3 ⟨rfl, rs⟩
              clear hA
              have om4 := om0.stepP (va' := .slice (some ⟨g4, 0, none⟩) hd c4) rs oi2 hsb (.inl ⟨rfl, hdn⟩) (fun ow => ow.take (m := hd) (by omega))
              have st1 := rs.st
              have hcs1 : (hd : Int) ≤ c4 := by omega
              have hcs2 : hd ≤ c4 := by omega
              have hcs3 : (0 : Int) ≤ hd := by omega
              clear rs om0 om0' oi2 st hsv y2 bx
              replace hdn := Lib.hid hdn
              go_wp2_with fail
              refine (End_any sb s1 w3 st1).mono ?_
              rw [hfin]
              rintro e w4 ⟨rfl, rfl⟩
              replace hfin := Lib.hid hfin
              go_wp2_with fail
              go_meet
              exact ⟨_, _, _, _, _, _, none, _, _, _, rfl, rfl, rfl, rfl, rfl, rfl, om4, by omega⟩
            · rw [hdn] at hA
              replace hwl := Lib.hid hwl
              go_wp2_with fail
              refine hA.out.mono ?_
              rintro e w3 ⟨rfl, rs⟩
              clear hA
              have om4 := om0.stepP rs oi2 hsb (.inl ⟨rfl, hdn⟩) (fun ow => ow)
              have st1 := rs.st
              clear rs om0 om0' oi2 st hsv y2 bx
              replace hdn := Lib.hid hdn
              go_wp2_with fail
              refine (End_any sb s1 w3 st1).mono ?_
              rw [hfin]
              rintro e w4 ⟨rfl, rfl⟩
              go_wp2_with fail
              refine (End_any sb s1 w3 st1).mono ?_
              rw [hfin]
              rintro e w4 ⟨rfl, rfl⟩
              replace hfin := Lib.hid hfin
              go_wp2_with fail
              go_meet
              exact ⟨_, hd + 1, _, _, _, _, none, _, _, _, rfl, rfl, rfl, by go_num, rfl, rfl, om4, by omega⟩
            · rw [hdn] at hA
              replace hwl := Lib.hid hwl
              go_wp2_with fail
              refine hA.out.mono ?_
              rintro e w3 ⟨rfl, rs⟩
              clear hA
              have om4 := om0.stepP rs oi2 hsb (.inr rfl) (fun ow => ow)
              clear rs om0 om0' oi2 st hsv y2 bx
              replace hdn := Lib.hid hdn
              go_wp2_with fail
              go_meet
              exact ⟨_, _, _, _, _, _, some s1, _, _, _, rfl, rfl, rfl, rfl, rfl, rfl, om4, by omega⟩
        | true =>
          have om0' := om0
          rcases om0'.hg with ⟨rfl, hgd⟩ | ⟨s, sb, rfl, rfl, hsb, st⟩
          · rw [show pv (none : Option Stp) G = none from rfl]
            go_wp2_with fail
            refine (Get_yes b g h _ _ _ _ om0.rg hgd).mono ?_
            rintro e w3 ⟨nb, rfl, hnb, rg3, st3, up3⟩
            have om4 := om0.newG hnb rg3 st3 up3
            clear om0 om0' rg3 st3 up3 y2 bx hgd
            go_wp2_with fail
            go_meet
            exact ⟨_, _, _, _, _, _, _, _, _, _, rfl, rfl, rfl, rfl, rfl, rfl, om4, by omega⟩
          · obtain ⟨p1, p2, p3, p4, p5⟩ := om0.oi.gg s rfl
            have hwl := om0.oi.wl
            rw [show pv (some s) (some (⟨sb, 0, none⟩ : Addr)) = some ⟨sb, 0, none⟩ from rfl]
            have hA := Do_get b g h sb _ _ r s W0 om0.rg st p3 p1 p2
            have hcase := om0.oi.doGet
            obtain ⟨r1, s1, hrs⟩ : ∃ r1 s1, r.does s = (r1, s1) := ⟨_, _, rfl⟩
            rw [hrs] at hA hcase
            simp only at hA hcase
            clear hrs p1 p2 p3 p4 p5
            replace hA := Lib.hid hA
            replace hwl := Lib.hid hwl
            rcases hcase with ⟨hdn, hfin, hdk, oi2⟩ | ⟨hdn, hfin, hnxh, hval, oi2⟩ | ⟨hdn, oi2⟩
            · rw [hdn] at hA
              have hft := hempty.out (by simp) hdk
              subst hft
              replace hdk := Lib.hid hdk
              go_wp2_with fail
              refine hA.out.mono ?_
              rintro e w3 ⟨rfl, rs⟩
              clear hA
              have om4 := om0.stepG rs oi2 hsb (.inl ⟨rfl, hdn⟩)
              have st1 := rs.st
              clear rs om0 om0' oi2 st y2 bx
              replace hdn := Lib.hid hdn
              go_wp2_with fail
              refine (End_any sb s1 w3 st1).mono ?_
              rw [hfin]
              rintro e w4 ⟨rfl, rfl⟩
              go_wp2_with fail
              refine (End_any sb s1 w3 st1).mono ?_
              rw [hfin]
              rintro e w4 ⟨rfl, rfl⟩
              replace hfin := Lib.hid hfin
              go_wp2_with fail
              go_meet
              exact ⟨_, _, _, _, _, _, _, none, _, _, rfl, rfl, rfl, rfl, rfl, rfl, om4, by omega⟩
            · rw [hdn] at hA
              obtain ⟨L, hLw⟩ : ∃ L, L = was.length := ⟨_, rfl⟩
              have hLn : nx < L := by rw [hLw]; exact (List.getElem?_eq_some_iff.1 hval).1
              obtain ⟨g4, c4, rfl, hc4, hc5, _, _⟩ := om0.own.formG hLw.symm (by omega)
              replace hLw := Lib.hid hLw
              go_wp2_with fail
              refine hA.out.mono ?_
              rintro e w3 ⟨rfl, rs⟩
              clear hA
              have om4 := om0.stepG rs oi2 hsb (.inl ⟨rfl, hdn⟩)
              have st1 := rs.st
              clear rs om0 om0' oi2 st y2 bx
              replace hdn := Lib.hid hdn
              obtain ⟨o1, _, _⟩ := om4.own.at_ hLw.out.symm hLn
              have hvx : was.getD nx 0 = s1.val := by rw [List.getD_eq_getElem?_getD, hval]; rfl
              rw [hvx] at o1
              clear hvx hval
              obtain ⟨vx, hvx⟩ : ∃ vx, vx = s1.val := ⟨_, rfl⟩
              rw [← hvx] at o1
              have hg4 : g4 < w3.heap.size := cell_lt o1
              have z0 : ∀ t : Tw (fun W => Below w3.heap.size w3 W), t.w.cell? ⟨g4, nx, none⟩ = some (.int .u64 vx) := fun t => (t.h.cell (p := ⟨g4, nx, none⟩) hg4).trans o1
              have hVl : ∀ t : Tw (fun W => Below w3.heap.size w3 W), Calls Try.prog 12 #[.pointer (some ⟨sb, 0, none⟩)] t.w fun e w' => e = .returned (.int .u64 vx) ∧ t.w = w' := fun t => by rw [hvx]; exact Value_any sb s1 t.w (Blk.bel st1 t.h)
              have : Nonempty (Tw (fun W => Below w3.heap.size w3 W)) := ⟨⟨w3, Below.refl _ _⟩⟩
              replace hVl := Lib.hid hVl
              replace hvx := Lib.hid hvx
              have hge : decide (hd ≤ nx) = false := by simp; omega
              go_wp2_with fail
              refine (End_any sb s1 w3 st1).mono ?_
              rw [hfin]
              rintro e w4 ⟨rfl, rfl⟩
              replace hfin := Lib.hid hfin
              go_wp2_with fail
              refine region_tw (fun W => Below w3.heap.size w3 W) (by kernel_rfl) (by kernel_rfl) (Below.refl _ _).drew ?_
              unfold clsS
              repeat (first
                | go_big_quiet_skip
                | (go_big_quiet_want; go_big_quiet_op; first | go_big_quiet_on | go_big_quiet_call (
                  (go_at_call 12; exact q_tw_same (hVl.out _)))))
              refine wpQuiet_nil ?_
              intro tq
              have om5 := om4.bel' tq.h
              clear z0 hVl
              go_wp2_with fail
              go_meet
              exact ⟨nx + 1, _, _, _, _, _, _, none, _, _, rfl, rfl, by go_num, rfl, rfl, rfl, om5, by omega⟩
            · rw [hdn] at hA
              go_wp2_with fail
              refine hA.out.mono ?_
              rintro e w3 ⟨rfl, rs⟩
              clear hA
              have om4 := om0.stepG rs oi2 hsb (.inr rfl)
              clear rs om0 om0' oi2 st y2 bx
              replace hdn := Lib.hid hdn
              go_wp2_with fail
              go_meet
              exact ⟨_, _, _, _, _, _, _, some s1, _, _, rfl, rfl, rfl, rfl, rfl, rfl, om4, by omega⟩
      case rest =>
        clear om0 hfull hempty hdi y2 bx nx hd P G r was sp sg full empty
        obtain ⟨nx, hd, P, G, r, was, sp, sg, full, empty, rfl, rfl, rfl, rfl, rfl, rfl, om, hdi⟩ := hcut
        obtain ⟨d, hdd⟩ : ∃ d : Nat, d = hd - nx := ⟨_, rfl⟩
        have hle1 := om.oi.le1
        have hle2 := om.oi.le2
        have hdn : (hd : Int) - (nx : Int) = (d : Int) := by omega
        have hkd : decide ((k : Int) < (d : Int)) = false := by simp; omega
        have hwd : IntKind.u64.wrap (celAt r.L 1 - celAt r.L 0) = d := by rw [om.oi.c1, om.oi.c0, wrap_sub' _ _ (by omega) (by omega)]; omega
        have hL := Len_any b g h P G r wc om.rg d hwd (by omega)
        replace hL := Lib.hid hL
        replace hdd := Lib.hid hdd
        clear hwd
        have hfl : ∀ (F : Bool), F = ((d : Int) == (k : Int)) → (hd = nx + k → F = true) := fun F hF h => by rw [hF]; simp; have := hdd.out; omega
        have hem : ∀ (F : Bool), F = ((hd : Int) == (nx : Int)) → (hd = nx → F = true) := fun F hF h => by rw [hF]; simp; omega
        replace hfl := Lib.hid hfl
        replace hem := Lib.hid hem
        cases full <;> cases empty
        all_goals
          go_wp2_with fail
          refine hL.out.mono ?_
          rintro e w3 ⟨rfl, bel3⟩
          have om3 := om.bel' bel3
          go_wp2_with fail
          go_roundg (m - (i + 1))
          case measure => have := hgk.out; omega
          case rel =>
            refine ⟨i + 1, nx, hd, P, G, r, was, sp, sg, _, _, rfl, by omega, by omega, by go_num, rfl, rfl, rfl, rfl, rfl, rfl, om3, by omega, fun _ => ?_, fun _ => ?_⟩
            · first | exact fun _ => rfl | exact hfl.out _ rfl
            · first | exact fun _ => rfl | exact hem.out _ rfl
    · have hcond : decide (i < m) = false ∨ (decide (i < m) = true ∧ decide ((i : Int) < 300) = false) := by
        rcases Nat.lt_or_ge i m with h | h
        · exact .inr ⟨by simpa using h, by simp; omega⟩
        · exact .inl (by simp; omega)
      rcases hcond with hdc | ⟨hdc, hdc2⟩
      · go_wp2
        go_ret
        exact ⟨rfl, om.bel⟩
      · go_wp2
        go_ret
        exact ⟨rfl, om.bel⟩
theorem RingOrder_args (W : World) (args : Array Value) (hs : args.size = Try.f3.params.size) (hA : ∀ (j : Nat) t v, Try.f3.params[j]? = some t → args[j]? = some v → Arg Try.prog W t v) :
    Calls Try.prog 3 args W fun e W' => e = .returned (.bool true) ∧ Below W.heap.size W W' := by
  obtain ⟨v0, v1, rfl⟩ := args2 hs
  obtain ⟨x0, rfl, _⟩ := arg_int Try.underlying3 (hA 0 3 v0 rfl rfl)
  obtain ⟨A, len, cap, m, rfl, h1, h2, h3⟩ := arg_slice Try.underlying22 (hA 1 22 v1 rfl rfl)
  have hC : Try.prog.cellsOf 32 = 3 := by kernel_rfl
  have hCi : Try.prog.cellsOf 3 = 1 := by kernel_rfl
  have hCu : Try.prog.cellsOf 23 = 1 := by kernel_rfl
  have hCb : Try.prog.cellsOf 4 = 1 := by kernel_rfl
  rw [hC] at h3
  have h4 := slice_rows (by omega) h3
  unfold maxLen at h2
  have key : ∃ l : List RAct, RdT RAct.cs 3 W W.heap.size A len l ∧ ∀ x ∈ l, inr .u64 x.v := by
    rcases Nat.eq_zero_or_pos len with h0 | h0
    · subst h0; exact ⟨[], RdT.nil _ _ _ _ _, by simp⟩
    · obtain ⟨b, o, rfl, hb, hi⟩ := h4 h0
      obtain ⟨l, hl, hP⟩ := list_of2 (P := fun i (d : RAct) => inr .u64 d.v ∧ ∀ f u, d.cs[f]? = some u → W.cell? ⟨b, o + i * 3 + f, none⟩ = some u) len (fun i hil => by
        obtain ⟨ys, hc, hyl, hr⟩ := hi i hil
        obtain ⟨m', _, hf⟩ := rdg_struct Try.underlying32 hr
        obtain ⟨x0, e0, r0⟩ := fld_int (i := 0) hf rfl Try.underlying3 hCi
        obtain ⟨x1, e1⟩ := fld_bool (i := 1) hf rfl Try.underlying4 hCb
        obtain ⟨x2, e2, r2⟩ := fld_int (i := 2) hf rfl Try.underlying23 hCu
        refine ⟨⟨x0, x1, x2⟩, r2, fun f u hu => ?_⟩
        have hf3 : f < 3 := (List.getElem?_eq_some_iff.1 hu).1
        refine (hc f (by omega)).trans ?_
        rw [← hu]
        match f, hf3 with
        | 0, _ => exact e0
        | 1, _ => exact e1
        | 2, _ => exact e2)
      refine ⟨l, ⟨hl, fun _ => ⟨b, o, rfl, hb, fun j x hj f u hu => (hP j x hj).2 f u hu⟩⟩, fun x hx => ?_⟩
      obtain ⟨i, hi, rfl⟩ := List.mem_iff_getElem.1 hx
      exact (hP i _ (List.getElem?_eq_getElem hi)).1
  obtain ⟨l, rd, hv⟩ := key
  exact RingOrder_any x0 A len cap l W rd hv (by omega)

set_option maxRecDepth 100000 in
theorem RingOrder_lifted (os : Os) (started : os.Started) (H : Type) (enc : TypeId × Value → H) :
    ReturnsInHanded {} Try.checked os 3 .any (Rows.ringOrderSpec.pre6 enc Try.prog Try.f3 Rows.ringOrderRow.domain false) (Rows.ringOrderSpec.post enc Try.prog Try.f3 false true false false) :=
  law_lifted os started H enc (by kernel_rfl) Try.func3 rfl rfl (fun H ds h => by match ds, h with | [_, _], _ => exact ⟨rfl, rfl, rfl⟩) (by kernel_rfl)
    (ChangeSpec.witness6 (enc := enc) (C := Try.checked) false ⟨#[], #[.int .i64 0, .slice none 0 0], []⟩ 8 (by kernel_rfl) (by kernel_rfl) (by kernel_rfl) (by kernel_rfl))
    RingOrder_args

/-- the statement -/
theorem ringOrder_holds : Rows.RingOrderSaid :=
  OpenClaim.holds_of_wide 3 Try.f3 rfl rfl rfl rfl rfl rfl rfl ⟨rfl, rfl, rfl, rfl, rfl⟩ rfl rfl rfl rfl rfl (by kernel_rfl) Try.func3 (by kernel_rfl)
    (of_decide_eq_true (by kernel_rfl)) (by unfold Func.isWrapper; first | (rw [if_pos (by decide +kernel)]; kernel_rfl) | (rw [if_neg (by decide +kernel)]; exact ⟨rfl, rfl⟩))
    (fun os started H enc _ => RingOrder_lifted os started H enc)

end Go.Proofs.Ytpkcajnlcpmmcaa
