/- Every input of RingTurns answers true, and reads behind the call as it read before. No condition. -/
import Derived.Test.YtpkcajnlcpmmcaaRingT6
import Derived.Test.YtpkcajnlcpmmcaaRowT2
namespace Go.Proofs.Ytpkcajnlcpmmcaa
set_option linter.unusedVariables false
set_option linter.unusedSimpArgs false
open Go.RowKit
attribute [local irreducible] Rg.does
theorem list_of2 {α : Type} {P : Nat → α → Prop} : ∀ n : Nat, (∀ i, i < n → ∃ x, P i x) → ∃ l : List α, l.length = n ∧ ∀ i x, l[i]? = some x → P i x
  | 0, _ => ⟨[], rfl, by simp⟩
  | n + 1, h => by
      obtain ⟨l, hl, hP⟩ := list_of2 n (fun i hi => h i (by omega))
      obtain ⟨x, hx⟩ := h n (by omega)
      refine ⟨l ++ [x], by simp [hl], fun i y hy => ?_⟩
      rcases Nat.lt_or_ge i n with hi | hi
      · rw [List.getElem?_append_left (by omega)] at hy; exact hP i y hy
      · rw [List.getElem?_append_right (by omega)] at hy
        cases hj : i - l.length with
        | zero => rw [hj] at hy; simp at hy; subst hy; rw [show i = n by omega]; exact hx
        | succ j => rw [hj] at hy; simp at hy
structure RAct where
  what : Int
  second : Bool
  v : Int
def RAct.cs (x : RAct) : List Value := [.int .i64 x.what, .bool x.second, .int .u64 x.v]
/-- what a step of both reads ahead -/
structure SX (sx dx kk : Nat) (p d : Option Addr) (W : World) : Prop where
  s : W.cell? ⟨sx, kk, none⟩ = some (.pointer p)
  d : W.cell? ⟨dx, kk, none⟩ = some (.pointer d)
theorem TM.boxes {w0 W W1 W2 : World} {b g h rb lb sx dx k nx hd : Nat} {P G D0 D1 : Option Addr} {r : Rg} {M : List Int} {ps gs : Option Stp} (m : TM w0 b g h rb lb sx dx k P G D0 D1 r M nx hd ps gs W) (up : Upd (fun x => x = b) W W1) (up2 : Upd (fun x => x = rb) W1 W2) :
    Blk W2 sx 51 #[.pointer P, .pointer G] ∧ Blk W2 dx 48 #[.pointer D0, .pointer D1] ∧ RfAt W1 rb lb D0 D1 r M := by
  have rf1 := m.rf.upd up (m.rf.obj.ne_ m.rg.obj (by decide)) (m.rf.row.ne_ m.rg.obj (by decide))
  exact ⟨(m.bs.upd up (m.bs.ne_ m.rg.obj (by decide))).upd up2 ((m.bs.upd up (m.bs.ne_ m.rg.obj (by decide))).ne_ rf1.obj (by decide)), (m.bd.upd up (m.bd.ne_ m.rg.obj (by decide))).upd up2 ((m.bd.upd up (m.bd.ne_ m.rg.obj (by decide))).ne_ rf1.obj (by decide)), rf1⟩
theorem TM.sx4 {w0 W W1 : World} {b g h rb lb sx dx k nx hd pb : Nat} {P G D0 D1 : Option Addr} {r : Rg} {M : List Int} {ps gs : Option Stp} {s : Stp} (m : TM w0 b g h rb lb sx dx k P G D0 D1 r M nx hd ps gs W) (st : StpAt W pb s) (up : Upd (fun x => x = b ∨ x = h ∨ x = pb) W W1) :
    Blk W1 sx 51 #[.pointer P, .pointer G] ∧ Blk W1 dx 48 #[.pointer D0, .pointer D1] := by
  have nn : ∀ {x : Nat} {t : TypeId} {cs : Array Value}, Blk W x t cs → t ≠ 61 → t ≠ 90 → t ≠ 63 → ¬ (x = b ∨ x = h ∨ x = pb) := fun hx e1 e2 e3 e => e.elim (hx.ne_ m.rg.obj e1) (fun e => e.elim (hx.ne_ m.rg.cel.row e2) (hx.ne_ st e3))
  exact ⟨m.bs.upd up (nn m.bs (by decide) (by decide) (by decide)), m.bd.upd up (nn m.bd (by decide) (by decide) (by decide))⟩
theorem sx5 {W1 W2 : World} {rb lb sx dx qb : Nat} {P G D0 D1 E0 E1 : Option Addr} {r : Rg} {M : List Int} {s : Stp} (rf : RfAt W1 rb lb E0 E1 r M) (fs : FStpAt W1 qb s) (bs : Blk W1 sx 51 #[.pointer P, .pointer G]) (bd : Blk W1 dx 48 #[.pointer D0, .pointer D1]) (up : Upd (fun x => x = rb ∨ x = lb ∨ x = qb) W1 W2) :
    Blk W2 sx 51 #[.pointer P, .pointer G] ∧ Blk W2 dx 48 #[.pointer D0, .pointer D1] := by
  have n2 : ∀ {x : Nat} {t : TypeId} {cs : Array Value}, Blk W1 x t cs → t ≠ 50 → t ≠ 23 → t ≠ 55 → ¬ (x = rb ∨ x = lb ∨ x = qb) := fun hx e1 e2 e3 e => e.elim (hx.ne_ rf.obj e1) (fun e => e.elim (hx.ne_ rf.row e2) (hx.ne_ fs e3))
  exact ⟨bs.upd up (n2 bs (by decide) (by decide) (by decide)), bd.upd up (n2 bd (by decide) (by decide) (by decide))⟩
theorem fD {W W1 : World} {b g h : Nat} {P G D : Option Addr} {r : Rg} (up : Upd (fun x => x = b) W W1) (rg : RgAt W b g h P G r) (hD : D = none ∨ ∃ qb s, D = some ⟨qb, 0, none⟩ ∧ FStpAt W qb s ∧ s.done = true) : D = none ∨ ∃ qb s, D = some ⟨qb, 0, none⟩ ∧ FStpAt W1 qb s ∧ s.done = true := by
  rcases hD with h | ⟨qb, s, h1, h2, h3⟩
  · exact .inl h
  · exact .inr ⟨qb, s, h1, Blk.upd h2 up (Blk.ne_ h2 rg.obj (by decide)), h3⟩
theorem tm_new {w W : World} {b g h n : Nat} (rg : RgAt W b g h none none ⟨n, 0, 0, List.replicate (n + 2) 0⟩) (bel : Below w.heap.size w W) (hb : w.heap.size ≤ b) (hh : w.heap.size ≤ h) (h1 : 1 ≤ n) :
    TM w b g h (W.heap.size + 1) W.heap.size (W.heap.size + 1 + 1) (W.heap.size + 1 + 1 + 1) n none none none none ⟨n, 0, 0, List.replicate (n + 2) 0⟩ (List.replicate n 0) 0 0 none none
      ((((W.alloc (.cells (Array.replicate n (.int .u64 0)) 23)).alloc (.cells #[.int .i64 n, .int .u64 0, .int .u64 0, .slice (some ⟨W.heap.size, 0, none⟩) n n, .pointer none, .pointer none] 50)).alloc (.cells #[.pointer none, .pointer none] 51)).alloc (.cells #[.pointer none, .pointer none] 48)) := by
  have hs := bel.size
  have a1 := bel_alloc W (.cells (Array.replicate n (.int .u64 0)) 23)
  have a2 := a1.alloc (by simp) (.cells #[.int .i64 n, .int .u64 0, .int .u64 0, .slice (some ⟨W.heap.size, 0, none⟩) n n, .pointer none, .pointer none] 50)
  have a3 := a2.alloc (by simp; omega) (.cells #[.pointer none, .pointer none] 51)
  have a4 := a3.alloc (by simp; omega) (.cells #[.pointer none, .pointer none] 48)
  have k1 := (((Blk.new W 23 (Array.replicate n (.int .u64 0))).alloc (.cells #[.int .i64 n, .int .u64 0, .int .u64 0, .slice (some ⟨W.heap.size, 0, none⟩) n n, .pointer none, .pointer none] 50)).alloc (.cells #[.pointer none, .pointer none] 51)).alloc (.cells #[.pointer none, .pointer none] 48)
  have k2 := ((Blk.new (W.alloc (.cells (Array.replicate n (.int .u64 0)) 23)) 50 #[.int .i64 n, .int .u64 0, .int .u64 0, .slice (some ⟨W.heap.size, 0, none⟩) n n, .pointer none, .pointer none]).alloc (.cells #[.pointer none, .pointer none] 51)).alloc (.cells #[.pointer none, .pointer none] 48)
  have k3 := (Blk.new ((W.alloc (.cells (Array.replicate n (.int .u64 0)) 23)).alloc (.cells #[.int .i64 n, .int .u64 0, .int .u64 0, .slice (some ⟨W.heap.size, 0, none⟩) n n, .pointer none, .pointer none] 50)) 51 #[.pointer none, .pointer none]).alloc (.cells #[.pointer none, .pointer none] 48)
  have k4 := Blk.new (((W.alloc (.cells (Array.replicate n (.int .u64 0)) 23)).alloc (.cells #[.int .i64 n, .int .u64 0, .int .u64 0, .slice (some ⟨W.heap.size, 0, none⟩) n n, .pointer none, .pointer none] 50)).alloc (.cells #[.pointer none, .pointer none] 51)) 48 #[.pointer none, .pointer none]
  simp only [World.size_alloc] at k2 k3 k4
  refine ⟨rg.bel a4, ⟨k2, by rw [List.map_replicate, List.toArray_replicate]; exact k1, by simp, fun x hx => by obtain rfl := (List.mem_replicate.1 hx).2; exact u64_inr (by omega), rfl⟩, k3, k4, .inl ⟨rfl, rfl, rfl⟩, .inl ⟨rfl, rfl, rfl⟩, ?_, ?_, TI.new n h1, bel_after bel a4, ⟨hb, hh, by omega, by omega, by omega, by omega⟩, ?_⟩
  · intro a a' ha; cases ha
  · intro a a' ha; cases ha
  · exact ⟨(fun a ha => by cases ha), (fun a ha => by cases ha), (fun a ha => by cases ha), (fun a ha => by cases ha)⟩
set_option maxRecDepth 100000 in
theorem RingTurns_no (n : Int) (A : Option Addr) (m cap : Nat) (w : World) (h : n < 1 ∨ 256 < n) :
    Calls Try.prog 5 #[.int .i64 n, .slice A m cap] w fun e w' => e = .returned (.bool true) ∧ Below w.heap.size w w' := by
  go_enter Try.func5, Try.ntmps5
  go_wp2_with (first
    | (go_at_call 15; refine (tnone_any _).mono ?_; rintro e w' ⟨rfl, rfl⟩)
    | (go_at_call 7; refine (waits_any _).mono ?_; rintro e w1 ⟨rfl, b1⟩)
    | (go_at_call 8; refine (Put_nil _ _).mono ?_; rintro e w' ⟨rfl, rfl⟩)
    | (go_at_call 11; refine (Get_nil _).mono ?_; rintro e w' ⟨rfl, rfl⟩)
    | (go_at_call 9; refine (Do_nil _).mono ?_; rintro e w' ⟨rfl, rfl⟩)
    | (go_at_call 13; refine (Len_nil _).mono ?_; rintro e w' ⟨rfl, rfl⟩)
    | (go_at_call 16; refine (All_nil _).mono ?_; rintro e w' ⟨rfl, rfl⟩)
    | (go_at_call 17; refine (RCopy_nil _).mono ?_; rintro e w' ⟨rfl, rfl⟩)
    | (go_at_call 10; refine (End_nil _).mono ?_; rintro e w' ⟨rfl, rfl⟩)
    | (go_at_call 12; refine (Value_nil _).mono ?_; rintro e w' ⟨rfl, rfl⟩))
  refine (RgNew_no n _ h).mono ?_
  rintro e w' ⟨rfl, rfl⟩
  rcases h with h | h
  · have hd : decide (n < 1) = true := by simpa using h
    go_wp2
    go_ret
    exact ⟨rfl, b1⟩
  · have hd : decide (n < 1) = false := by simp; omega
    have hd2 : decide (256 < n) = true := by simpa using h
    go_wp2
    go_ret
    exact ⟨rfl, b1⟩
set_option maxRecDepth 100000 in
set_option maxHeartbeats 8000000 in
theorem RingTurns_yes (n : Nat) (A : Option Addr) (m cap : Nat) (l : List RAct) (w : World) (rd : RdT RAct.cs 3 w w.heap.size A m l) (hv : ∀ x ∈ l, inr .u64 x.v) (hn1 : 1 ≤ n) (hn2 : n ≤ 256) (hmx : m ≤ 9223372036854775807) :
    Calls Try.prog 5 #[.int .i64 n, .slice A m cap] w fun e w' => e = .returned (.bool true) ∧ Below w.heap.size w w' := by
  obtain ⟨i0, hi, hz0, hz1, hz2⟩ := info_parts info_u64r
  have hmk := fun W => make_one (P := Try.prog) 30 23 i0 _ Try.underlying30 hi hz0 hz1 rfl .i64 .i64 n (by rw [hz2]; omega) (by omega) W
  clear hz0 hz1 hz2
  have hc1 : decide ((n : Int) < 1) = false := by simp; omega
  have hc2 : decide (256 < (n : Int)) = false := by simp; omega
  go_enter Try.func5, Try.ntmps5
  go_wp2_with (first
    | (go_at_call 15; refine (tnone_any _).mono ?_; rintro e w' ⟨rfl, rfl⟩)
    | (go_at_call 7; refine (waits_any _).mono ?_; rintro e w1 ⟨rfl, b1⟩)
    | (go_at_call 8; refine (Put_nil _ _).mono ?_; rintro e w' ⟨rfl, rfl⟩)
    | (go_at_call 11; refine (Get_nil _).mono ?_; rintro e w' ⟨rfl, rfl⟩)
    | (go_at_call 9; refine (Do_nil _).mono ?_; rintro e w' ⟨rfl, rfl⟩)
    | (go_at_call 13; refine (Len_nil _).mono ?_; rintro e w' ⟨rfl, rfl⟩)
    | (go_at_call 16; refine (All_nil _).mono ?_; rintro e w' ⟨rfl, rfl⟩)
    | (go_at_call 17; refine (RCopy_nil _).mono ?_; rintro e w' ⟨rfl, rfl⟩)
    | (go_at_call 10; refine (End_nil _).mono ?_; rintro e w' ⟨rfl, rfl⟩)
    | (go_at_call 12; refine (Value_nil _).mono ?_; rintro e w' ⟨rfl, rfl⟩))
  refine (RgNew_yes n _ hn1 hn2).mono ?_
  rintro e w6 ⟨b, g, h, rfl, b6, hb, hh, rg⟩
  have hbw : w.heap.size ≤ b := by have := b1.size; omega
  have hhw : w.heap.size ≤ h := by have := b1.size; omega
  have tm := tm_new rg (bel_after b1 b6) hbw hhw hn1
  clear rg b1 b6 hb hh hbw hhw
  go_upto_block 0 with fail
  generalize (((w6.alloc (.cells (Array.replicate n (.int .u64 0)) 23)).alloc (.cells #[.int .i64 n, .int .u64 0, .int .u64 0, .slice (some ⟨w6.heap.size, 0, none⟩) n n, .pointer none, .pointer none] 50)).alloc (.cells #[.pointer none, .pointer none] 51)).alloc (.cells #[.pointer none, .pointer none] 48) = W0 at *
  generalize w6.heap.size + 1 + 1 + 1 = dx at *
  generalize w6.heap.size + 1 + 1 = sx at *
  generalize w6.heap.size + 1 = rb at *
  generalize w6.heap.size = lb at *
  clear hmk
  generalize List.replicate n (0 : Int) = M at *
  generalize (Rg.mk n 0 0 (List.replicate (n + 2) 0)) = r at *
  go_wp2_with fail
  refine wp_loop_ghost_k (fun gk a' wr => ∃ v : Nat → Value, a' = ⟨(frm v).toArray, []⟩ ∧ ∃ i : Nat, gk = m - i ∧ i ≤ m ∧ Com n A m cap b rb sx dx i v ∧ ∃ (P G D0 D1 : Option Addr) (r : Rg) (M : List Int) (nx hd : Nat) (ps gs : Option Stp), hd ≤ i ∧ TM w b g h rb lb sx dx n P G D0 D1 r M nx hd ps gs wr) m ?_ ?_
  · refine frm_meet (by kernel_rfl) ?_
    exact ⟨0, rfl, Nat.zero_le _, ⟨rfl, rfl, rfl, rfl, rfl, rfl, rfl, rfl⟩, _, _, _, _, _, _, 0, 0, _, _, Nat.le_refl _, tm⟩
  · clear tm
    intro gk a' wr hrel _ _ _ _
    obtain ⟨v, rfl, i, hgk, him, cm, P, G, D0, D1, r, M, nx, hd, ps, gs, hhi, tm⟩ := hrel
    by_cases hlt : i < m ∧ i < 300
    · obtain ⟨hlt, hlt300⟩ := hlt
      obtain ⟨ab, ao, rfl, hab, hcl⟩ := rd.cel (by omega)
      obtain ⟨⟨wh, sec, va⟩, hx⟩ : ∃ x, l[i]? = some x := ⟨_, List.getElem?_eq_getElem (by rw [rd.len]; exact hlt)⟩
      have hva : inr .u64 va := hv _ (List.mem_of_getElem? hx)
      have c0 := tm.bel.cell (p := ⟨ab, ao + i * 3, none⟩) hab |>.trans (hcl i _ hx 0 _ rfl)
      have c1 := tm.bel.cell (p := ⟨ab, ao + i * 3 + 1, none⟩) hab |>.trans (hcl i _ hx 1 _ rfl)
      have c2 := tm.bel.cell (p := ⟨ab, ao + i * 3 + 2, none⟩) hab |>.trans (hcl i _ hx 2 _ rfl)
      simp only at c0 c1 c2
      have hdm : decide (i < m) = true := by simpa using hlt
      have hdm2 : decide ((i : Int) < 300) = true := by simp; omega
      have ba := Blk.new wr 32 #[.int .i64 wh, .bool sec, .int .u64 va]
      replace tm := tm.bel' (bel_alloc wr (.cells #[.int .i64 wh, .bool sec, .int .u64 va] 32))
      replace hgk := Lib.hid hgk
      clear hx
      have hfr := frm_lit v
      rw [cm.v0, cm.v1, cm.v7, cm.v8, cm.v9, cm.v10, cm.v11, cm.v12] at hfr
      rw [hfr]
      clear hfr cm
      go_upto_region 15 with fail
      clear c0 c1 c2 hcl
      generalize wr.alloc (.cells #[.int .i64 wh, .bool sec, .int .u64 va] 32) = W1 at *
      generalize wr.heap.size = bx at *
      have a1 := ba.cell 1
      go_upto_if 106 with fail
      refine wp_cut (fun a' wx => ∃ v : Nat → Value, a' = ⟨(frm v).toArray, []⟩ ∧ Com n (some ⟨ab, ao, none⟩) m cap b rb sx dx i v ∧ v 13 = .pointer (some ⟨bx, 0, none⟩) ∧ v 14 = .int .i64 (kd sec) ∧ W1 = wx) ?_ ?_
      rotate_left
      · intro _ _ _ _
        cases sec
        all_goals
          go_wp2_with fail
          refine Met.intro ?_
          go_step
          refine frm_meet (by kernel_rfl) ?_
          exact ⟨⟨rfl, rfl, rfl, rfl, rfl, rfl, rfl, rfl⟩, rfl, rfl, rfl⟩
      · intro a' wx hcut
        obtain ⟨v, rfl, cm, hv13, hv14, rfl⟩ := hcut
        have hfr := frm_lit v
        rw [cm.v0, cm.v1, cm.v7, cm.v8, cm.v9, cm.v10, cm.v11, cm.v12, hv13, hv14] at hfr
        rw [hfr]
        clear hfr cm
        clear hv13 hv14 a1
        have a0 := ba.cell 0
        obtain ⟨q, hq, hq6⟩ := modn wh 6 (by omega)
        go_upto_block 2 with fail
        clear a0 hq
        refine wp_cut (fun a' wx => ∃ v : Nat → Value, a' = ⟨(frm v).toArray, []⟩ ∧ Com n (some ⟨ab, ao, none⟩) m cap b rb sx dx i v ∧ ∃ (P G D0 D1 : Option Addr) (r : Rg) (M : List Int) (nx hd : Nat) (ps gs : Option Stp), hd ≤ i + 1 ∧ TM w b g h rb lb sx dx n P G D0 D1 r M nx hd ps gs wx) ?_ ?_
        rotate_left
        · intro _ _ _ _
          have h3 : q = 0 ∨ q = 1 ∨ 2 ≤ q := by omega
          rcases h3 with rfl | rfl | hq2
          · go_upto_region 21 with fail
            rcases tm.sp with ⟨rfl, rfl, rfl⟩ | ⟨pb, qb, s, rfl, rfl, rfl, st, fs⟩
            · have hl : live none = none := rfl
              have z : ∀ t : Tw (fun W' => Blk W' bx 32 #[.int .i64 wh, .bool sec, .int .u64 va]), t.w.cell? ⟨bx, 2, none⟩ = some (.int .u64 va) := fun t => t.h.cell 2
              have : Nonempty (Tw (fun W' => Blk W' bx 32 #[.int .i64 wh, .bool sec, .int .u64 va])) := ⟨⟨_, ba⟩⟩
              refine wp_region_plan (fun W' => Blk W' bx 32 #[.int .i64 wh, .bool sec, .int .u64 va]) [(0, true), (1, true), (2, true), (4, true), (5, true), (6, true), (3, false), (7, false), (8, true), (9, true)] (by kernel_rfl) (by kernel_rfl) (by kernel_rfl) (by kernel_rfl) ba.drew ?_
              replace ba := ba.drew
              replace tm := tm.drew
              have hP : PtrDone W1.drew none := .inl rfl
              have hD : (none : Option Addr) = none ∨ ∃ qb s, (none : Option Addr) = some ⟨qb, 0, none⟩ ∧ FStpAt W1.drew qb s ∧ s.done = true := .inl rfl
              generalize W1.drew = W3 at *
              refine wpPl_qs 6 _ _ _ (by kernel_rfl) (by kernel_rfl) (by simp) ?_
              unfold clsS
              simp only [List.take_succ_cons, List.take_zero, List.drop_succ_cons, List.drop_zero, List.filterMap_cons, List.filterMap_nil, List.getElem?_toArray, List.getElem?_cons_zero, List.getElem?_cons_succ]
              repeat (first
                | go_big_quiet_skip
                | (go_big_quiet_want; go_big_quiet_op; go_big_quiet_on)
                | (refine id (?_ : wpQuiet _ _ _ _ (_ :: _) _); first | go_big_quiet_skip | (go_big_quiet_want; go_big_quiet_op; go_big_quiet_on)))
              refine wpQuiet_nil ?_
              refine wpPl_e _ (by rfl) (by kernel_rfl) (fun K hK => ?_)
              go_simp
              refine (Put_yes va b g h none G r W3 tm.rg hP).mono ?_
              rintro e W4 ⟨nb, rfl, hnb, rg4, st4, up4⟩
              have ba4 := ba.upd up4 (ba.ne_ tm.rg.obj (by decide))
              refine hK _ _ ba4 ?_
              clear hK K
              have rf4 := tm.rf.upd up4 (tm.rf.obj.ne_ tm.rg.obj (by decide)) (tm.rf.row.ne_ tm.rg.obj (by decide))
              have hD4 := fD up4 tm.rg hD
              refine wpPl_e _ (by rfl) (by kernel_rfl) (fun K hK => ?_)
              go_simp
              refine (rBegin_yes0 va rb lb none D1 r M W4 rf4 hD4).mono ?_
              rintro e W5 ⟨nq, rfl, hnq, rf5, fs5, up5⟩
              have ba5 := ba4.upd up5 (ba4.ne_ rf4.obj (by decide))
              refine hK _ _ ba5 ?_
              clear hK K z this ba4 ba5 hD4
              refine wpPl_qs 2 _ _ _ (by kernel_rfl) (by kernel_rfl) (by simp) ?_
              unfold clsS
              simp only [List.take_succ_cons, List.take_zero, List.drop_succ_cons, List.drop_zero, List.filterMap_cons, List.filterMap_nil, List.getElem?_toArray, List.getElem?_cons_zero, List.getElem?_cons_succ]
              repeat (first
                | go_big_quiet_skip
                | (go_big_quiet_want; go_big_quiet_op; go_big_quiet_on)
                | (refine id (?_ : wpQuiet _ _ _ _ (_ :: _) _); first | go_big_quiet_skip | (go_big_quiet_want; go_big_quiet_op; go_big_quiet_on)))
              refine wpQuiet_nil ?_
              unfold wpPl
              refine NoPanic.normal ?_
              obtain ⟨bs5, bd5, _⟩ := tm.boxes up4 up5
              have tm5 := tm.put hl va hva hnb rg4 st4 up4 hnq rf5 fs5 up5
              have hsd : sx ≠ dx := bs5.ne_ bd5 (by decide)
              have us := Upd.one W5 sx 0 (.pointer (some ⟨nb, 0, none⟩))
              have bd6 := bd5.upd us (Ne.symm hsd)
              have s0 := bs5.cell 0
              have s1 := bs5.frozen 0
              have d0 := bd6.cell 0
              have d1 := bd6.frozen 0
              clear tm bs5 bd5 us bd6 rg4 st4 up4 rf4 rf5 fs5 up5 ba hl hP hD
              go_wp2_with fail
              refine Met.intro ?_
              go_step
              refine frm_meet (by kernel_rfl) ?_
              exact ⟨⟨rfl, rfl, rfl, rfl, rfl, rfl, rfl, rfl⟩, _, _, _, _, _, _, _, _, _, _, by omega, tm5⟩
            · cases hdn : s.done with
              | true =>
                have hl : live (some s) = none := live_done hdn
                have z : ∀ t : Tw (fun W' => Blk W' bx 32 #[.int .i64 wh, .bool sec, .int .u64 va]), t.w.cell? ⟨bx, 2, none⟩ = some (.int .u64 va) := fun t => t.h.cell 2
                have : Nonempty (Tw (fun W' => Blk W' bx 32 #[.int .i64 wh, .bool sec, .int .u64 va])) := ⟨⟨_, ba⟩⟩
                refine wp_region_plan (fun W' => Blk W' bx 32 #[.int .i64 wh, .bool sec, .int .u64 va]) [(0, true), (1, true), (2, true), (4, true), (5, true), (6, true), (3, false), (7, false), (8, true), (9, true)] (by kernel_rfl) (by kernel_rfl) (by kernel_rfl) (by kernel_rfl) ba.drew ?_
                replace ba := ba.drew
                replace tm := tm.drew
                have hP : PtrDone W1.drew (some ⟨pb, 0, none⟩) := .inr ⟨pb, s, rfl, st, hdn⟩
                have hD : (some ⟨qb, 0, none⟩ : Option Addr) = none ∨ ∃ qb' s, (some ⟨qb, 0, none⟩ : Option Addr) = some ⟨qb', 0, none⟩ ∧ FStpAt W1.drew qb' s ∧ s.done = true := .inr ⟨qb, s, rfl, fs, hdn⟩
                replace hdn := Lib.hid hdn
                clear st fs
                generalize W1.drew = W3 at *
                refine wpPl_qs 6 _ _ _ (by kernel_rfl) (by kernel_rfl) (by simp) ?_
                unfold clsS
                simp only [List.take_succ_cons, List.take_zero, List.drop_succ_cons, List.drop_zero, List.filterMap_cons, List.filterMap_nil, List.getElem?_toArray, List.getElem?_cons_zero, List.getElem?_cons_succ]
                repeat (first
                  | go_big_quiet_skip
                  | (go_big_quiet_want; go_big_quiet_op; go_big_quiet_on)
                  | (refine id (?_ : wpQuiet _ _ _ _ (_ :: _) _); first | go_big_quiet_skip | (go_big_quiet_want; go_big_quiet_op; go_big_quiet_on)))
                refine wpQuiet_nil ?_
                refine wpPl_e _ (by rfl) (by kernel_rfl) (fun K hK => ?_)
                go_simp
                refine (Put_yes va b g h _ G r W3 tm.rg hP).mono ?_
                rintro e W4 ⟨nb, rfl, hnb, rg4, st4, up4⟩
                have ba4 := ba.upd up4 (ba.ne_ tm.rg.obj (by decide))
                refine hK _ _ ba4 ?_
                clear hK K
                have rf4 := tm.rf.upd up4 (tm.rf.obj.ne_ tm.rg.obj (by decide)) (tm.rf.row.ne_ tm.rg.obj (by decide))
                have hD4 := fD up4 tm.rg hD
                refine wpPl_e _ (by rfl) (by kernel_rfl) (fun K hK => ?_)
                go_simp
                refine (rBegin_yes0 va rb lb _ D1 r M W4 rf4 hD4).mono ?_
                rintro e W5 ⟨nq, rfl, hnq, rf5, fs5, up5⟩
                have ba5 := ba4.upd up5 (ba4.ne_ rf4.obj (by decide))
                refine hK _ _ ba5 ?_
                clear hK K z this ba4 ba5 hD4
                refine wpPl_qs 2 _ _ _ (by kernel_rfl) (by kernel_rfl) (by simp) ?_
                unfold clsS
                simp only [List.take_succ_cons, List.take_zero, List.drop_succ_cons, List.drop_zero, List.filterMap_cons, List.filterMap_nil, List.getElem?_toArray, List.getElem?_cons_zero, List.getElem?_cons_succ]
                repeat (first
                  | go_big_quiet_skip
                  | (go_big_quiet_want; go_big_quiet_op; go_big_quiet_on)
                  | (refine id (?_ : wpQuiet _ _ _ _ (_ :: _) _); first | go_big_quiet_skip | (go_big_quiet_want; go_big_quiet_op; go_big_quiet_on)))
                refine wpQuiet_nil ?_
                unfold wpPl
                refine NoPanic.normal ?_
                obtain ⟨bs5, bd5, _⟩ := tm.boxes up4 up5
                have tm5 := tm.put hl va hva hnb rg4 st4 up4 hnq rf5 fs5 up5
                have hsd : sx ≠ dx := bs5.ne_ bd5 (by decide)
                have us := Upd.one W5 sx 0 (.pointer (some ⟨nb, 0, none⟩))
                have bd6 := bd5.upd us (Ne.symm hsd)
                have s0 := bs5.cell 0
                have s1 := bs5.frozen 0
                have d0 := bd6.cell 0
                have d1 := bd6.frozen 0
                clear tm bs5 bd5 us bd6 rg4 st4 up4 rf4 rf5 fs5 up5 ba hl hP hD
                go_wp2_with fail
                refine Met.intro ?_
                go_step
                refine frm_meet (by kernel_rfl) ?_
                exact ⟨⟨rfl, rfl, rfl, rfl, rfl, rfl, rfl, rfl⟩, _, _, _, _, _, _, _, _, _, _, by omega, tm5⟩
              | false =>
                have z : ∀ t : Tw (fun W' => Blk W' bx 32 #[.int .i64 wh, .bool sec, .int .u64 va]), t.w.cell? ⟨bx, 2, none⟩ = some (.int .u64 va) := fun t => t.h.cell 2
                have : Nonempty (Tw (fun W' => Blk W' bx 32 #[.int .i64 wh, .bool sec, .int .u64 va])) := ⟨⟨_, ba⟩⟩
                refine wp_region_plan (fun W' => Blk W' bx 32 #[.int .i64 wh, .bool sec, .int .u64 va]) [(0, true), (1, true), (2, true), (4, true), (5, true), (6, true), (3, false), (7, false), (8, true), (9, true)] (by kernel_rfl) (by kernel_rfl) (by kernel_rfl) (by kernel_rfl) ba.drew ?_
                replace ba := ba.drew
                replace tm := tm.drew
                replace st : StpAt W1.drew pb s := st
                replace fs : FStpAt W1.drew qb s := fs
                generalize W1.drew = W3 at *
                refine wpPl_qs 6 _ _ _ (by kernel_rfl) (by kernel_rfl) (by simp) ?_
                unfold clsS
                simp only [List.take_succ_cons, List.take_zero, List.drop_succ_cons, List.drop_zero, List.filterMap_cons, List.filterMap_nil, List.getElem?_toArray, List.getElem?_cons_zero, List.getElem?_cons_succ]
                repeat (first
                  | go_big_quiet_skip
                  | (go_big_quiet_want; go_big_quiet_op; go_big_quiet_on)
                  | (refine id (?_ : wpQuiet _ _ _ _ (_ :: _) _); first | go_big_quiet_skip | (go_big_quiet_want; go_big_quiet_op; go_big_quiet_on)))
                refine wpQuiet_nil ?_
                refine wpPl_e _ (by rfl) (by kernel_rfl) (fun K hK => ?_)
                go_simp
                refine (Put_no va b g h pb G r s W3 tm.rg st hdn).mono ?_
                rintro e W4 ⟨rfl, rfl⟩
                refine hK _ _ ba ?_
                clear hK K
                refine wpPl_e _ (by rfl) (by kernel_rfl) (fun K hK => ?_)
                go_simp
                refine (rBegin_no0 va rb lb qb _ D1 r M s W3 tm.rf rfl fs hdn).mono ?_
                rintro e W4 ⟨rfl, rfl⟩
                refine hK _ _ ba ?_
                clear hK K z this
                refine wpPl_qs 2 _ _ _ (by kernel_rfl) (by kernel_rfl) (by simp) ?_
                unfold clsS
                simp only [List.take_succ_cons, List.take_zero, List.drop_succ_cons, List.drop_zero, List.filterMap_cons, List.filterMap_nil, List.getElem?_toArray, List.getElem?_cons_zero, List.getElem?_cons_succ]
                repeat (first
                  | go_big_quiet_skip
                  | (go_big_quiet_want; go_big_quiet_op; go_big_quiet_on)
                  | (refine id (?_ : wpQuiet _ _ _ _ (_ :: _) _); first | go_big_quiet_skip | (go_big_quiet_want; go_big_quiet_op; go_big_quiet_on)))
                refine wpQuiet_nil ?_
                unfold wpPl
                refine NoPanic.normal ?_
                clear st fs ba hdn
                go_wp2_with fail
                refine Met.intro ?_
                go_step
                refine frm_meet (by kernel_rfl) ?_
                exact ⟨⟨rfl, rfl, rfl, rfl, rfl, rfl, rfl, rfl⟩, _, _, _, _, _, _, _, _, _, _, by omega, tm⟩
          · go_wp2_with fail
            rcases tm.sg with ⟨rfl, rfl, rfl⟩ | ⟨pb, qb, s, rfl, rfl, rfl, st, fs⟩
            · have hl : live none = none := rfl
              have hP : PtrDone W1 none := .inl rfl
              have hD : (none : Option Addr) = none ∨ ∃ qb s, (none : Option Addr) = some ⟨qb, 0, none⟩ ∧ FStpAt W1 qb s ∧ s.done = true := .inl rfl
              refine (Get_yes b g h P none r W1 tm.rg hP).mono ?_
              rintro e W4 ⟨nb, rfl, hnb, rg4, st4, up4⟩
              have rf4 := tm.rf.upd up4 (tm.rf.obj.ne_ tm.rg.obj (by decide)) (tm.rf.row.ne_ tm.rg.obj (by decide))
              have hD4 := Lib.hid (fD up4 tm.rg hD)
              go_wp2_with fail
              refine (rBegin_yes1 0 rb lb D0 none r M W4 rf4 (.inl rfl)).mono ?_
              rintro e W5 ⟨nq, rfl, hnq, rf5, fs5, up5⟩
              clear hD4
              obtain ⟨bs5, bd5, _⟩ := tm.boxes up4 up5
              have tm5 := tm.get hl hnb rg4 st4 up4 hnq rf5 fs5 up5
              have hsd : sx ≠ dx := bs5.ne_ bd5 (by decide)
              have us := Upd.one W5 sx 1 (.pointer (some ⟨nb, 0, none⟩))
              have bd6 := bd5.upd us (Ne.symm hsd)
              have s0 := bs5.cell 1
              have s1 := bs5.frozen 1
              have d0 := bd6.cell 1
              have d1 := bd6.frozen 1
              clear tm bs5 bd5 us bd6 rg4 st4 up4 rf4 rf5 fs5 up5 ba hl hP hD
              go_wp2_with fail
              refine Met.intro ?_
              go_step
              refine frm_meet (by kernel_rfl) ?_
              exact ⟨⟨rfl, rfl, rfl, rfl, rfl, rfl, rfl, rfl⟩, _, _, _, _, _, _, _, _, _, _, by omega, tm5⟩
            · cases hdn : s.done with
              | true =>
                have hl : live (some s) = none := live_done hdn
                have hP : PtrDone W1 (some ⟨pb, 0, none⟩) := .inr ⟨pb, s, rfl, st, hdn⟩
                have hD : (some ⟨qb, 0, none⟩ : Option Addr) = none ∨ ∃ qb' s, (some ⟨qb, 0, none⟩ : Option Addr) = some ⟨qb', 0, none⟩ ∧ FStpAt W1 qb' s ∧ s.done = true := .inr ⟨qb, s, rfl, fs, hdn⟩
                replace hdn := Lib.hid hdn
                clear st fs
                refine (Get_yes b g h P _ r W1 tm.rg hP).mono ?_
                rintro e W4 ⟨nb, rfl, hnb, rg4, st4, up4⟩
                have rf4 := tm.rf.upd up4 (tm.rf.obj.ne_ tm.rg.obj (by decide)) (tm.rf.row.ne_ tm.rg.obj (by decide))
                have hD4 := Lib.hid (fD up4 tm.rg hD)
                go_wp2_with fail
                refine (rBegin_yes1 0 rb lb D0 _ r M W4 rf4 hD4.out).mono ?_
                rintro e W5 ⟨nq, rfl, hnq, rf5, fs5, up5⟩
                clear hD4
                obtain ⟨bs5, bd5, _⟩ := tm.boxes up4 up5
                have tm5 := tm.get hl hnb rg4 st4 up4 hnq rf5 fs5 up5
                have hsd : sx ≠ dx := bs5.ne_ bd5 (by decide)
                have us := Upd.one W5 sx 1 (.pointer (some ⟨nb, 0, none⟩))
                have bd6 := bd5.upd us (Ne.symm hsd)
                have s0 := bs5.cell 1
                have s1 := bs5.frozen 1
                have d0 := bd6.cell 1
                have d1 := bd6.frozen 1
                clear tm bs5 bd5 us bd6 rg4 st4 up4 rf4 rf5 fs5 up5 ba hl hP hD
                go_wp2_with fail
                refine Met.intro ?_
                go_step
                refine frm_meet (by kernel_rfl) ?_
                exact ⟨⟨rfl, rfl, rfl, rfl, rfl, rfl, rfl, rfl⟩, _, _, _, _, _, _, _, _, _, _, by omega, tm5⟩
              | false =>
                refine (Get_no b g h pb P r s W1 tm.rg st hdn).mono ?_
                rintro e W4 ⟨rfl, rfl⟩
                go_wp2_with fail
                refine (rBegin_no1 0 rb lb qb D0 _ r M s W1 tm.rf rfl fs hdn).mono ?_
                rintro e W4 ⟨rfl, rfl⟩
                clear st fs ba hdn
                go_wp2_with fail
                refine Met.intro ?_
                go_step
                refine frm_meet (by kernel_rfl) ?_
                exact ⟨⟨rfl, rfl, rfl, rfl, rfl, rfl, rfl, rfl⟩, _, _, _, _, _, _, _, _, _, _, by omega, tm⟩
          · have hq0 : ((q : Int) == 0) = false := by simp; omega
            have hq1 : ((q : Int) == 1) = false := by simp; omega
            cases sec with
            | false =>
              rw [show kd false = 0 from rfl]
              go_upto_region 18 with fail
              rcases tm.sp with ⟨rfl, rfl, rfl⟩ | ⟨pb, qb, s, rfl, rfl, rfl, st, fs⟩
              · have z1 : ∀ t : Tw (SX sx dx 0 none none), t.w.cell? ⟨sx, 0, none⟩ = some (.pointer none) := fun t => t.h.s
                have z2 : ∀ t : Tw (SX sx dx 0 none none), t.w.cell? ⟨dx, 0, none⟩ = some (.pointer none) := fun t => t.h.d
                have hS : SX sx dx 0 none none W1.drew := ⟨tm.drew.bs.cell 0, tm.drew.bd.cell 0⟩
                have : Nonempty (Tw (SX sx dx 0 none none)) := ⟨⟨_, hS⟩⟩
                refine wp_region_plan (SX sx dx 0 none none) [(0, true), (1, true), (2, true), (3, true), (5, true), (6, true), (7, true), (8, true), (4, false), (9, false), (10, true)] (by kernel_rfl) (by kernel_rfl) (by kernel_rfl) (by kernel_rfl) hS ?_
                replace tm := tm.drew
                clear ba
                generalize W1.drew = W3 at *
                refine wpPl_qs 8 _ _ _ (by kernel_rfl) (by kernel_rfl) (by simp) ?_
                unfold clsS
                simp only [List.take_succ_cons, List.take_zero, List.drop_succ_cons, List.drop_zero, List.filterMap_cons, List.filterMap_nil, List.getElem?_toArray, List.getElem?_cons_zero, List.getElem?_cons_succ]
                repeat (first
                  | go_big_quiet_skip
                  | (go_big_quiet_want; go_big_quiet_op; go_big_quiet_on)
                  | (refine id (?_ : wpQuiet _ _ _ _ (_ :: _) _); first | go_big_quiet_skip | (go_big_quiet_want; go_big_quiet_op; go_big_quiet_on)))
                refine wpQuiet_nil ?_
                refine wpPl_e _ (by rfl) (by kernel_rfl) (fun K hK => ?_)
                go_simp
                refine (Do_nils b W3).mono ?_
                rintro e W4 ⟨rfl, rfl⟩
                refine hK _ _ hS ?_
                clear hK K
                refine wpPl_e _ (by rfl) (by kernel_rfl) (fun K hK => ?_)
                go_simp
                refine (rDo_nil rb W3).mono ?_
                rintro e W4 ⟨rfl, rfl⟩
                refine hK _ _ hS ?_
                clear hK K z1 z2 hS
                refine wpPl_qs 1 _ _ _ (by kernel_rfl) (by kernel_rfl) (by simp) ?_
                unfold clsS
                simp only [List.take_succ_cons, List.take_zero, List.drop_succ_cons, List.drop_zero, List.filterMap_cons, List.filterMap_nil, List.getElem?_toArray, List.getElem?_cons_zero, List.getElem?_cons_succ]
                repeat (first
                  | go_big_quiet_skip
                  | (go_big_quiet_want; go_big_quiet_op; go_big_quiet_on)
                  | (refine id (?_ : wpQuiet _ _ _ _ (_ :: _) _); first | go_big_quiet_skip | (go_big_quiet_want; go_big_quiet_op; go_big_quiet_on)))
                refine wpQuiet_nil ?_
                clear this
                unfold wpPl
                refine NoPanic.normal ?_
                go_wp2_with fail
                refine Met.intro ?_
                go_step
                refine frm_meet (by kernel_rfl) ?_
                exact ⟨⟨rfl, rfl, rfl, rfl, rfl, rfl, rfl, rfl⟩, _, _, _, _, _, _, _, _, _, _, by omega, tm⟩
              · cases hdn : s.done with
                | true =>
                  have z1 : ∀ t : Tw (SX sx dx 0 (some ⟨pb, 0, none⟩) (some ⟨qb, 0, none⟩)), t.w.cell? ⟨sx, 0, none⟩ = some (.pointer (some ⟨pb, 0, none⟩)) := fun t => t.h.s
                  have z2 : ∀ t : Tw (SX sx dx 0 (some ⟨pb, 0, none⟩) (some ⟨qb, 0, none⟩)), t.w.cell? ⟨dx, 0, none⟩ = some (.pointer (some ⟨qb, 0, none⟩)) := fun t => t.h.d
                  have hS : SX sx dx 0 (some ⟨pb, 0, none⟩) (some ⟨qb, 0, none⟩) W1.drew := ⟨tm.drew.bs.cell 0, tm.drew.bd.cell 0⟩
                  have : Nonempty (Tw (SX sx dx 0 (some ⟨pb, 0, none⟩) (some ⟨qb, 0, none⟩))) := ⟨⟨_, hS⟩⟩
                  refine wp_region_plan (SX sx dx 0 (some ⟨pb, 0, none⟩) (some ⟨qb, 0, none⟩)) [(0, true), (1, true), (2, true), (3, true), (5, true), (6, true), (7, true), (8, true), (4, false), (9, false), (10, true)] (by kernel_rfl) (by kernel_rfl) (by kernel_rfl) (by kernel_rfl) hS ?_
                  replace tm := tm.drew
                  clear ba
                  replace st : StpAt W1.drew pb s := st
                  replace fs : FStpAt W1.drew qb s := fs
                  generalize W1.drew = W3 at *
                  refine wpPl_qs 8 _ _ _ (by kernel_rfl) (by kernel_rfl) (by simp) ?_
                  unfold clsS
                  simp only [List.take_succ_cons, List.take_zero, List.drop_succ_cons, List.drop_zero, List.filterMap_cons, List.filterMap_nil, List.getElem?_toArray, List.getElem?_cons_zero, List.getElem?_cons_succ]
                  repeat (first
                    | go_big_quiet_skip
                    | (go_big_quiet_want; go_big_quiet_op; go_big_quiet_on)
                    | (refine id (?_ : wpQuiet _ _ _ _ (_ :: _) _); first | go_big_quiet_skip | (go_big_quiet_want; go_big_quiet_op; go_big_quiet_on)))
                  refine wpQuiet_nil ?_
                  refine wpPl_e _ (by rfl) (by kernel_rfl) (fun K hK => ?_)
                  go_simp
                  refine (Do_done b pb s W3 st hdn).mono ?_
                  rintro e W4 ⟨rfl, rfl⟩
                  refine hK _ _ hS ?_
                  clear hK K
                  refine wpPl_e _ (by rfl) (by kernel_rfl) (fun K hK => ?_)
                  go_simp
                  refine (rDo_done rb qb s W3 fs hdn).mono ?_
                  rintro e W4 ⟨rfl, rfl⟩
                  refine hK _ _ hS ?_
                  clear hK K z1 z2 hS
                  refine wpPl_qs 1 _ _ _ (by kernel_rfl) (by kernel_rfl) (by simp) ?_
                  unfold clsS
                  simp only [List.take_succ_cons, List.take_zero, List.drop_succ_cons, List.drop_zero, List.filterMap_cons, List.filterMap_nil, List.getElem?_toArray, List.getElem?_cons_zero, List.getElem?_cons_succ]
                  repeat (first
                    | go_big_quiet_skip
                    | (go_big_quiet_want; go_big_quiet_op; go_big_quiet_on)
                    | (refine id (?_ : wpQuiet _ _ _ _ (_ :: _) _); first | go_big_quiet_skip | (go_big_quiet_want; go_big_quiet_op; go_big_quiet_on)))
                  refine wpQuiet_nil ?_
                  clear this
                  unfold wpPl
                  refine NoPanic.normal ?_
                  clear st fs hdn
                  go_wp2_with fail
                  refine Met.intro ?_
                  go_step
                  refine frm_meet (by kernel_rfl) ?_
                  exact ⟨⟨rfl, rfl, rfl, rfl, rfl, rfl, rfl, rfl⟩, _, _, _, _, _, _, _, _, _, _, by omega, tm⟩
                | false =>
                  have z1 : ∀ t : Tw (SX sx dx 0 (some ⟨pb, 0, none⟩) (some ⟨qb, 0, none⟩)), t.w.cell? ⟨sx, 0, none⟩ = some (.pointer (some ⟨pb, 0, none⟩)) := fun t => t.h.s
                  have z2 : ∀ t : Tw (SX sx dx 0 (some ⟨pb, 0, none⟩) (some ⟨qb, 0, none⟩)), t.w.cell? ⟨dx, 0, none⟩ = some (.pointer (some ⟨qb, 0, none⟩)) := fun t => t.h.d
                  have hS : SX sx dx 0 (some ⟨pb, 0, none⟩) (some ⟨qb, 0, none⟩) W1.drew := ⟨tm.drew.bs.cell 0, tm.drew.bd.cell 0⟩
                  have : Nonempty (Tw (SX sx dx 0 (some ⟨pb, 0, none⟩) (some ⟨qb, 0, none⟩))) := ⟨⟨_, hS⟩⟩
                  refine wp_region_plan (SX sx dx 0 (some ⟨pb, 0, none⟩) (some ⟨qb, 0, none⟩)) [(0, true), (1, true), (2, true), (3, true), (5, true), (6, true), (7, true), (8, true), (4, false), (9, false), (10, true)] (by kernel_rfl) (by kernel_rfl) (by kernel_rfl) (by kernel_rfl) hS ?_
                  replace tm := tm.drew
                  clear ba
                  replace st : StpAt W1.drew pb s := st
                  replace fs : FStpAt W1.drew qb s := fs
                  generalize W1.drew = W3 at *
                  refine wpPl_qs 8 _ _ _ (by kernel_rfl) (by kernel_rfl) (by simp) ?_
                  unfold clsS
                  simp only [List.take_succ_cons, List.take_zero, List.drop_succ_cons, List.drop_zero, List.filterMap_cons, List.filterMap_nil, List.getElem?_toArray, List.getElem?_cons_zero, List.getElem?_cons_succ]
                  repeat (first
                    | go_big_quiet_skip
                    | (go_big_quiet_want; go_big_quiet_op; go_big_quiet_on)
                    | (refine id (?_ : wpQuiet _ _ _ _ (_ :: _) _); first | go_big_quiet_skip | (go_big_quiet_want; go_big_quiet_op; go_big_quiet_on)))
                  refine wpQuiet_nil ?_
                  obtain ⟨hvs, hfs⟩ := tm.ti.pf s rfl
                  obtain ⟨hf11, hpos⟩ := hfs hdn
                  obtain ⟨hd2, hhd2, ti2⟩ := tm.ti.doP hdn (by omega) (does_v tm.rg hvs)
                  have hA := Do_any b g h pb (some ⟨pb, 0, none⟩) G r s W3 tm.rg st hpos hvs hdn
                  have hR := fun W (rf : RfAt W rb lb (some ⟨qb, 0, none⟩) D1 r M) (fs : FStpAt W qb s) => rDo_any rb lb qb (some ⟨qb, 0, none⟩) D1 r M s W rf fs hpos hdn ⟨tm.rg.n1, tm.rg.n2⟩ tm.rg.hr tm.rg.gr hvs
                  obtain ⟨B, hB⟩ : ∃ B, B = (r.does s).2.done := ⟨_, rfl⟩
                  rw [← hB] at hA hR
                  clear hB
                  replace hA := Lib.hid hA
                  replace hR := Lib.hid hR
                  have hBB : (B != B) = false := by simp
                  refine wpPl_e _ (by rfl) (by kernel_rfl) (fun K hK => ?_)
                  go_simp
                  refine hA.out.mono ?_
                  rintro e W4 ⟨rfl, rs⟩
                  obtain ⟨rf4, fs4⟩ := tm.midP st fs rs
                  obtain ⟨bs4, bd4⟩ := tm.sx4 st rs.upd
                  refine hK _ _ ⟨bs4.cell 0, bd4.cell 0⟩ ?_
                  clear hK K
                  refine wpPl_e _ (by rfl) (by kernel_rfl) (fun K hK => ?_)
                  go_simp
                  refine (hR.out _ rf4 fs4).mono ?_
                  rintro e W5 ⟨rfl, M5, rf5⟩
                  obtain ⟨bs5, bd5⟩ := sx5 rf4 fs4 bs4 bd4 rf5.upd
                  refine hK _ _ ⟨bs5.cell 0, bd5.cell 0⟩ ?_
                  have tm5 := tm.doP st fs rs rf5 ti2
                  clear hK K z1 z2 hS hA hR bs4 bd4 bs5 bd5 rf4 fs4 rf5 rs tm st fs ti2
                  refine wpPl_qs 1 _ _ _ (by kernel_rfl) (by kernel_rfl) (by simp) ?_
                  unfold clsS
                  simp only [List.take_succ_cons, List.take_zero, List.drop_succ_cons, List.drop_zero, List.filterMap_cons, List.filterMap_nil, List.getElem?_toArray, List.getElem?_cons_zero, List.getElem?_cons_succ]
                  repeat (first
                    | go_big_quiet_skip
                    | (go_big_quiet_want; go_big_quiet_op; go_big_quiet_on)
                    | (refine id (?_ : wpQuiet _ _ _ _ (_ :: _) _); first | go_big_quiet_skip | (go_big_quiet_want; go_big_quiet_op; go_big_quiet_on)))
                  refine wpQuiet_nil ?_
                  clear this
                  unfold wpPl
                  refine NoPanic.normal ?_
                  replace hdn := Lib.hid hdn
                  replace hf11 := Lib.hid hf11
                  go_wp2_with fail
                  refine Met.intro ?_
                  go_step
                  refine frm_meet (by kernel_rfl) ?_
                  exact ⟨⟨rfl, rfl, rfl, rfl, rfl, rfl, rfl, rfl⟩, _, _, _, _, _, _, _, _, _, _, by omega, tm5⟩

            | true =>
              rw [show kd true = 1 from rfl]
              go_upto_region 18 with fail
              rcases tm.sg with ⟨rfl, rfl, rfl⟩ | ⟨pb, qb, s, rfl, rfl, rfl, st, fs⟩
              · have z1 : ∀ t : Tw (SX sx dx 1 none none), t.w.cell? ⟨sx, 1, none⟩ = some (.pointer none) := fun t => t.h.s
                have z2 : ∀ t : Tw (SX sx dx 1 none none), t.w.cell? ⟨dx, 1, none⟩ = some (.pointer none) := fun t => t.h.d
                have hS : SX sx dx 1 none none W1.drew := ⟨tm.drew.bs.cell 1, tm.drew.bd.cell 1⟩
                have : Nonempty (Tw (SX sx dx 1 none none)) := ⟨⟨_, hS⟩⟩
                refine wp_region_plan (SX sx dx 1 none none) [(0, true), (1, true), (2, true), (3, true), (5, true), (6, true), (7, true), (8, true), (4, false), (9, false), (10, true)] (by kernel_rfl) (by kernel_rfl) (by kernel_rfl) (by kernel_rfl) hS ?_
                replace tm := tm.drew
                clear ba
                generalize W1.drew = W3 at *
                refine wpPl_qs 8 _ _ _ (by kernel_rfl) (by kernel_rfl) (by simp) ?_
                unfold clsS
                simp only [List.take_succ_cons, List.take_zero, List.drop_succ_cons, List.drop_zero, List.filterMap_cons, List.filterMap_nil, List.getElem?_toArray, List.getElem?_cons_zero, List.getElem?_cons_succ]
                repeat (first
                  | go_big_quiet_skip
                  | (go_big_quiet_want; go_big_quiet_op; go_big_quiet_on)
                  | (refine id (?_ : wpQuiet _ _ _ _ (_ :: _) _); first | go_big_quiet_skip | (go_big_quiet_want; go_big_quiet_op; go_big_quiet_on)))
                refine wpQuiet_nil ?_
                refine wpPl_e _ (by rfl) (by kernel_rfl) (fun K hK => ?_)
                go_simp
                refine (Do_nils b W3).mono ?_
                rintro e W4 ⟨rfl, rfl⟩
                refine hK _ _ hS ?_
                clear hK K
                refine wpPl_e _ (by rfl) (by kernel_rfl) (fun K hK => ?_)
                go_simp
                refine (rDo_nil rb W3).mono ?_
                rintro e W4 ⟨rfl, rfl⟩
                refine hK _ _ hS ?_
                clear hK K z1 z2 hS
                refine wpPl_qs 1 _ _ _ (by kernel_rfl) (by kernel_rfl) (by simp) ?_
                unfold clsS
                simp only [List.take_succ_cons, List.take_zero, List.drop_succ_cons, List.drop_zero, List.filterMap_cons, List.filterMap_nil, List.getElem?_toArray, List.getElem?_cons_zero, List.getElem?_cons_succ]
                repeat (first
                  | go_big_quiet_skip
                  | (go_big_quiet_want; go_big_quiet_op; go_big_quiet_on)
                  | (refine id (?_ : wpQuiet _ _ _ _ (_ :: _) _); first | go_big_quiet_skip | (go_big_quiet_want; go_big_quiet_op; go_big_quiet_on)))
                refine wpQuiet_nil ?_
                clear this
                unfold wpPl
                refine NoPanic.normal ?_
                go_wp2_with fail
                refine Met.intro ?_
                go_step
                refine frm_meet (by kernel_rfl) ?_
                exact ⟨⟨rfl, rfl, rfl, rfl, rfl, rfl, rfl, rfl⟩, _, _, _, _, _, _, _, _, _, _, by omega, tm⟩
              · cases hdn : s.done with
                | true =>
                  have z1 : ∀ t : Tw (SX sx dx 1 (some ⟨pb, 0, none⟩) (some ⟨qb, 0, none⟩)), t.w.cell? ⟨sx, 1, none⟩ = some (.pointer (some ⟨pb, 0, none⟩)) := fun t => t.h.s
                  have z2 : ∀ t : Tw (SX sx dx 1 (some ⟨pb, 0, none⟩) (some ⟨qb, 0, none⟩)), t.w.cell? ⟨dx, 1, none⟩ = some (.pointer (some ⟨qb, 0, none⟩)) := fun t => t.h.d
                  have hS : SX sx dx 1 (some ⟨pb, 0, none⟩) (some ⟨qb, 0, none⟩) W1.drew := ⟨tm.drew.bs.cell 1, tm.drew.bd.cell 1⟩
                  have : Nonempty (Tw (SX sx dx 1 (some ⟨pb, 0, none⟩) (some ⟨qb, 0, none⟩))) := ⟨⟨_, hS⟩⟩
                  refine wp_region_plan (SX sx dx 1 (some ⟨pb, 0, none⟩) (some ⟨qb, 0, none⟩)) [(0, true), (1, true), (2, true), (3, true), (5, true), (6, true), (7, true), (8, true), (4, false), (9, false), (10, true)] (by kernel_rfl) (by kernel_rfl) (by kernel_rfl) (by kernel_rfl) hS ?_
                  replace tm := tm.drew
                  clear ba
                  replace st : StpAt W1.drew pb s := st
                  replace fs : FStpAt W1.drew qb s := fs
                  generalize W1.drew = W3 at *
                  refine wpPl_qs 8 _ _ _ (by kernel_rfl) (by kernel_rfl) (by simp) ?_
                  unfold clsS
                  simp only [List.take_succ_cons, List.take_zero, List.drop_succ_cons, List.drop_zero, List.filterMap_cons, List.filterMap_nil, List.getElem?_toArray, List.getElem?_cons_zero, List.getElem?_cons_succ]
                  repeat (first
                    | go_big_quiet_skip
                    | (go_big_quiet_want; go_big_quiet_op; go_big_quiet_on)
                    | (refine id (?_ : wpQuiet _ _ _ _ (_ :: _) _); first | go_big_quiet_skip | (go_big_quiet_want; go_big_quiet_op; go_big_quiet_on)))
                  refine wpQuiet_nil ?_
                  refine wpPl_e _ (by rfl) (by kernel_rfl) (fun K hK => ?_)
                  go_simp
                  refine (Do_done b pb s W3 st hdn).mono ?_
                  rintro e W4 ⟨rfl, rfl⟩
                  refine hK _ _ hS ?_
                  clear hK K
                  refine wpPl_e _ (by rfl) (by kernel_rfl) (fun K hK => ?_)
                  go_simp
                  refine (rDo_done rb qb s W3 fs hdn).mono ?_
                  rintro e W4 ⟨rfl, rfl⟩
                  refine hK _ _ hS ?_
                  clear hK K z1 z2 hS
                  refine wpPl_qs 1 _ _ _ (by kernel_rfl) (by kernel_rfl) (by simp) ?_
                  unfold clsS
                  simp only [List.take_succ_cons, List.take_zero, List.drop_succ_cons, List.drop_zero, List.filterMap_cons, List.filterMap_nil, List.getElem?_toArray, List.getElem?_cons_zero, List.getElem?_cons_succ]
                  repeat (first
                    | go_big_quiet_skip
                    | (go_big_quiet_want; go_big_quiet_op; go_big_quiet_on)
                    | (refine id (?_ : wpQuiet _ _ _ _ (_ :: _) _); first | go_big_quiet_skip | (go_big_quiet_want; go_big_quiet_op; go_big_quiet_on)))
                  refine wpQuiet_nil ?_
                  clear this
                  unfold wpPl
                  refine NoPanic.normal ?_
                  clear st fs hdn
                  go_wp2_with fail
                  refine Met.intro ?_
                  go_step
                  refine frm_meet (by kernel_rfl) ?_
                  exact ⟨⟨rfl, rfl, rfl, rfl, rfl, rfl, rfl, rfl⟩, _, _, _, _, _, _, _, _, _, _, by omega, tm⟩
                | false =>
                  have z1 : ∀ t : Tw (SX sx dx 1 (some ⟨pb, 0, none⟩) (some ⟨qb, 0, none⟩)), t.w.cell? ⟨sx, 1, none⟩ = some (.pointer (some ⟨pb, 0, none⟩)) := fun t => t.h.s
                  have z2 : ∀ t : Tw (SX sx dx 1 (some ⟨pb, 0, none⟩) (some ⟨qb, 0, none⟩)), t.w.cell? ⟨dx, 1, none⟩ = some (.pointer (some ⟨qb, 0, none⟩)) := fun t => t.h.d
                  have hS : SX sx dx 1 (some ⟨pb, 0, none⟩) (some ⟨qb, 0, none⟩) W1.drew := ⟨tm.drew.bs.cell 1, tm.drew.bd.cell 1⟩
                  have : Nonempty (Tw (SX sx dx 1 (some ⟨pb, 0, none⟩) (some ⟨qb, 0, none⟩))) := ⟨⟨_, hS⟩⟩
                  refine wp_region_plan (SX sx dx 1 (some ⟨pb, 0, none⟩) (some ⟨qb, 0, none⟩)) [(0, true), (1, true), (2, true), (3, true), (5, true), (6, true), (7, true), (8, true), (4, false), (9, false), (10, true)] (by kernel_rfl) (by kernel_rfl) (by kernel_rfl) (by kernel_rfl) hS ?_
                  replace tm := tm.drew
                  clear ba
                  replace st : StpAt W1.drew pb s := st
                  replace fs : FStpAt W1.drew qb s := fs
                  generalize W1.drew = W3 at *
                  refine wpPl_qs 8 _ _ _ (by kernel_rfl) (by kernel_rfl) (by simp) ?_
                  unfold clsS
                  simp only [List.take_succ_cons, List.take_zero, List.drop_succ_cons, List.drop_zero, List.filterMap_cons, List.filterMap_nil, List.getElem?_toArray, List.getElem?_cons_zero, List.getElem?_cons_succ]
                  repeat (first
                    | go_big_quiet_skip
                    | (go_big_quiet_want; go_big_quiet_op; go_big_quiet_on)
                    | (refine id (?_ : wpQuiet _ _ _ _ (_ :: _) _); first | go_big_quiet_skip | (go_big_quiet_want; go_big_quiet_op; go_big_quiet_on)))
                  refine wpQuiet_nil ?_
                  obtain ⟨hvs, hfs⟩ := tm.ti.gf s rfl
                  obtain ⟨hf11, hpos⟩ := hfs hdn
                  obtain ⟨nx2, ti2⟩ := tm.ti.doG hdn (does_v tm.rg hvs)
                  have hA := Do_any b g h pb P (some ⟨pb, 0, none⟩) r s W3 tm.rg st hpos hvs hdn
                  have hR := fun W (rf : RfAt W rb lb D0 (some ⟨qb, 0, none⟩) r M) (fs : FStpAt W qb s) => rDo_any rb lb qb D0 (some ⟨qb, 0, none⟩) r M s W rf fs hpos hdn ⟨tm.rg.n1, tm.rg.n2⟩ tm.rg.hr tm.rg.gr hvs
                  obtain ⟨B, hB⟩ : ∃ B, B = (r.does s).2.done := ⟨_, rfl⟩
                  rw [← hB] at hA hR
                  clear hB
                  replace hA := Lib.hid hA
                  replace hR := Lib.hid hR
                  have hBB : (B != B) = false := by simp
                  refine wpPl_e _ (by rfl) (by kernel_rfl) (fun K hK => ?_)
                  go_simp
                  refine hA.out.mono ?_
                  rintro e W4 ⟨rfl, rs⟩
                  obtain ⟨rf4, fs4⟩ := tm.midG st fs rs
                  obtain ⟨bs4, bd4⟩ := tm.sx4 st rs.upd
                  refine hK _ _ ⟨bs4.cell 1, bd4.cell 1⟩ ?_
                  clear hK K
                  refine wpPl_e _ (by rfl) (by kernel_rfl) (fun K hK => ?_)
                  go_simp
                  refine (hR.out _ rf4 fs4).mono ?_
                  rintro e W5 ⟨rfl, M5, rf5⟩
                  obtain ⟨bs5, bd5⟩ := sx5 rf4 fs4 bs4 bd4 rf5.upd
                  refine hK _ _ ⟨bs5.cell 1, bd5.cell 1⟩ ?_
                  have tm5 := tm.doG st fs rs rf5 ti2
                  clear hK K z1 z2 hS hA hR bs4 bd4 bs5 bd5 rf4 fs4 rf5 rs tm st fs ti2
                  refine wpPl_qs 1 _ _ _ (by kernel_rfl) (by kernel_rfl) (by simp) ?_
                  unfold clsS
                  simp only [List.take_succ_cons, List.take_zero, List.drop_succ_cons, List.drop_zero, List.filterMap_cons, List.filterMap_nil, List.getElem?_toArray, List.getElem?_cons_zero, List.getElem?_cons_succ]
                  repeat (first
                    | go_big_quiet_skip
                    | (go_big_quiet_want; go_big_quiet_op; go_big_quiet_on)
                    | (refine id (?_ : wpQuiet _ _ _ _ (_ :: _) _); first | go_big_quiet_skip | (go_big_quiet_want; go_big_quiet_op; go_big_quiet_on)))
                  refine wpQuiet_nil ?_
                  clear this
                  unfold wpPl
                  refine NoPanic.normal ?_
                  replace hdn := Lib.hid hdn
                  replace hf11 := Lib.hid hf11
                  go_wp2_with fail
                  refine Met.intro ?_
                  go_step
                  refine frm_meet (by kernel_rfl) ?_
                  exact ⟨⟨rfl, rfl, rfl, rfl, rfl, rfl, rfl, rfl⟩, _, _, _, _, _, _, _, _, _, _, by omega, tm5⟩
        · intro a' W2 hcut
          clear tm ba
          obtain ⟨v, rfl, cm, P, G, D0, D1, r, M, nx, hd, ps, gs, hhi, tm⟩ := hcut
          have hfr := frm_lit v
          rw [cm.v0, cm.v1, cm.v7, cm.v8, cm.v9, cm.v10, cm.v11, cm.v12] at hfr
          rw [hfr]
          clear hfr cm
          go_wp2_with fail
          go_loopg [19] 2 (fun gj s19 wq => ∃ j : Nat, gj = 2 - j ∧ j ≤ 2 ∧ s19 = .int .i64 j ∧ ∃ (P G D0 D1 : Option Addr) (r : Rg) (M : List Int) (nx hd : Nat) (ps gs : Option Stp), hd ≤ i + 1 ∧ TM w b g h rb lb sx dx n P G D0 D1 r M nx hd ps gs wq)
          case atStart => exact ⟨0, rfl, by omega, rfl, _, _, _, _, _, _, _, _, _, _, hhi, tm⟩
          case round =>
            clear tm hhi
            obtain ⟨j, hgj, hj2, rfl, P, G, D0, D1, r, M, nx, hd, ps, gs, hhi, tm⟩ := hrel
            have h3 : j = 0 ∨ j = 1 ∨ j = 2 := by omega
            rcases h3 with rfl | rfl | rfl
            · replace hgj := Lib.hid hgj
              rcases tm.sp with ⟨rfl, rfl, rfl⟩ | ⟨pb, qb, s, rfl, rfl, rfl, st, fs⟩
              · have z2 : ∀ t : Tw (fun W => Below wr.heap.size wr W), t.w.cell? ⟨dx, 0, none⟩ = some (.pointer none) := fun t => tm.bd.tw tm.bd.lt t 0
                have : Nonempty (Tw (fun W => Below wr.heap.size wr W)) := ⟨⟨wr, Below.refl _ _⟩⟩
                go_upto_region 35 with fail
                refine region_tw (fun w' => Below (wr).heap.size (wr) w') (by kernel_rfl) (by kernel_rfl) (Below.refl _ _).drew ?_
                unfold clsS
                repeat (first
                  | go_big_quiet_skip
                  | (go_big_quiet_want; go_big_quiet_op; first | go_big_quiet_on | go_big_quiet_call (
                    (first 
                                  | fail))))
                refine wpQuiet_nil ?_
                intro tq
                have tm3 := tm.bel' tq.h
                clear z2 tm this
                go_wp2_with fail
                go_roundg (2 - 1)
                case measure => have := hgj.out; omega
                case rel => exact ⟨1, rfl, by omega, rfl, _, _, _, _, _, _, _, _, _, _, hhi, tm3⟩
              · have hfin : s.done = false → s.fin ≠ 0 := fun hdn => by have := ((tm.ti.pf s rfl).2 hdn).1; omega
                have z1 : ∀ t : Tw (fun W => Below wr.heap.size wr W), t.w.cell? ⟨sx, 0, none⟩ = some (.pointer (some ⟨pb, 0, none⟩)) := fun t => tm.bs.tw tm.bs.lt t 0
                have z2 : ∀ t : Tw (fun W => Below wr.heap.size wr W), t.w.cell? ⟨dx, 0, none⟩ = some (.pointer (some ⟨qb, 0, none⟩)) := fun t => tm.bd.tw tm.bd.lt t 0
                have z3 : ∀ t : Tw (fun W => Below wr.heap.size wr W), t.w.cell? ⟨qb, 3, none⟩ = some (.int .i64 s.fin) := fun t => Blk.tw fs (Blk.lt fs) t 3
                have hE := fun W (hW : Below wr.heap.size wr W) => End_any pb s W (Blk.bel st hW)
                have hV := fun W (hW : Below wr.heap.size wr W) => Value_any pb s W (Blk.bel st hW)
                have hRV := fun W (hW : Below wr.heap.size wr W) => rValue_any qb s W (Blk.bel fs hW) hfin
                obtain ⟨F, hF⟩ : ∃ F, F = s.fin := ⟨_, rfl⟩
                obtain ⟨V, hV0⟩ : ∃ V, V = s.val := ⟨_, rfl⟩
                rw [← hF] at hE z3
                rw [← hV0] at hV hRV
                clear hF hV0 hfin
                replace hE := Lib.hid hE
                replace hV := Lib.hid hV
                replace hRV := Lib.hid hRV
                have : Nonempty (Tw (fun W => Below wr.heap.size wr W)) := ⟨⟨wr, Below.refl _ _⟩⟩
                go_upto_region 35 with fail
                refine region_tw (fun w' => Below (wr).heap.size (wr) w') (by kernel_rfl) (by kernel_rfl) (Below.refl _ _).drew ?_
                unfold clsS
                repeat (first
                  | go_big_quiet_skip
                  | (go_big_quiet_want; go_big_quiet_op; first | go_big_quiet_on | go_big_quiet_call (
                    (first 
                                  | (go_at_call 10; exact q_tw_same (hE.out _ (Tw.h _)))
                                  | (go_at_call 12; exact q_tw_same (hV.out _ (Tw.h _)))
                                  | (go_at_call 20; exact q_tw_same (hRV.out _ (Tw.h _)))))))
                refine wpQuiet_nil ?_
                intro tq
                have tm3 := tm.bel' tq.h
                clear z1 z2 z3 hE hV hRV tm st fs this
                go_wp2_with fail
                go_roundg (2 - 1)
                case measure => have := hgj.out; omega
                case rel => exact ⟨1, rfl, by omega, rfl, _, _, _, _, _, _, _, _, _, _, hhi, tm3⟩
            · replace hgj := Lib.hid hgj
              rcases tm.sg with ⟨rfl, rfl, rfl⟩ | ⟨pb, qb, s, rfl, rfl, rfl, st, fs⟩
              · have z2 : ∀ t : Tw (fun W => Below wr.heap.size wr W), t.w.cell? ⟨dx, 1, none⟩ = some (.pointer none) := fun t => tm.bd.tw tm.bd.lt t 1
                have : Nonempty (Tw (fun W => Below wr.heap.size wr W)) := ⟨⟨wr, Below.refl _ _⟩⟩
                go_upto_region 35 with fail
                refine region_tw (fun w' => Below (wr).heap.size (wr) w') (by kernel_rfl) (by kernel_rfl) (Below.refl _ _).drew ?_
                unfold clsS
                repeat (first
                  | go_big_quiet_skip
                  | (go_big_quiet_want; go_big_quiet_op; first | go_big_quiet_on | go_big_quiet_call (
                    (first 
                                  | fail))))
                refine wpQuiet_nil ?_
                intro tq
                have tm3 := tm.bel' tq.h
                clear z2 tm this
                go_wp2_with fail
                go_roundg (2 - 2)
                case measure => have := hgj.out; omega
                case rel => exact ⟨2, rfl, by omega, rfl, _, _, _, _, _, _, _, _, _, _, hhi, tm3⟩
              · have hfin : s.done = false → s.fin ≠ 0 := fun hdn => by have := ((tm.ti.gf s rfl).2 hdn).1; omega
                have z1 : ∀ t : Tw (fun W => Below wr.heap.size wr W), t.w.cell? ⟨sx, 1, none⟩ = some (.pointer (some ⟨pb, 0, none⟩)) := fun t => tm.bs.tw tm.bs.lt t 1
                have z2 : ∀ t : Tw (fun W => Below wr.heap.size wr W), t.w.cell? ⟨dx, 1, none⟩ = some (.pointer (some ⟨qb, 0, none⟩)) := fun t => tm.bd.tw tm.bd.lt t 1
                have z3 : ∀ t : Tw (fun W => Below wr.heap.size wr W), t.w.cell? ⟨qb, 3, none⟩ = some (.int .i64 s.fin) := fun t => Blk.tw fs (Blk.lt fs) t 3
                have hE := fun W (hW : Below wr.heap.size wr W) => End_any pb s W (Blk.bel st hW)
                have hV := fun W (hW : Below wr.heap.size wr W) => Value_any pb s W (Blk.bel st hW)
                have hRV := fun W (hW : Below wr.heap.size wr W) => rValue_any qb s W (Blk.bel fs hW) hfin
                obtain ⟨F, hF⟩ : ∃ F, F = s.fin := ⟨_, rfl⟩
                obtain ⟨V, hV0⟩ : ∃ V, V = s.val := ⟨_, rfl⟩
                rw [← hF] at hE z3
                rw [← hV0] at hV hRV
                clear hF hV0 hfin
                replace hE := Lib.hid hE
                replace hV := Lib.hid hV
                replace hRV := Lib.hid hRV
                have : Nonempty (Tw (fun W => Below wr.heap.size wr W)) := ⟨⟨wr, Below.refl _ _⟩⟩
                go_upto_region 35 with fail
                refine region_tw (fun w' => Below (wr).heap.size (wr) w') (by kernel_rfl) (by kernel_rfl) (Below.refl _ _).drew ?_
                unfold clsS
                repeat (first
                  | go_big_quiet_skip
                  | (go_big_quiet_want; go_big_quiet_op; first | go_big_quiet_on | go_big_quiet_call (
                    (first 
                                  | (go_at_call 10; exact q_tw_same (hE.out _ (Tw.h _)))
                                  | (go_at_call 12; exact q_tw_same (hV.out _ (Tw.h _)))
                                  | (go_at_call 20; exact q_tw_same (hRV.out _ (Tw.h _)))))))
                refine wpQuiet_nil ?_
                intro tq
                have tm3 := tm.bel' tq.h
                clear z1 z2 z3 hE hV hRV tm st fs this
                go_wp2_with fail
                go_roundg (2 - 2)
                case measure => have := hgj.out; omega
                case rel => exact ⟨2, rfl, by omega, rfl, _, _, _, _, _, _, _, _, _, _, hhi, tm3⟩
            · obtain ⟨was, o⟩ := tm.ti.ex
              have og := o.g
              have oh := o.h
              have oc0 := o.c0
              have oc1 := o.c1
              have ole := o.le1
              have orn := o.rn
              clear o was
              obtain ⟨d, hdd⟩ : ∃ d, nx + d = hd := ⟨hd - nx, by omega⟩
              have hlen : r.L.length = n + 2 := by rw [tm.rg.len, orn]
              have hlA : (allAt r.L r.n nx d).length = d := allAt_len _ _ _ _
              have hwd : IntKind.u64.wrap (celAt r.L 1 - celAt r.L 0) = (d : Nat) := by rw [oc1, oc0, wrap_sub' _ _ (by omega) (by omega)]; congr 1; omega
              have hdb : d ≤ 1000 := by omega
              have hhb : hd ≤ 1000 := by omega
              replace og := Lib.hid og
              replace oh := Lib.hid oh
              replace oc0 := Lib.hid oc0
              replace oc1 := Lib.hid oc1
              replace orn := Lib.hid orn
              replace hdd := Lib.hid hdd
              replace hlen := Lib.hid hlen
              replace hlA := Lib.hid hlA
              replace hwd := Lib.hid hwd
              replace ole := Lib.hid ole
              replace hgj := Lib.hid hgj
              go_wp2_with fail
              refine (RCopy_any b g h P G r wr tm.rg).mono ?_
              rintro e u1 ⟨cv1, rfl, own1, q1⟩
              have tm1 := tm.bel' q1
              obtain ⟨A1, c1, rfl, _, _, rd1⟩ := own1.form hlen.out
              clear own1 q1 tm
              go_wp2_with fail
              refine (rCopy_any rb lb D0 D1 r M u1 tm1.rf tm1.rg.n2 tm1.rg.gr tm1.rg.hr).mono ?_
              rintro e u2 ⟨cv2, rfl, own2, q2⟩
              have tm2 := tm1.bel' q2
              obtain ⟨A2, c2, rfl, _, _, rd2⟩ := own2.form hlen.out
              have rd1' := rd1.below q2
              have hs12 := q2.size
              clear own2 q2 tm1 rd1
              go_wp2_with fail
              refine (rSame_any A1 A2 (n + 2) c1 c2 _ _ r.L u2 rd1' rd2 hs12 (Nat.le_refl _) (by omega)).mono ?_
              rintro e u3 ⟨rfl, q3⟩
              have tm3 := tm2.bel' q3
              clear q3 tm2 rd1' rd2 hs12
              go_wp2_with fail
              refine (All_any b g h P G r nx d hd u3 tm3.rg oc0.out oc1.out hdd.out hhb).mono ?_
              rintro e u4 ⟨cv4, rfl, own4, q4⟩
              have tm4 := tm3.bel' q4
              obtain ⟨A4, c4, rfl, _, _, rd4⟩ := own4.form hlA.out
              clear own4 q4 tm3
              go_wp2_with fail
              refine (rAll_any rb lb D0 D1 r M nx d hd u4 tm4.rf tm4.rg.n1 tm4.rg.n2 og.out oh.out hdd.out hhb).mono ?_
              rintro e u5 ⟨cv5, rfl, own5, q5⟩
              have tm5 := tm4.bel' q5
              obtain ⟨A5, c5, rfl, _, _, rd5⟩ := own5.form hlA.out
              have rd4' := rd4.below q5
              have hs45 := q5.size
              clear own5 q5 tm4 rd4
              go_wp2_with fail
              refine (rSame_any A4 A5 d c4 c5 _ _ _ u5 rd4' rd5 hs45 (Nat.le_refl _) (by omega)).mono ?_
              rintro e u6 ⟨rfl, q6⟩
              have tm6 := tm5.bel' q6
              clear q6 tm5 rd4' rd5 hs45
              go_wp2_with fail
              refine (Len_any b g h P G r u6 tm6.rg d hwd.out (by omega)).mono ?_
              rintro e u7 ⟨rfl, q7⟩
              have tm7 := tm6.bel' q7
              clear q7 tm6
              go_wp2_with fail
              refine (rAll_any rb lb D0 D1 r M nx d hd u7 tm7.rf tm7.rg.n1 tm7.rg.n2 og.out oh.out hdd.out hhb).mono ?_
              rintro e u8 ⟨cv8, rfl, own8, q8⟩
              have tm8 := tm7.bel' q8
              obtain ⟨A8, c8, rfl, _, _, _⟩ := own8.form hlA.out
              clear own8 q8 tm7
              go_wp2_with fail
              refine Handed.intro (m - (i + 1)) (by have := hgk.out; omega) ?_
              go_step
              refine frm_meet (by kernel_rfl) ?_
              exact ⟨i + 1, rfl, by omega, ⟨rfl, rfl, rfl, rfl, rfl, rfl, rfl, rfl⟩, _, _, _, _, _, _, _, _, _, _, by omega, tm8⟩
    · have hcond : decide (i < m) = false ∨ (decide (i < m) = true ∧ decide ((i : Int) < 300) = false) := by
        rcases Nat.lt_or_ge i m with h | h
        · exact .inr ⟨by simpa using h, by simp; omega⟩
        · exact .inl (by simp; omega)
      have hfr := frm_lit v
      rw [cm.v0, cm.v1, cm.v7, cm.v8, cm.v9, cm.v10, cm.v11, cm.v12] at hfr
      rw [hfr]
      clear hfr cm
      have hbl := tm.bel
      clear tm
      rcases hcond with hd | ⟨hd, hd2⟩
      · go_wp2
        go_ret
        exact ⟨rfl, hbl⟩
      · go_wp2
        go_ret
        exact ⟨rfl, hbl⟩
theorem RingTurns_args (W : World) (args : Array Value) (hs : args.size = Try.f5.params.size) (hA : ∀ (j : Nat) t v, Try.f5.params[j]? = some t → args[j]? = some v → Arg Try.prog W t v) :
    Calls Try.prog 5 args W fun e W' => e = .returned (.bool true) ∧ Below W.heap.size W W' := by
  obtain ⟨v0, v1, rfl⟩ := args2 hs
  obtain ⟨n, rfl, _⟩ := arg_int Try.underlying3 (hA 0 3 v0 rfl rfl)
  obtain ⟨A, len, cap, m, rfl, h1, h2, h3⟩ := arg_slice Try.underlying22 (hA 1 22 v1 rfl rfl)
  have hC : Try.prog.cellsOf 32 = 3 := by kernel_rfl
  have hCi : Try.prog.cellsOf 3 = 1 := by kernel_rfl
  have hCu : Try.prog.cellsOf 23 = 1 := by kernel_rfl
  have hCb : Try.prog.cellsOf 4 = 1 := by kernel_rfl
  rw [hC] at h3
  have h4 := slice_rows (by omega) h3
  unfold maxLen at h2
  have key : ∃ l : List RAct, RdT RAct.cs 3 W W.heap.size A len l ∧ ∀ x ∈ l, inr .u64 x.v := by
    rcases Nat.eq_zero_or_pos len with h0 | h0
    · subst h0; exact ⟨[], RdT.nil _ _ _ _ _, by simp⟩
    · obtain ⟨b, o, rfl, hb, hi⟩ := h4 h0
      obtain ⟨l, hl, hP⟩ := list_of2 (P := fun i (d : RAct) => inr .u64 d.v ∧ ∀ f u, d.cs[f]? = some u → W.cell? ⟨b, o + i * 3 + f, none⟩ = some u) len (fun i hil => by
        obtain ⟨ys, hc, hyl, hr⟩ := hi i hil
        obtain ⟨m', _, hf⟩ := rdg_struct Try.underlying32 hr
        obtain ⟨x0, e0, r0⟩ := fld_int (i := 0) hf rfl Try.underlying3 hCi
        obtain ⟨x1, e1⟩ := fld_bool (i := 1) hf rfl Try.underlying4 hCb
        obtain ⟨x2, e2, r2⟩ := fld_int (i := 2) hf rfl Try.underlying23 hCu
        refine ⟨⟨x0, x1, x2⟩, r2, fun f u hu => ?_⟩
        have hf3 : f < 3 := (List.getElem?_eq_some_iff.1 hu).1
        refine (hc f (by omega)).trans ?_
        rw [← hu]
        match f, hf3 with
        | 0, _ => exact e0
        | 1, _ => exact e1
        | 2, _ => exact e2)
      refine ⟨l, ⟨hl, fun _ => ⟨b, o, rfl, hb, fun j x hj f u hu => (hP j x hj).2 f u hu⟩⟩, fun x hx => ?_⟩
      obtain ⟨i, hi, rfl⟩ := List.mem_iff_getElem.1 hx
      exact (hP i _ (List.getElem?_eq_getElem hi)).1
  obtain ⟨l, rd, hv⟩ := key
  by_cases hn : n < 1 ∨ 256 < n
  · exact RingTurns_no n A len cap W hn
  · obtain ⟨k, rfl⟩ := Int.eq_ofNat_of_zero_le (a := n) (by omega)
    exact RingTurns_yes k A len cap l W rd hv (by omega) (by omega) (by omega)

set_option maxRecDepth 100000 in
theorem RingTurns_lifted (os : Os) (started : os.Started) (H : Type) (enc : TypeId × Value → H) :
    ReturnsInHanded {} Try.checked os 5 .any (Rows.ringTurnsSpec.pre6 enc Try.prog Try.f5 Rows.ringTurnsRow.domain false) (Rows.ringTurnsSpec.post enc Try.prog Try.f5 false true false false) :=
  law_lifted os started H enc (by kernel_rfl) Try.func5 rfl rfl (fun H ds h => by match ds, h with | [_, _], _ => exact ⟨rfl, rfl, rfl⟩) (by kernel_rfl)
    (ChangeSpec.witness6 (enc := enc) (C := Try.checked) false ⟨#[], #[.int .i64 0, .slice none 0 0], []⟩ 8 (by kernel_rfl) (by kernel_rfl) (by kernel_rfl) (by kernel_rfl))
    RingTurns_args

/-- the statement -/
theorem ringTurns_holds : Rows.RingTurnsSaid :=
  OpenClaim.holds_of_wide 5 Try.f5 rfl rfl rfl rfl rfl rfl rfl ⟨rfl, rfl, rfl, rfl, rfl⟩ rfl rfl rfl rfl rfl (by kernel_rfl) Try.func5 (by kernel_rfl)
    (of_decide_eq_true (by kernel_rfl)) (by unfold Func.isWrapper; first | (rw [if_pos (by decide +kernel)]; kernel_rfl) | (rw [if_neg (by decide +kernel)]; exact ⟨rfl, rfl⟩))
    (fun os started H enc _ => RingTurns_lifted os started H enc)

end Go.Proofs.Ytpkcajnlcpmmcaa
