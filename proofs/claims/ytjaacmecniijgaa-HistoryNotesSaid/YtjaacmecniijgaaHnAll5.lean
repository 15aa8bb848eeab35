import Derived.Test.YtjaacmecniijgaaHnAll1
import Derived.Test.YtjaacmecniijgaaHead2
import Derived.Test.YtjaacmecniijgaaPart9
import Derived.Test.YtjaacmecniijgaaPart25
import Derived.Test.YtjaacmecniijgaaHeadRef
import Derived.Test.YtjaacmecniijgaaPart16
namespace Go.Proofs.Ytjaacmecniijgaa
set_option linter.unusedVariables false
set_option linter.unusedSimpArgs false
open Go.RowKit
/- The walks of package history: the port that an answer tells. -/
theorem frm_bds {l : List Int} (hl : ∀ x, x ∈ l → 0 ≤ x ∧ x ≤ 255) (h : getE l = 0) : (0 ≤ (hdIf l 0).src ∧ (hdIf l 0).src ≤ 4294967295) ∧ (0 ≤ (hdIf l 0).dst ∧ (hdIf l 0).dst ≤ 4294967295) := by
  have h20 : 20 ≤ l.length := by
    rcases Nat.lt_or_ge l.length 20 with hh | hh
    · exfalso
      unfold getE shapeE at h
      rw [if_pos hh] at h
      simp at h
    · exact hh
  unfold hdIf
  rw [if_pos rfl]
  exact ⟨n4_bd hl (by omega), n4_bd hl (by omega)⟩
/-- the port that a frame tells -/
def fromI (l : List Int) : Int := if getE l = 0 then (if (getR (hdIf l 0) l).1 = 0 then (getR (hdIf l 0) l).2.src else 0) else 0
set_option maxRecDepth 100000 in
set_option maxHeartbeats 4000000 in
theorem from_any (l : List Int) (A : Option Addr) (len c : Nat) (w : World) (hr : Rd .u8 w w.heap.size A len l) (hlc : len ≤ c) (hcm : c ≤ 9223372036854775807) (hl : len ≤ 60000) (hsr : 0 ≤ (getR (hdIf l 0) l).2.src ∧ (getR (hdIf l 0) l).2.src ≤ 65535) :
    Calls Try.prog 27 #[.slice A len c] w fun e w' => e = .returned (.int .i64 (fromI l)) ∧ Below w.heap.size w w' := by
  have k1 := fun W (h : Below w.heap.size w W) => Get_any l A len c _ W ((hr.below h).more h.size) (Nat.le_refl _) hlc hcm (by omega)
  have bel : Below w.heap.size w w := Below.refl _ _
  unfold fromI
  by_cases hE : getE l = 0
  · have hbb := frm_bds (fun x hx => inr_u8 (hr.rng x hx)) hE
    rw [if_pos hE]
    rw [hE] at k1
    have k2 := fun W (h : Below w.heap.size w W) => PGet_any (hdIf l 0) l A len c _ W ((hr.below h).more h.size) (Nat.le_refl _) hlc hcm (by omega) hbb.1 hbb.2
    generalize hdIf l 0 = H at *
    generalize getR H l = R at *
    obtain ⟨h0, h1, h2, h3, h4, h5⟩ := H
    obtain ⟨E, pr, sr, ds, fl, ki, co, er, ⟨isz, i1, i2, i3, i4, i5⟩, pat, ba⟩ := R
    simp only [Hd.val, Pt.val, Tells] at k1 k2 hsr ⊢
    have hw : IntKind.i64.wrap sr = sr := by simp [IntKind.wrap, IntKind.bits, IntKind.signed]; omega
    clear hbb hE hr
    replace k1 := Lib.hid k1
    replace k2 := Lib.hid k2
    obtain ⟨V, hV⟩ : ∃ V, (if E = 0 then sr else 0) = V := ⟨_, rfl⟩
    rw [hV]
    replace hV := Lib.hid hV
    go_enter Try.func27, Try.ntmps27
    go_wp2_with fail
    refine (k1.out _ bel).mono ?_
    rintro e w2 ⟨rfl, hb⟩
    replace bel := hb
    clear hb k1
    have bh := (Blk.new w2 82 #[.int .i64 0, .int .i64 0, .int .i64 0, .int .i64 0, .int .u32 0, .int .u32 0]).setRow #[.int .i64 h0, .int .i64 h1, .int .i64 h2, .int .i64 h3, .int .u32 h4, .int .u32 h5]
    replace bel := below_setRow (bel.alloc bel.size (.cells #[.int .i64 0, .int .i64 0, .int .i64 0, .int .i64 0, .int .u32 0, .int .u32 0] 82)) bel.size #[.int .i64 h0, .int .i64 h1, .int .i64 h2, .int .i64 h3, .int .u32 h4, .int .u32 h5]
    go_wp2_with (first
      | (refine wpList_stRow rfl rfl rfl rfl rfl (Blk.new w2 _ _) hd_size rfl (by simp [Value.oneCell']) ?_; generalize (w2.alloc (.cells #[.int .i64 0, .int .i64 0, .int .i64 0, .int .i64 0, .int .u32 0, .int .u32 0] 82)).setRow w2.heap.size #[.int .i64 h0, .int .i64 h1, .int .i64 h2, .int .i64 h3, .int .u32 h4, .int .u32 h5] = W4 at *; generalize w2.heap.size = gh at *)
      | (refine wpList_ldRow rfl rfl rfl bh Try.underlying82 hd_size ?_))
    refine (k2.out _ bel).mono ?_
    rintro e w3 ⟨rfl, hb⟩
    replace bel := bel_after bel hb
    clear hb k2 bh
    have bp := (Blk.new w3 86 #[.int .i64 0, .int .u16 0, .int .u16 0, .int .i64 0, .int .i64 0, .int .i64 0, .bool false, .int .i64 0, .int .i64 0, .int .i64 0, .int .i64 0, .int .u32 0, .int .u32 0, .int .i64 0, .bool false]).setRow #[.int .i64 pr, .int .u16 sr, .int .u16 ds, .int .i64 fl, .int .i64 ki, .int .i64 co, .bool er, .int .i64 isz, .int .i64 i1, .int .i64 i2, .int .i64 i3, .int .u32 i4, .int .u32 i5, .int .i64 pat, .bool ba]
    replace bel := below_setRow (bel.alloc bel.size (.cells #[.int .i64 0, .int .u16 0, .int .u16 0, .int .i64 0, .int .i64 0, .int .i64 0, .bool false, .int .i64 0, .int .i64 0, .int .i64 0, .int .i64 0, .int .u32 0, .int .u32 0, .int .i64 0, .bool false] 86)) bel.size #[.int .i64 pr, .int .u16 sr, .int .u16 ds, .int .i64 fl, .int .i64 ki, .int .i64 co, .bool er, .int .i64 isz, .int .i64 i1, .int .i64 i2, .int .i64 i3, .int .u32 i4, .int .u32 i5, .int .i64 pat, .bool ba]
    have p1 := bp.cell 1
    go_upto_region 5 with (refine wpList_stRow rfl rfl rfl rfl rfl (Blk.new w3 _ _) pt_size rfl (by simp [Value.oneCell']) ?_; generalize (w3.alloc (.cells #[.int .i64 0, .int .u16 0, .int .u16 0, .int .i64 0, .int .i64 0, .int .i64 0, .bool false, .int .i64 0, .int .i64 0, .int .i64 0, .int .i64 0, .int .u32 0, .int .u32 0, .int .i64 0, .bool false] 86)).setRow w3.heap.size #[.int .i64 pr, .int .u16 sr, .int .u16 ds, .int .i64 fl, .int .i64 ki, .int .i64 co, .bool er, .int .i64 isz, .int .i64 i1, .int .i64 i2, .int .i64 i3, .int .u32 i4, .int .u32 i5, .int .i64 pat, .bool ba] = W5 at *; generalize w3.heap.size = gp at *)
    by_cases hE2 : E = 0
    · have hVs := hV.out
      rw [if_pos hE2] at hVs
      subst hVs hE2
      clear hV
      go_wp2
      go_ret
      exact ⟨rfl, bel⟩
    · have hVs := hV.out
      rw [if_neg hE2] at hVs
      subst hVs
      have d1 : (E != 0) = true := by simpa using hE2
      have d2 : (E == 0) = false := by simpa using hE2
      clear hV
      go_wp2
      go_ret
      exact ⟨rfl, bel⟩
  · rw [if_neg hE]
    have hz : hdIf l (getE l) = Hd.z := by unfold hdIf; rw [if_neg hE]
    rw [hz] at k1
    generalize getE l = E at *
    have d1 : (E != 0) = true := by simpa using hE
    have d2 : (E == 0) = false := by simpa using hE
    clear hE hr hz hsr
    obtain ⟨h0, h1, h2, h3, h4, h5, hh⟩ : ∃ h0 h1 h2 h3 h4 h5 : Int, Hd.z = ⟨h0, h1, h2, h3, h4, h5⟩ := ⟨_, _, _, _, _, _, rfl⟩
    rw [hh] at k1
    clear hh
    simp only [Hd.val] at k1
    replace k1 := Lib.hid k1
    go_enter Try.func27, Try.ntmps27
    go_wp2_with fail
    refine (k1.out _ bel).mono ?_
    rintro e w2 ⟨rfl, hb⟩
    replace bel := hb
    clear hb k1
    replace bel := below_setRow (bel.alloc bel.size (.cells #[.int .i64 0, .int .i64 0, .int .i64 0, .int .i64 0, .int .u32 0, .int .u32 0] 82)) bel.size #[.int .i64 h0, .int .i64 h1, .int .i64 h2, .int .i64 h3, .int .u32 h4, .int .u32 h5]
    go_wp2_with (refine wpList_stRow rfl rfl rfl rfl rfl (Blk.new w2 _ _) hd_size rfl (by simp [Value.oneCell']) ?_; generalize (w2.alloc (.cells #[.int .i64 0, .int .i64 0, .int .i64 0, .int .i64 0, .int .u32 0, .int .u32 0] 82)).setRow w2.heap.size #[.int .i64 h0, .int .i64 h1, .int .i64 h2, .int .i64 h3, .int .u32 h4, .int .u32 h5] = W4 at *; generalize w2.heap.size = gh at *)
    go_ret
    exact ⟨rfl, bel⟩
/- The walks of package history: End, where the port is the answer's. -/
theorem Own.blk_ {k : IntKind} {e : TypeId} {w : World} {base : Nat} {v : Value} {l : List Int} (h : Own k e w base v l) {x : Nat} (hx : v.ownBlock = some x) : ∃ cur, Blk w x e cur := by
  rcases h.row.2 with ⟨rfl, h1⟩ | ⟨g, cap, cur, rfl, hg, hh, _⟩
  · simp [Value.ownBlock] at hx
  · have : g = x := by simpa [Value.ownBlock] using hx
    subst this
    exact ⟨cur, hh⟩
set_option maxRecDepth 100000 in
set_option maxHeartbeats 4000000 in
theorem hEnd0_any (i : Nat) (fA : Option Addr) (fn fc : Nat) (er : Int) (G : List Int) (base gh B0 : Nat) (now : Int) (v : Value) (l : List En) (x : En) (w : World) (hm : HisM w base gh now v l) (hbase : base ≤ w.heap.size) (hl : l.length ≤ 100) (hnow : 0 ≤ now ∧ now ≤ 1000) (hfo : SlO w B0 ⟨fA, fn, fc⟩ G) (hG : G.length ≤ 60000)
    (hx : l[i]? = some x) (he1 : x.ends = false) (he2 : x.e = -1) (h8 : (er == 8) = false) (h9 : (er == 9) = false) (h0 : (er == 0) = true) (hout : x.out = true) (hsr : 0 ≤ (getR (hdIf G 0) G).2.src ∧ (getR (hdIf G 0) G).2.src ≤ 65535) :
    Calls Try.prog 15 #[.pointer (some ⟨gh, 0, none⟩), .int .i64 i, .agg #[.slice fA fn fc, .int .i64 er]] w (EndP w base gh now er v l i x G (fromI G)) := by
  replace hout := Lib.hid hout
  replace hsr := Lib.hid hsr
  obtain ⟨n, hn⟩ : ∃ n, l.length = n := ⟨_, rfl⟩
  have hi : i < n := by have := (List.getElem?_eq_some_iff.1 hx).1; omega
  obtain ⟨g, c, rfl, hnc, hcm, hgb, hglt, _⟩ := hm.row.formG hn (by omega)
  unfold maxLen at hcm
  have hne : g ≠ gh := fun e => hm.row_ne (by rw [e]; rfl)
  have hgl := hm.obj.lt
  have q0 := hm.obj.cell 0
  have q1 := hm.obj.cell 1
  have f0 := hm.obj.frozen 0
  have c1 := hm.row.at_ En.cs_len hx (f := 1) rfl
  have c2 := hm.row.at_ En.cs_len hx (f := 2) rfl
  rw [he1] at c2
  rw [he2] at c1
  have i0 : (0 : Int) ≤ (i : Int) := by omega
  have i1 : (i : Int) < (n : Int) := by omega
  have d1 : decide ((n : Int) ≤ (i : Int)) = false := by simp; omega
  have d2 : decide (n ≤ i) = false := by simp; omega
  have kc := fun W (hW : SlR W ⟨fA, fn, fc⟩ G) => SClone_any G ⟨fA, fn, fc⟩ W hW hG
  simp only at kc
  replace kc := Lib.hid kc
  replace hn := Lib.hid hn
  replace hx := Lib.hid hx
  replace he1 := Lib.hid he1
  replace he2 := Lib.hid he2
  go_enter Try.func15, Try.ntmps15
  go_upto_region 5 with fail
  have up0 : Upd (fun k => k = gh) w ((w.setCell ⟨gh, 0, none⟩ (.int .i64 (now + 1))).alloc (.cells #[.slice fA fn fc, .int .i64 er] 29)) := (Upd.one w gh 0 _).alloc _
  have bx := Blk.new (w.setCell ⟨gh, 0, none⟩ (.int .i64 (now + 1))) 29 #[.slice fA fn fc, .int .i64 er]
  rw [show (w.setCell ⟨gh, 0, none⟩ (.int .i64 (now + 1))).heap.size = w.heap.size by simp [World.setCell]] at bx
  have hM : HisM ((w.setCell ⟨gh, 0, none⟩ (.int .i64 (now + 1))).alloc (.cells #[.slice fA fn fc, .int .i64 er] 29)) base gh (now + 1) (.slice (some ⟨g, 0, none⟩) n c) l :=
    ⟨(hm.obj.set_ 0 _).alloc _, (hm.row.upd (Upd.one _ gh 0 _) (fun k e e2 => by simp [Value.ownBlock] at e; omega)).alloc _⟩
  have hfg : (Value.slice fA fn fc).ownBlock ≠ some gh := fun e => by
    obtain ⟨cur, hb⟩ := Own.blk_ hfo e
    exact hb.ne_ hm.obj (by decide) rfl
  have hf2 : SlO ((w.setCell ⟨gh, 0, none⟩ (.int .i64 (now + 1))).alloc (.cells #[.slice fA fn fc, .int .i64 er] 29)) B0 ⟨fA, fn, fc⟩ G := Own.alloc (Own.upd hfo (Upd.one _ gh 0 _) (fun k e e2 => hfg (by rw [e, e2]))) _
  generalize (w.setCell ⟨gh, 0, none⟩ (.int .i64 (now + 1))).alloc (.cells #[.slice fA fn fc, .int .i64 er] 29) = W at *
  clear q0 q1 f0 c1 c2 d1 d2 hm hfo hfg
  have z1 : ∀ t : Tw (fun w' => w'.cell? ⟨gh, 0, none⟩ = some (.int .i64 (now + 1)) ∧ w'.cell? ⟨w.heap.size, 0, none⟩ = some (.slice fA fn fc) ∧ w'.cell? ⟨w.heap.size, 1, none⟩ = some (.int .i64 er)), t.w.cell? ⟨gh, 0, none⟩ = some (.int .i64 (now + 1)) := fun t => t.h.1
  have z2 : ∀ t : Tw (fun w' => w'.cell? ⟨gh, 0, none⟩ = some (.int .i64 (now + 1)) ∧ w'.cell? ⟨w.heap.size, 0, none⟩ = some (.slice fA fn fc) ∧ w'.cell? ⟨w.heap.size, 1, none⟩ = some (.int .i64 er)), t.w.cell? ⟨w.heap.size, 0, none⟩ = some (.slice fA fn fc) := fun t => t.h.2.1
  have z3 : ∀ t : Tw (fun w' => w'.cell? ⟨gh, 0, none⟩ = some (.int .i64 (now + 1)) ∧ w'.cell? ⟨w.heap.size, 0, none⟩ = some (.slice fA fn fc) ∧ w'.cell? ⟨w.heap.size, 1, none⟩ = some (.int .i64 er)), t.w.cell? ⟨w.heap.size, 1, none⟩ = some (.int .i64 er) := fun t => t.h.2.2
  have zz : Nonempty (Tw (fun w' => w'.cell? ⟨gh, 0, none⟩ = some (.int .i64 (now + 1)) ∧ w'.cell? ⟨w.heap.size, 0, none⟩ = some (.slice fA fn fc) ∧ w'.cell? ⟨w.heap.size, 1, none⟩ = some (.int .i64 er))) := ⟨⟨_, hM.obj.cell 0, bx.cell 0, bx.cell 1⟩⟩
  replace bx := bx.drew
  replace up0 := up0.drew
  replace hM : HisM W.drew base gh (now + 1) (.slice (some ⟨g, 0, none⟩) n c) l := ⟨hM.obj.drew, hM.row.drew⟩
  replace hf2 : SlO W.drew B0 ⟨fA, fn, fc⟩ G := Own.drew hf2
  refine wp_region_plan (fun w' => w'.cell? ⟨gh, 0, none⟩ = some (.int .i64 (now + 1)) ∧ w'.cell? ⟨w.heap.size, 0, none⟩ = some (.slice fA fn fc) ∧ w'.cell? ⟨w.heap.size, 1, none⟩ = some (.int .i64 er)) [(0, true), (1, true), (2, true), (3, true), (4, true), (5, true), (6, true), (7, true), (9, true), (10, true), (8, false), (11, true), (12, true), (13, true), (14, false), (15, true), (16, true), (17, false)] (by kernel_rfl) (by kernel_rfl) (by kernel_rfl) (by kernel_rfl) ⟨hM.obj.cell 0, bx.cell 0, bx.cell 1⟩ ?_
  generalize W.drew = W1 at *
  refine wpPl_qs 10 _ _ _ (by kernel_rfl) (by kernel_rfl) (by simp) ?_
  unfold clsS
  simp only [List.take_succ_cons, List.take_zero, List.drop_succ_cons, List.drop_zero, List.filterMap_cons, List.filterMap_nil, List.getElem?_toArray, List.getElem?_cons_zero, List.getElem?_cons_succ]
  repeat (first
    | go_big_quiet_skip
    | (go_big_quiet_want; go_big_quiet_op; go_big_quiet_on)
    | (refine id (?_ : wpQuiet _ _ _ _ (_ :: _) _); first | go_big_quiet_skip | (go_big_quiet_want; go_big_quiet_op; go_big_quiet_on)))
  refine wpQuiet_nil ?_
  refine wpPl_e _ (by rfl) (by kernel_rfl) (fun K hK => ?_)
  go_simp
  refine (kc.out _ (SlO.rd hf2)).mono ?_
  rintro e w2 ⟨t, rfl, ht, hb⟩
  replace ht : SlO w2 w.heap.size t G := SlO.lower ht up0.size
  replace bx := bx.bel hb
  replace hM : HisM w2 base gh (now + 1) (.slice (some ⟨g, 0, none⟩) n c) l := ⟨hM.obj.bel hb, hM.row.below hb⟩
  have up2 : Upd (fun k => k = gh ∨ (Value.slice (some ⟨g, 0, none⟩) n c).ownBlock = some k) w w2 := (up0.mono (fun _ _ h => .inl h)).trans (Upd.of_below hb _)
  replace hf2 := SlO.bel hf2 hb
  clear hb kc up0
  refine hK _ _ ⟨hM.obj.cell 0, bx.cell 0, bx.cell 1⟩ ?_
  clear hK K
  refine wpPl_qs 3 _ _ _ (by kernel_rfl) (by kernel_rfl) (by simp) ?_
  unfold clsS
  simp only [List.take_succ_cons, List.take_zero, List.drop_succ_cons, List.drop_zero, List.filterMap_cons, List.filterMap_nil, List.getElem?_toArray, List.getElem?_cons_zero, List.getElem?_cons_succ]
  repeat (first
    | go_big_quiet_skip
    | (go_big_quiet_want; go_big_quiet_op; go_big_quiet_on)
    | (refine id (?_ : wpQuiet _ _ _ _ (_ :: _) _); first | go_big_quiet_skip | (go_big_quiet_want; go_big_quiet_op; go_big_quiet_on)))
  refine wpQuiet_nil ?_
  refine wpPl_e _ (by rfl) (by kernel_rfl) (fun K hK => ?_)
  have f1 := hM.row.frozen hn.out (i * 11 + 1)
  have c1 := hM.row.at_ En.cs_len hx.out (f := 1) rfl
  go_simp
  have hbg : w.heap.size ≠ g := by omega
  have hgv : (Value.slice (some ⟨g, 0, none⟩) n c).ownBlock = some g := rfl
  have hlt1 := (List.getElem?_eq_some_iff.1 hx.out).1
  replace ht := ht.grownT hM.row (grown_set w2 g (i * 11 + 1) (.int .i64 (now + 1)))
  replace hf2 := SlO.grownT hf2 hM.row (grown_set w2 g (i * 11 + 1) (.int .i64 (now + 1)))
  replace bx := bx.far (p := ⟨g, i * 11 + 1, none⟩) hbg (.int .i64 (now + 1))
  replace up2 := up2.setCell (p := ⟨g, i * 11 + 1, none⟩) (fun _ => .inr hgv) (.int .i64 (now + 1))
  replace hM := hM.setF hn.out hx.out (x' := { x with e := now + 1 }) (f := 1) (u := .int .i64 (now + 1)) (by decide) rfl
  have hn2 : (l.set i { x with e := now + 1 }).length = n := by rw [List.length_set]; exact hn.out
  have hx2 : (l.set i { x with e := now + 1 })[i]? = some { x with e := now + 1 } := List.getElem?_set_self hlt1
  refine hK _ _ ⟨hM.obj.cell 0, bx.cell 0, bx.cell 1⟩ ?_
  clear hK K f1 c1
  generalize w2.setCell ⟨g, i * 11 + 1, none⟩ (.int .i64 (now + 1)) = w3 at *
  replace hn2 := Lib.hid hn2
  replace hx2 := Lib.hid hx2
  refine wpPl_qs 2 _ _ _ (by kernel_rfl) (by kernel_rfl) (by simp) ?_
  unfold clsS
  simp only [List.take_succ_cons, List.take_zero, List.drop_succ_cons, List.drop_zero, List.filterMap_cons, List.filterMap_nil, List.getElem?_toArray, List.getElem?_cons_zero, List.getElem?_cons_succ]
  repeat (first
    | go_big_quiet_skip
    | (go_big_quiet_want; go_big_quiet_op; go_big_quiet_on)
    | (refine id (?_ : wpQuiet _ _ _ _ (_ :: _) _); first | go_big_quiet_skip | (go_big_quiet_want; go_big_quiet_op; go_big_quiet_on)))
  refine wpQuiet_nil ?_
  refine wpPl_e _ (by rfl) (by kernel_rfl) (fun K hK => ?_)
  have f7 := hM.row.frozen hn2.out (i * 11 + 7)
  have c7 := hM.row.at_ En.cs_len hx2.out (f := 7) rfl
  have f8 := hM.row.frozen hn2.out (i * 11 + 7 + 1)
  have c8 := hM.row.at_ En.cs_len hx2.out (f := 8) rfl
  have e8 : i * 11 + 8 = i * 11 + 7 + 1 := by omega
  rw [e8] at c8
  go_simp
  replace ht := (ht.grownT hM.row (grown_set w3 g (i * 11 + 7) (.slice t.A t.n t.c)))
  replace hf2 := SlO.grownT hf2 hM.row (grown_set w3 g (i * 11 + 7) (.slice t.A t.n t.c))
  replace bx := (bx.far (p := ⟨g, i * 11 + 7, none⟩) hbg (.slice t.A t.n t.c)).far (p := ⟨g, i * 11 + 7 + 1, none⟩) hbg (.int .i64 er)
  replace up2 := (up2.setCell (p := ⟨g, i * 11 + 7, none⟩) (fun _ => .inr hgv) (.slice t.A t.n t.c)).setCell (p := ⟨g, i * 11 + 7 + 1, none⟩) (fun _ => .inr hgv) (.int .i64 er)
  replace hM := hM.setF hn2.out hx2.out (x' := { x with e := now + 1, g := t }) (f := 7) (u := .slice t.A t.n t.c) (by decide) rfl
  rw [List.set_set] at hM
  have hn3 : (l.set i { x with e := now + 1, g := t }).length = n := by rw [List.length_set]; exact hn.out
  have hx3 : (l.set i { x with e := now + 1, g := t })[i]? = some { x with e := now + 1, g := t } := List.getElem?_set_self hlt1
  replace ht := (ht.grownT hM.row (grown_set _ g (i * 11 + 7 + 1) (.int .i64 er)))
  replace hf2 := SlO.grownT hf2 hM.row (grown_set _ g (i * 11 + 7 + 1) (.int .i64 er))
  replace hM := hM.setF hn3 hx3 (x' := endE x (now + 1) er t) (f := 8) (u := .int .i64 er) (by decide) rfl
  rw [List.set_set, e8] at hM
  have hn4 : (l.set i (endE x (now + 1) er t)).length = n := by rw [List.length_set]; exact hn.out
  have hx4 : (l.set i (endE x (now + 1) er t))[i]? = some (endE x (now + 1) er t) := List.getElem?_set_self hlt1
  refine hK _ _ ⟨hM.obj.cell 0, bx.cell 0, bx.cell 1⟩ ?_
  clear hK K f7 f8 c7 c8 e8 z1 z2 z3 zz hn2 hx2 hn3 hx3
  generalize (w3.setCell ⟨g, i * 11 + 7, none⟩ (.slice t.A t.n t.c)).setCell ⟨g, i * 11 + 7 + 1, none⟩ (.int .i64 er) = w4 at *
  unfold wpPl
  refine NoPanic.normal ?_
  have p1 := bx.cell 1
  have p0 := bx.cell 0
  have c3 := hM.row.at_ En.cs_len hx4 (f := 3) (u := .bool true) (by show some (Value.bool x.out) = _; rw [hout.out])
  have hsz4 := up2.size
  replace hn4 := Lib.hid hn4
  replace hx4 := Lib.hid hx4
  go_wp2_with fail
  refine (from_any G fA fn fc w4 (SlO.rd hf2).1 (SlO.rd hf2).2.1 (by have := (SlO.rd hf2).2.2; unfold maxLen at this; omega) (by have hq := (SlO.rd hf2).1.len; simp only at hq; omega) hsr.out).mono ?_
  rintro e w5 ⟨rfl, hb5⟩
  replace hM : HisM w5 base gh (now + 1) (.slice (some ⟨g, 0, none⟩) n c) (l.set i (endE x (now + 1) er t)) := ⟨hM.obj.bel hb5, hM.row.below hb5⟩
  replace ht := SlO.bel ht hb5
  have up5 := up2.trans (Upd.of_below hb5 _)
  clear hb5 p0 p1 c3 bx up2 hf2
  have f6 := hM.row.frozen hn4.out (i * 11 + 6)
  have c6 := hM.row.at_ En.cs_len hx4.out (f := 6) rfl
  have hM6 := hM.setF hn4.out hx4.out (x' := { endE x (now + 1) er t with port := fromI G }) (f := 6) (u := .int .i64 (fromI G)) (by decide) rfl
  rw [List.set_set] at hM6
  replace hM6 := Lib.hid hM6
  have ht6 := ht.grownT hM.row (grown_set w5 g (i * 11 + 6) (.int .i64 (fromI G)))
  have up6 := up5.setCell (p := ⟨g, i * 11 + 6, none⟩) (fun _ => .inr hgv) (.int .i64 (fromI G))
  go_wp2
  go_ret
  exact ⟨t, rfl, hM6.out, ht6, up6⟩
/- The document's side of a history's end: the port that an answer tells. -/
/-- what a frame carries, and whether it can be got -/
def partI (l : List Int) : Pt × Bool := if getE l = 0 then ((getR (hdIf l 0) l).2, (getR (hdIf l 0) l).1 == 0) else (Pt.z, false)
theorem partI_from (l : List Int) : fromI l = if (partI l).2 = true then (partI l).1.src else 0 := by
  unfold fromI partI
  by_cases h : getE l = 0
  · simp only [h, if_true, beq_iff_eq]
  · simp only [h, if_false, Bool.false_eq_true]
def PartT (w : World) (p : Pt × Bool) (e : Ending) (w' : World) : Prop := e = .returned (.tuple #[p.1.val, .bool p.2]) ∧ Below w.heap.size w w'
set_option maxRecDepth 100000 in
set_option maxHeartbeats 4000000 in
theorem rPart_any (l : List Int) (A : Option Addr) (len c : Nat) (w : World) (hr : Rd .u8 w w.heap.size A len l) (hlc : len ≤ c) (hcm : c ≤ 9223372036854775807) (hl : len ≤ 60000) :
    Calls Try.prog 42 #[.slice A len c] w (PartT w (partI l)) := by
  have k1 := fun W (h : Below w.heap.size w W) => rGet_any l false A len c _ W ((hr.below h).more h.size) (Nat.le_refl _) hlc hcm (by omega)
  rw [show getP l false = getE l from rfl] at k1
  unfold partI
  by_cases hE : getE l = 0
  · have hbb := frm_bds (fun x hx => inr_u8 (hr.rng x hx)) hE
    rw [if_pos hE]
    rw [hE] at k1
    have k2 := fun W (h : Below w.heap.size w W) => rPGet_any (hdIf l 0) l A len c _ W ((hr.below h).more h.size) (Nat.le_refl _) hlc hcm (by omega) hbb.1 hbb.2
    generalize hdIf l 0 = H at *
    generalize getR H l = R at *
    obtain ⟨h0, h1, h2, h3, h4, h5⟩ := H
    obtain ⟨E, pr, sr, ds, fl, ki, co, er, ⟨isz, i1, i2, i3, i4, i5⟩, pat, ba⟩ := R
    simp only [PartT, Hd.val, Pt.val, Tells] at k1 k2 ⊢
    obtain ⟨ok, hok⟩ : ∃ ok, (E == 0) = ok := ⟨_, rfl⟩
    rw [hok]
    clear hbb hE hr
    replace k1 := Lib.hid k1
    replace k2 := Lib.hid k2
    go_enter Try.func42, Try.ntmps42
    go_upto_region 1 with fail
    have bk := Blk.new w 97 #[.int .i64 0, .int .u16 0, .int .u16 0, .int .i64 0, .int .i64 0, .int .i64 0, .bool false, .int .i64 0, .int .i64 0, .int .i64 0, .int .i64 0, .int .u32 0, .int .u32 0, .int .i64 0, .bool false]
    have bel := bel_alloc w (.cells #[.int .i64 0, .int .u16 0, .int .u16 0, .int .i64 0, .int .i64 0, .int .i64 0, .bool false, .int .i64 0, .int .i64 0, .int .i64 0, .int .i64 0, .int .u32 0, .int .u32 0, .int .i64 0, .bool false] 97)
    generalize w.alloc (.cells #[.int .i64 0, .int .u16 0, .int .u16 0, .int .i64 0, .int .i64 0, .int .i64 0, .bool false, .int .i64 0, .int .i64 0, .int .i64 0, .int .i64 0, .int .u32 0, .int .u32 0, .int .i64 0, .bool false] 97) = W1 at *
    go_wp2_with fail
    refine (k1.out _ bel).mono ?_
    rintro e w2 ⟨rfl, hb⟩
    replace bel := bel_after bel hb
    replace bk := bk.bel hb
    clear hb k1
    have hlt := bk.lt
    have bh := (Blk.new w2 77 #[.int .i64 0, .int .i64 0, .int .i64 0, .int .i64 0, .int .u32 0, .int .u32 0]).setRow #[.int .i64 h0, .int .i64 h1, .int .i64 h2, .int .i64 h3, .int .u32 h4, .int .u32 h5]
    replace bk := (bk.alloc (.cells #[.int .i64 0, .int .i64 0, .int .i64 0, .int .i64 0, .int .u32 0, .int .u32 0] 77)).setRow_far (g' := w2.heap.size) (by omega) #[.int .i64 h0, .int .i64 h1, .int .i64 h2, .int .i64 h3, .int .u32 h4, .int .u32 h5]
    replace bel := below_setRow (bel.alloc bel.size (.cells #[.int .i64 0, .int .i64 0, .int .i64 0, .int .i64 0, .int .u32 0, .int .u32 0] 77)) bel.size #[.int .i64 h0, .int .i64 h1, .int .i64 h2, .int .i64 h3, .int .u32 h4, .int .u32 h5]
    clear hlt
    go_wp2_with (first
      | (refine wpList_stRow rfl rfl rfl rfl rfl (Blk.new w2 _ _) rhd_size rfl (by simp [Value.oneCell']) ?_; generalize (w2.alloc (.cells #[.int .i64 0, .int .i64 0, .int .i64 0, .int .i64 0, .int .u32 0, .int .u32 0] 77)).setRow w2.heap.size #[.int .i64 h0, .int .i64 h1, .int .i64 h2, .int .i64 h3, .int .u32 h4, .int .u32 h5] = W4 at *; generalize w2.heap.size = gh at *)
      | (refine wpList_ldRow rfl rfl rfl bh Try.underlying77 rhd_size ?_))
    refine (k2.out _ bel).mono ?_
    rintro e w3 ⟨rfl, hb⟩
    replace bel := bel_after bel hb
    replace bk := bk.bel hb
    clear hb k2 bh
    have hlt := bk.lt
    have bp := (Blk.new w3 97 #[.int .i64 0, .int .u16 0, .int .u16 0, .int .i64 0, .int .i64 0, .int .i64 0, .bool false, .int .i64 0, .int .i64 0, .int .i64 0, .int .i64 0, .int .u32 0, .int .u32 0, .int .i64 0, .bool false]).setRow #[.int .i64 pr, .int .u16 sr, .int .u16 ds, .int .i64 fl, .int .i64 ki, .int .i64 co, .bool er, .int .i64 isz, .int .i64 i1, .int .i64 i2, .int .i64 i3, .int .u32 i4, .int .u32 i5, .int .i64 pat, .bool ba]
    replace bk := (bk.alloc (.cells #[.int .i64 0, .int .u16 0, .int .u16 0, .int .i64 0, .int .i64 0, .int .i64 0, .bool false, .int .i64 0, .int .i64 0, .int .i64 0, .int .i64 0, .int .u32 0, .int .u32 0, .int .i64 0, .bool false] 97)).setRow_far (g' := w3.heap.size) (by omega) #[.int .i64 pr, .int .u16 sr, .int .u16 ds, .int .i64 fl, .int .i64 ki, .int .i64 co, .bool er, .int .i64 isz, .int .i64 i1, .int .i64 i2, .int .i64 i3, .int .u32 i4, .int .u32 i5, .int .i64 pat, .bool ba]
    replace bel := below_setRow (bel.alloc bel.size (.cells #[.int .i64 0, .int .u16 0, .int .u16 0, .int .i64 0, .int .i64 0, .int .i64 0, .bool false, .int .i64 0, .int .i64 0, .int .i64 0, .int .i64 0, .int .u32 0, .int .u32 0, .int .i64 0, .bool false] 97)) bel.size #[.int .i64 pr, .int .u16 sr, .int .u16 ds, .int .i64 fl, .int .i64 ki, .int .i64 co, .bool er, .int .i64 isz, .int .i64 i1, .int .i64 i2, .int .i64 i3, .int .u32 i4, .int .u32 i5, .int .i64 pat, .bool ba]
    clear hlt
    go_upto_region 5 with (refine wpList_stRow rfl rfl rfl rfl rfl (Blk.new w3 _ _) rpt_size rfl (by simp [Value.oneCell']) ?_; generalize (w3.alloc (.cells #[.int .i64 0, .int .u16 0, .int .u16 0, .int .i64 0, .int .i64 0, .int .i64 0, .bool false, .int .i64 0, .int .i64 0, .int .i64 0, .int .i64 0, .int .u32 0, .int .u32 0, .int .i64 0, .bool false] 97)).setRow w3.heap.size #[.int .i64 pr, .int .u16 sr, .int .u16 ds, .int .i64 fl, .int .i64 ki, .int .i64 co, .bool er, .int .i64 isz, .int .i64 i1, .int .i64 i2, .int .i64 i3, .int .u32 i4, .int .u32 i5, .int .i64 pat, .bool ba] = W5 at *; generalize w3.heap.size = gp at *)
    go_wp2_with (first
      | (refine wpList_ldRow rfl rfl rfl bp Try.underlying97 rpt_size ?_)
      | (refine wpList_stRow rfl rfl rfl rfl rfl bk rpt_size rfl (by simp [Value.oneCell']) ?_))
    exact bodyPost_ret (results_row2 rfl _ rfl (bk.setRow _) Try.underlying97 rpt_size) rfl ⟨rfl, below_setRow bel (Nat.le_refl _) _⟩
  · rw [if_neg hE]
    have hz : hdIf l (getE l) = Hd.z := by unfold hdIf; rw [if_neg hE]
    rw [hz] at k1
    generalize getE l = E at *
    have d1 : (E != 0) = true := by simpa using hE
    have d2 : (E == 0) = false := by simpa using hE
    clear hE hr hz
    obtain ⟨h0, h1, h2, h3, h4, h5, hh⟩ : ∃ h0 h1 h2 h3 h4 h5 : Int, Hd.z = ⟨h0, h1, h2, h3, h4, h5⟩ := ⟨_, _, _, _, _, _, rfl⟩
    rw [hh] at k1
    clear hh
    simp only [PartT, Hd.val, Pt.val, Pt.z, Hd.z] at k1 ⊢
    replace k1 := Lib.hid k1
    go_enter Try.func42, Try.ntmps42
    go_upto_region 1 with fail
    have bk := Blk.new w 97 #[.int .i64 0, .int .u16 0, .int .u16 0, .int .i64 0, .int .i64 0, .int .i64 0, .bool false, .int .i64 0, .int .i64 0, .int .i64 0, .int .i64 0, .int .u32 0, .int .u32 0, .int .i64 0, .bool false]
    have bel := bel_alloc w (.cells #[.int .i64 0, .int .u16 0, .int .u16 0, .int .i64 0, .int .i64 0, .int .i64 0, .bool false, .int .i64 0, .int .i64 0, .int .i64 0, .int .i64 0, .int .u32 0, .int .u32 0, .int .i64 0, .bool false] 97)
    generalize w.alloc (.cells #[.int .i64 0, .int .u16 0, .int .u16 0, .int .i64 0, .int .i64 0, .int .i64 0, .bool false, .int .i64 0, .int .i64 0, .int .i64 0, .int .i64 0, .int .u32 0, .int .u32 0, .int .i64 0, .bool false] 97) = W1 at *
    go_wp2_with fail
    refine (k1.out _ bel).mono ?_
    rintro e w2 ⟨rfl, hb⟩
    replace bel := bel_after bel hb
    replace bk := bk.bel hb
    clear hb k1
    have hlt := bk.lt
    replace bk := (bk.alloc (.cells #[.int .i64 0, .int .i64 0, .int .i64 0, .int .i64 0, .int .u32 0, .int .u32 0] 77)).setRow_far (g' := w2.heap.size) (by omega) #[.int .i64 h0, .int .i64 h1, .int .i64 h2, .int .i64 h3, .int .u32 h4, .int .u32 h5]
    replace bel := below_setRow (bel.alloc bel.size (.cells #[.int .i64 0, .int .i64 0, .int .i64 0, .int .i64 0, .int .u32 0, .int .u32 0] 77)) bel.size #[.int .i64 h0, .int .i64 h1, .int .i64 h2, .int .i64 h3, .int .u32 h4, .int .u32 h5]
    clear hlt
    go_upto_region 3 with (refine wpList_stRow rfl rfl rfl rfl rfl (Blk.new w2 _ _) rhd_size rfl (by simp [Value.oneCell']) ?_; generalize (w2.alloc (.cells #[.int .i64 0, .int .i64 0, .int .i64 0, .int .i64 0, .int .u32 0, .int .u32 0] 77)).setRow w2.heap.size #[.int .i64 h0, .int .i64 h1, .int .i64 h2, .int .i64 h3, .int .u32 h4, .int .u32 h5] = W4 at *; generalize w2.heap.size = gh at *)
    go_wp2_with (refine wpList_stRow rfl rfl rfl rfl rfl bk rpt_size rfl (by simp [Value.oneCell']) ?_)
    exact bodyPost_ret (results_row2 rfl _ rfl (bk.setRow _) Try.underlying97 rpt_size) rfl ⟨rfl, below_setRow bel (Nat.le_refl _) _⟩
set_option maxRecDepth 100000 in
set_option maxHeartbeats 2000000 in
theorem rOwn_any (l : List Int) (A : Option Addr) (len c : Nat) (w : World) (hr : Rd .u8 w w.heap.size A len l) (hlc : len ≤ c) (hcm : c ≤ 9223372036854775807) (hl : len ≤ 60000) (hsr : 0 ≤ (partI l).1.src ∧ (partI l).1.src ≤ 65535) :
    Calls Try.prog 33 #[.slice A len c] w fun e w' => e = .returned (.int .i64 (fromI l)) ∧ Below w.heap.size w w' := by
  have k1 := rPart_any l A len c w hr hlc hcm hl
  rw [partI_from]
  generalize partI l = R at *
  obtain ⟨⟨pr, sr, ds, fl, ki, co, er, ⟨isz, i1, i2, i3, i4, i5⟩, pat, ba⟩, ok⟩ := R
  simp only [PartT, Pt.val] at k1 hsr ⊢
  have hw : IntKind.i64.wrap sr = sr := by simp [IntKind.wrap, IntKind.bits, IntKind.signed]; omega
  clear hr
  replace k1 := Lib.hid k1
  cases ok with
  | true =>
    simp only [if_true]
    go_enter Try.func33, Try.ntmps33
    go_wp2_with fail
    refine k1.out.mono ?_
    rintro e w3 ⟨rfl, bel⟩
    have bp := (Blk.new w3 97 #[.int .i64 0, .int .u16 0, .int .u16 0, .int .i64 0, .int .i64 0, .int .i64 0, .bool false, .int .i64 0, .int .i64 0, .int .i64 0, .int .i64 0, .int .u32 0, .int .u32 0, .int .i64 0, .bool false]).setRow #[.int .i64 pr, .int .u16 sr, .int .u16 ds, .int .i64 fl, .int .i64 ki, .int .i64 co, .bool er, .int .i64 isz, .int .i64 i1, .int .i64 i2, .int .i64 i3, .int .u32 i4, .int .u32 i5, .int .i64 pat, .bool ba]
    replace bel := below_setRow (bel.alloc bel.size (.cells #[.int .i64 0, .int .u16 0, .int .u16 0, .int .i64 0, .int .i64 0, .int .i64 0, .bool false, .int .i64 0, .int .i64 0, .int .i64 0, .int .i64 0, .int .u32 0, .int .u32 0, .int .i64 0, .bool false] 97)) bel.size #[.int .i64 pr, .int .u16 sr, .int .u16 ds, .int .i64 fl, .int .i64 ki, .int .i64 co, .bool er, .int .i64 isz, .int .i64 i1, .int .i64 i2, .int .i64 i3, .int .u32 i4, .int .u32 i5, .int .i64 pat, .bool ba]
    have p1 := bp.cell 1
    go_wp2_with (refine wpList_stRow rfl rfl rfl rfl rfl (Blk.new w3 _ _) rpt_size rfl (by simp [Value.oneCell']) ?_; generalize (w3.alloc (.cells #[.int .i64 0, .int .u16 0, .int .u16 0, .int .i64 0, .int .i64 0, .int .i64 0, .bool false, .int .i64 0, .int .i64 0, .int .i64 0, .int .i64 0, .int .u32 0, .int .u32 0, .int .i64 0, .bool false] 97)).setRow w3.heap.size #[.int .i64 pr, .int .u16 sr, .int .u16 ds, .int .i64 fl, .int .i64 ki, .int .i64 co, .bool er, .int .i64 isz, .int .i64 i1, .int .i64 i2, .int .i64 i3, .int .u32 i4, .int .u32 i5, .int .i64 pat, .bool ba] = W5 at *; generalize w3.heap.size = gp at *)
    go_ret
    exact ⟨rfl, bel⟩
  | false =>
    simp only [Bool.false_eq_true, if_false]
    go_enter Try.func33, Try.ntmps33
    go_wp2_with fail
    refine k1.out.mono ?_
    rintro e w3 ⟨rfl, bel⟩
    replace bel := below_setRow (bel.alloc bel.size (.cells #[.int .i64 0, .int .u16 0, .int .u16 0, .int .i64 0, .int .i64 0, .int .i64 0, .bool false, .int .i64 0, .int .i64 0, .int .i64 0, .int .i64 0, .int .u32 0, .int .u32 0, .int .i64 0, .bool false] 97)) bel.size #[.int .i64 pr, .int .u16 sr, .int .u16 ds, .int .i64 fl, .int .i64 ki, .int .i64 co, .bool er, .int .i64 isz, .int .i64 i1, .int .i64 i2, .int .i64 i3, .int .u32 i4, .int .u32 i5, .int .i64 pat, .bool ba]
    go_wp2_with (refine wpList_stRow rfl rfl rfl rfl rfl (Blk.new w3 _ _) rpt_size rfl (by simp [Value.oneCell']) ?_; generalize (w3.alloc (.cells #[.int .i64 0, .int .u16 0, .int .u16 0, .int .i64 0, .int .i64 0, .int .i64 0, .bool false, .int .i64 0, .int .i64 0, .int .i64 0, .int .i64 0, .int .u32 0, .int .u32 0, .int .i64 0, .bool false] 97)).setRow w3.heap.size #[.int .i64 pr, .int .u16 sr, .int .u16 ds, .int .i64 fl, .int .i64 ki, .int .i64 co, .bool er, .int .i64 isz, .int .i64 i1, .int .i64 i2, .int .i64 i3, .int .u32 i4, .int .u32 i5, .int .i64 pat, .bool ba] = W5 at *; generalize w3.heap.size = gp at *)
    go_ret
    exact ⟨rfl, bel⟩
/- The law's From; the document's Done and Same. -/
theorem evt_size : (Try.prog.info? 35).map (·.size) = some 11 := by kernel_rfl
theorem cal_size : (Try.prog.info? 33).map (·.size) = some 4 := by kernel_rfl
set_option maxRecDepth 100000 in
set_option maxHeartbeats 2000000 in
theorem From_any (x : En) (w : World) : Calls Try.prog 23 #[.agg #[.int .i64 x.b, .int .i64 x.e, .bool x.ends, .bool x.out, .slice x.f.A x.f.n x.f.c, .int .i64 x.tick, .int .i64 x.port, .slice x.g.A x.g.n x.g.c, .int .i64 x.err, .int .i64 x.proto, .int .i64 x.pt]] w fun e w' => e = .returned (.agg #[.int .i64 x.b, .int .i64 x.e, .bool x.ends, .bool x.out, .slice x.f.A x.f.n x.f.c, .int .i64 x.tick, .int .i64 x.port, .slice x.g.A x.g.n x.g.c, .int .i64 x.err, .int .i64 x.proto, .int .i64 x.pt]) ∧ Below w.heap.size w w' := by
  go_enter Try.func23, Try.ntmps23
  go_upto_region 1 with fail
  have bx := (Blk.new w 31 #[.int .i64 x.b, .int .i64 x.e, .bool x.ends, .bool x.out, .slice x.f.A x.f.n x.f.c, .int .i64 x.tick, .int .i64 x.port, .slice x.g.A x.g.n x.g.c, .int .i64 x.err, .int .i64 x.proto, .int .i64 x.pt]).alloc (.cells #[.int .i64 0, .int .i64 0, .bool false, .bool false, .slice none 0 0, .int .i64 0, .int .i64 0, .slice none 0 0, .int .i64 0, .int .i64 0, .int .i64 0] 35)
  have br := Blk.new (w.alloc (.cells #[.int .i64 x.b, .int .i64 x.e, .bool x.ends, .bool x.out, .slice x.f.A x.f.n x.f.c, .int .i64 x.tick, .int .i64 x.port, .slice x.g.A x.g.n x.g.c, .int .i64 x.err, .int .i64 x.proto, .int .i64 x.pt] 31)) 35 #[.int .i64 0, .int .i64 0, .bool false, .bool false, .slice none 0 0, .int .i64 0, .int .i64 0, .slice none 0 0, .int .i64 0, .int .i64 0, .int .i64 0]
  rw [show (w.alloc (.cells #[.int .i64 x.b, .int .i64 x.e, .bool x.ends, .bool x.out, .slice x.f.A x.f.n x.f.c, .int .i64 x.tick, .int .i64 x.port, .slice x.g.A x.g.n x.g.c, .int .i64 x.err, .int .i64 x.proto, .int .i64 x.pt] 31)).heap.size = w.heap.size + 1 by simp] at br
  have bel : Below w.heap.size w ((w.alloc (.cells #[.int .i64 x.b, .int .i64 x.e, .bool x.ends, .bool x.out, .slice x.f.A x.f.n x.f.c, .int .i64 x.tick, .int .i64 x.port, .slice x.g.A x.g.n x.g.c, .int .i64 x.err, .int .i64 x.proto, .int .i64 x.pt] 31)).alloc (.cells #[.int .i64 0, .int .i64 0, .bool false, .bool false, .slice none 0 0, .int .i64 0, .int .i64 0, .slice none 0 0, .int .i64 0, .int .i64 0, .int .i64 0] 35)) := (bel_alloc _ _).alloc (by simp) _
  generalize (w.alloc (.cells #[.int .i64 x.b, .int .i64 x.e, .bool x.ends, .bool x.out, .slice x.f.A x.f.n x.f.c, .int .i64 x.tick, .int .i64 x.port, .slice x.g.A x.g.n x.g.c, .int .i64 x.err, .int .i64 x.proto, .int .i64 x.pt] 31)).alloc (.cells #[.int .i64 0, .int .i64 0, .bool false, .bool false, .slice none 0 0, .int .i64 0, .int .i64 0, .slice none 0 0, .int .i64 0, .int .i64 0, .int .i64 0] 35) = W at *
  have q0 := bx.cell 0
  have q1 := bx.cell 1
  have q2 := bx.cell 2
  have q3 := bx.cell 3
  have q4 := bx.cell 4
  have q5 := bx.cell 5
  have q6 := bx.cell 6
  have q7 := bx.cell 7
  have q8 := bx.cell 8
  have q9 := bx.cell 9
  have q10 := bx.cell 10
  go_wp2_with (refine wpList_stRow rfl rfl rfl rfl rfl br evt_size rfl (by simp [Value.oneCell']) ?_)
  exact bodyPost_ret (results_row rfl _ rfl (br.setRow _) Try.underlying35 evt_size) rfl ⟨rfl, below_setRow bel (by omega) _⟩
def DonR (w : World) (x : En) (now er : Int) (G : List Int) (po : Int) (e : Ending) (w' : World) : Prop :=
  ∃ t : Sl, e = .returned (.agg #[.int .i64 { endE x now er t with port := po }.b, .int .i64 { endE x now er t with port := po }.e, .bool { endE x now er t with port := po }.ends, .bool { endE x now er t with port := po }.out, .slice { endE x now er t with port := po }.f.A { endE x now er t with port := po }.f.n { endE x now er t with port := po }.f.c, .int .i64 { endE x now er t with port := po }.tick, .int .i64 { endE x now er t with port := po }.port, .slice { endE x now er t with port := po }.g.A { endE x now er t with port := po }.g.n { endE x now er t with port := po }.g.c, .int .i64 { endE x now er t with port := po }.err, .int .i64 { endE x now er t with port := po }.proto, .int .i64 { endE x now er t with port := po }.pt]) ∧ SlO w' w.heap.size t G ∧ Below w.heap.size w w'
-- a port is stored: $1; the end
set_option maxRecDepth 100000 in
set_option maxHeartbeats 2000000 in
theorem rDone8_any (x : En) (now er : Int) (fA : Option Addr) (fn fc : Nat) (G : List Int) (w : World) (hr : SlR w ⟨fA, fn, fc⟩ G) (hG : G.length ≤ 60000) (h8 : (er == 8) = true) :
    Calls Try.prog 21 #[.agg #[.int .i64 x.b, .int .i64 x.e, .bool x.ends, .bool x.out, .slice x.f.A x.f.n x.f.c, .int .i64 x.tick, .int .i64 x.port, .slice x.g.A x.g.n x.g.c, .int .i64 x.err, .int .i64 x.proto, .int .i64 x.pt], .int .i64 now, .slice fA fn fc, .int .i64 er] w (DonR w x now er G (-1)) := by
  obtain ⟨i0, hi, hz0, hz1, hz2⟩ := info_parts info_u8_
  have hlen := hr.1.len
  have hfc := hr.2
  unfold maxLen at hfc
  obtain ⟨xb, xe, xn, xo, ⟨f1, f2, f3⟩, xt, xp, ⟨g1, g2, g3⟩, xr, xq, xs⟩ := x
  simp only at *
  replace hlen := Lib.hid hlen
  go_enter Try.func21, Try.ntmps21
  go_upto_region 1 with fail
  have bx := (Blk.new w 35 #[.int .i64 xb, .int .i64 xe, .bool xn, .bool xo, .slice f1 f2 f3, .int .i64 xt, .int .i64 xp, .slice g1 g2 g3, .int .i64 xr, .int .i64 xq, .int .i64 xs]).alloc (.cells #[.int .i64 0, .int .i64 0, .bool false, .bool false, .slice none 0 0, .int .i64 0, .int .i64 0, .slice none 0 0, .int .i64 0, .int .i64 0, .int .i64 0] 35)
  have br := Blk.new (w.alloc (.cells #[.int .i64 xb, .int .i64 xe, .bool xn, .bool xo, .slice f1 f2 f3, .int .i64 xt, .int .i64 xp, .slice g1 g2 g3, .int .i64 xr, .int .i64 xq, .int .i64 xs] 35)) 35 #[.int .i64 0, .int .i64 0, .bool false, .bool false, .slice none 0 0, .int .i64 0, .int .i64 0, .slice none 0 0, .int .i64 0, .int .i64 0, .int .i64 0]
  rw [show (w.alloc (.cells #[.int .i64 xb, .int .i64 xe, .bool xn, .bool xo, .slice f1 f2 f3, .int .i64 xt, .int .i64 xp, .slice g1 g2 g3, .int .i64 xr, .int .i64 xq, .int .i64 xs] 35)).heap.size = w.heap.size + 1 by simp] at br
  have bel : Below w.heap.size w ((w.alloc (.cells #[.int .i64 xb, .int .i64 xe, .bool xn, .bool xo, .slice f1 f2 f3, .int .i64 xt, .int .i64 xp, .slice g1 g2 g3, .int .i64 xr, .int .i64 xq, .int .i64 xs] 35)).alloc (.cells #[.int .i64 0, .int .i64 0, .bool false, .bool false, .slice none 0 0, .int .i64 0, .int .i64 0, .slice none 0 0, .int .i64 0, .int .i64 0, .int .i64 0] 35)) := (bel_alloc _ _).alloc (by simp) _
  generalize (w.alloc (.cells #[.int .i64 xb, .int .i64 xe, .bool xn, .bool xo, .slice f1 f2 f3, .int .i64 xt, .int .i64 xp, .slice g1 g2 g3, .int .i64 xr, .int .i64 xq, .int .i64 xs] 35)).alloc (.cells #[.int .i64 0, .int .i64 0, .bool false, .bool false, .slice none 0 0, .int .i64 0, .int .i64 0, .slice none 0 0, .int .i64 0, .int .i64 0, .int .i64 0] 35) = W at *
  have hrW := hr.bel bel
  clear hr
  have hown := Own.new .u8 W 5 w.heap.size bel.size [] (by simp) #[] rfl 0 rfl (by simp)
  have bel1 := bel.alloc bel.size (.cells #[] 5)
  have hrW1 := hrW.bel (bel_alloc W (.cells #[] 5))
  have hzW : w.heap.size + 1 < W.heap.size := br.lt
  replace bx := bx.alloc (.cells #[] 5)
  replace br := br.alloc (.cells #[] 5)
  go_upto_region 2 with (at_builtin; refine wpList_app _ rfl (.tmp 10) (.tmp 11) 24 rfl .u8 w.heap.size 5 i0 (.int .u8 0) 1 Try.underlying24 hi hz0 hz1 hz2 rfl (.slice (some ⟨W.heap.size, 0, none⟩) 0 0) rfl [] hown _ _ _ _ rfl G hrW1.1 (by rw [← hlen.out]; simp; omega) (by decide) (by simp; omega) ?_; intro v1 w1 own1 hg1 _; rw [List.nil_append] at own1; obtain ⟨A1, c1, rfl, hc1, hc2, rd1⟩ := own1.form hlen.out; have bel2 : Below w.heap.size w w1 := bel1.grown hg1 bel1.size (fun k h => by simp [Value.ownBlock] at h; omega); replace bx := bx.grown hg1 (by simp [Value.ownBlock]; omega); replace br := br.grown hg1 (by simp [Value.ownBlock]; omega); clear hg1 hown bel1 rd1 hrW1 hrW; have q1 := bx.cell 1; have q7 := bx.cell 7; have q8 := bx.cell 8; have r1 := bx.frozen 1; have r7 := bx.frozen 7; have r8 := bx.frozen 8)
  clear q1 q7 q8 r1 r7 r8 bel hzW
  replace own1 := Own.updne own1 bx (by decide) (((Upd.one w1 w.heap.size 1 (.int .i64 now)).setCell (p := ⟨w.heap.size, 7, none⟩) (fun _ => rfl) (.slice A1 fn c1)).setCell (p := ⟨w.heap.size, 8, none⟩) (fun _ => rfl) (.int .i64 er))
  replace bx := ((bx.set_ 1 (.int .i64 now)).set_ 7 (.slice A1 fn c1)).set_ 8 (.int .i64 er)
  replace br := ((br.far (p := ⟨w.heap.size, 1, none⟩) (by simp) (.int .i64 now)).far (p := ⟨w.heap.size, 7, none⟩) (by simp) (.slice A1 fn c1)).far (p := ⟨w.heap.size, 8, none⟩) (by simp) (.int .i64 er)
  replace bel2 := ((bel2.setCell (p := ⟨w.heap.size, 1, none⟩) (Nat.le_refl _) (.int .i64 now)).setCell (p := ⟨w.heap.size, 7, none⟩) (Nat.le_refl _) (.slice A1 fn c1)).setCell (p := ⟨w.heap.size, 8, none⟩) (Nat.le_refl _) (.int .i64 er)
  generalize ((w1.setCell ⟨w.heap.size, 1, none⟩ (.int .i64 now)).setCell ⟨w.heap.size, 7, none⟩ (.slice A1 fn c1)).setCell ⟨w.heap.size, 8, none⟩ (.int .i64 er) = W5 at *
  replace bx : Blk W5 w.heap.size 35 #[.int .i64 xb, .int .i64 now, .bool xn, .bool xo, .slice f1 f2 f3, .int .i64 xt, .int .i64 xp, .slice A1 fn c1, .int .i64 er, .int .i64 xq, .int .i64 xs] := bx
  have q6 := bx.cell 6
  have r6 := bx.frozen 6
  go_upto_region 8 with fail
  clear q6 r6
  replace own1 := Own.updne own1 bx (by decide) (Upd.one W5 w.heap.size 6 (.int .i64 (-1)))
  replace bx := bx.set_ 6 (.int .i64 (-1))
  replace br := br.far (p := ⟨w.heap.size, 6, none⟩) (by simp) (.int .i64 (-1))
  replace bel2 := bel2.setCell (p := ⟨w.heap.size, 6, none⟩) (Nat.le_refl _) (.int .i64 (-1))
  generalize W5.setCell ⟨w.heap.size, 6, none⟩ (.int .i64 (-1)) = W6 at *
  replace bx : Blk W6 w.heap.size 35 #[.int .i64 xb, .int .i64 now, .bool xn, .bool xo, .slice f1 f2 f3, .int .i64 xt, .int .i64 (-1), .slice A1 fn c1, .int .i64 er, .int .i64 xq, .int .i64 xs] := bx
  have own2 := Own.updne own1 br (by decide) (Upd.row' W6 (w.heap.size + 1) #[.int .i64 xb, .int .i64 now, .bool xn, .bool xo, .slice f1 f2 f3, .int .i64 xt, .int .i64 (-1), .slice A1 fn c1, .int .i64 er, .int .i64 xq, .int .i64 xs])
  go_wp2_with (first
    | (refine wpList_ldRow rfl rfl rfl bx Try.underlying35 evt_size ?_)
    | (refine wpList_stRow rfl rfl rfl rfl rfl br evt_size rfl (by simp [Value.oneCell']) ?_))
  exact bodyPost_ret (results_row rfl _ rfl (br.setRow _) Try.underlying35 evt_size) rfl ⟨⟨A1, fn, c1⟩, rfl, own2, below_setRow bel2 (by omega) _⟩
set_option maxRecDepth 100000 in
set_option maxHeartbeats 2000000 in
theorem rDone9_any (x : En) (now er : Int) (fA : Option Addr) (fn fc : Nat) (G : List Int) (w : World) (hr : SlR w ⟨fA, fn, fc⟩ G) (hG : G.length ≤ 60000) (h8 : (er == 8) = false) (h9 : (er == 9) = true) :
    Calls Try.prog 21 #[.agg #[.int .i64 x.b, .int .i64 x.e, .bool x.ends, .bool x.out, .slice x.f.A x.f.n x.f.c, .int .i64 x.tick, .int .i64 x.port, .slice x.g.A x.g.n x.g.c, .int .i64 x.err, .int .i64 x.proto, .int .i64 x.pt], .int .i64 now, .slice fA fn fc, .int .i64 er] w (DonR w x now er G (-2)) := by
  obtain ⟨i0, hi, hz0, hz1, hz2⟩ := info_parts info_u8_
  have hlen := hr.1.len
  have hfc := hr.2
  unfold maxLen at hfc
  obtain ⟨xb, xe, xn, xo, ⟨f1, f2, f3⟩, xt, xp, ⟨g1, g2, g3⟩, xr, xq, xs⟩ := x
  simp only at *
  replace hlen := Lib.hid hlen
  go_enter Try.func21, Try.ntmps21
  go_upto_region 1 with fail
  have bx := (Blk.new w 35 #[.int .i64 xb, .int .i64 xe, .bool xn, .bool xo, .slice f1 f2 f3, .int .i64 xt, .int .i64 xp, .slice g1 g2 g3, .int .i64 xr, .int .i64 xq, .int .i64 xs]).alloc (.cells #[.int .i64 0, .int .i64 0, .bool false, .bool false, .slice none 0 0, .int .i64 0, .int .i64 0, .slice none 0 0, .int .i64 0, .int .i64 0, .int .i64 0] 35)
  have br := Blk.new (w.alloc (.cells #[.int .i64 xb, .int .i64 xe, .bool xn, .bool xo, .slice f1 f2 f3, .int .i64 xt, .int .i64 xp, .slice g1 g2 g3, .int .i64 xr, .int .i64 xq, .int .i64 xs] 35)) 35 #[.int .i64 0, .int .i64 0, .bool false, .bool false, .slice none 0 0, .int .i64 0, .int .i64 0, .slice none 0 0, .int .i64 0, .int .i64 0, .int .i64 0]
  rw [show (w.alloc (.cells #[.int .i64 xb, .int .i64 xe, .bool xn, .bool xo, .slice f1 f2 f3, .int .i64 xt, .int .i64 xp, .slice g1 g2 g3, .int .i64 xr, .int .i64 xq, .int .i64 xs] 35)).heap.size = w.heap.size + 1 by simp] at br
  have bel : Below w.heap.size w ((w.alloc (.cells #[.int .i64 xb, .int .i64 xe, .bool xn, .bool xo, .slice f1 f2 f3, .int .i64 xt, .int .i64 xp, .slice g1 g2 g3, .int .i64 xr, .int .i64 xq, .int .i64 xs] 35)).alloc (.cells #[.int .i64 0, .int .i64 0, .bool false, .bool false, .slice none 0 0, .int .i64 0, .int .i64 0, .slice none 0 0, .int .i64 0, .int .i64 0, .int .i64 0] 35)) := (bel_alloc _ _).alloc (by simp) _
  generalize (w.alloc (.cells #[.int .i64 xb, .int .i64 xe, .bool xn, .bool xo, .slice f1 f2 f3, .int .i64 xt, .int .i64 xp, .slice g1 g2 g3, .int .i64 xr, .int .i64 xq, .int .i64 xs] 35)).alloc (.cells #[.int .i64 0, .int .i64 0, .bool false, .bool false, .slice none 0 0, .int .i64 0, .int .i64 0, .slice none 0 0, .int .i64 0, .int .i64 0, .int .i64 0] 35) = W at *
  have hrW := hr.bel bel
  clear hr
  have hown := Own.new .u8 W 5 w.heap.size bel.size [] (by simp) #[] rfl 0 rfl (by simp)
  have bel1 := bel.alloc bel.size (.cells #[] 5)
  have hrW1 := hrW.bel (bel_alloc W (.cells #[] 5))
  have hzW : w.heap.size + 1 < W.heap.size := br.lt
  replace bx := bx.alloc (.cells #[] 5)
  replace br := br.alloc (.cells #[] 5)
  go_upto_region 2 with (at_builtin; refine wpList_app _ rfl (.tmp 10) (.tmp 11) 24 rfl .u8 w.heap.size 5 i0 (.int .u8 0) 1 Try.underlying24 hi hz0 hz1 hz2 rfl (.slice (some ⟨W.heap.size, 0, none⟩) 0 0) rfl [] hown _ _ _ _ rfl G hrW1.1 (by rw [← hlen.out]; simp; omega) (by decide) (by simp; omega) ?_; intro v1 w1 own1 hg1 _; rw [List.nil_append] at own1; obtain ⟨A1, c1, rfl, hc1, hc2, rd1⟩ := own1.form hlen.out; have bel2 : Below w.heap.size w w1 := bel1.grown hg1 bel1.size (fun k h => by simp [Value.ownBlock] at h; omega); replace bx := bx.grown hg1 (by simp [Value.ownBlock]; omega); replace br := br.grown hg1 (by simp [Value.ownBlock]; omega); clear hg1 hown bel1 rd1 hrW1 hrW; have q1 := bx.cell 1; have q7 := bx.cell 7; have q8 := bx.cell 8; have r1 := bx.frozen 1; have r7 := bx.frozen 7; have r8 := bx.frozen 8)
  clear q1 q7 q8 r1 r7 r8 bel hzW
  replace own1 := Own.updne own1 bx (by decide) (((Upd.one w1 w.heap.size 1 (.int .i64 now)).setCell (p := ⟨w.heap.size, 7, none⟩) (fun _ => rfl) (.slice A1 fn c1)).setCell (p := ⟨w.heap.size, 8, none⟩) (fun _ => rfl) (.int .i64 er))
  replace bx := ((bx.set_ 1 (.int .i64 now)).set_ 7 (.slice A1 fn c1)).set_ 8 (.int .i64 er)
  replace br := ((br.far (p := ⟨w.heap.size, 1, none⟩) (by simp) (.int .i64 now)).far (p := ⟨w.heap.size, 7, none⟩) (by simp) (.slice A1 fn c1)).far (p := ⟨w.heap.size, 8, none⟩) (by simp) (.int .i64 er)
  replace bel2 := ((bel2.setCell (p := ⟨w.heap.size, 1, none⟩) (Nat.le_refl _) (.int .i64 now)).setCell (p := ⟨w.heap.size, 7, none⟩) (Nat.le_refl _) (.slice A1 fn c1)).setCell (p := ⟨w.heap.size, 8, none⟩) (Nat.le_refl _) (.int .i64 er)
  generalize ((w1.setCell ⟨w.heap.size, 1, none⟩ (.int .i64 now)).setCell ⟨w.heap.size, 7, none⟩ (.slice A1 fn c1)).setCell ⟨w.heap.size, 8, none⟩ (.int .i64 er) = W5 at *
  replace bx : Blk W5 w.heap.size 35 #[.int .i64 xb, .int .i64 now, .bool xn, .bool xo, .slice f1 f2 f3, .int .i64 xt, .int .i64 xp, .slice A1 fn c1, .int .i64 er, .int .i64 xq, .int .i64 xs] := bx
  have q6 := bx.cell 6
  have r6 := bx.frozen 6
  go_upto_region 8 with fail
  clear q6 r6
  replace own1 := Own.updne own1 bx (by decide) (Upd.one W5 w.heap.size 6 (.int .i64 (-2)))
  replace bx := bx.set_ 6 (.int .i64 (-2))
  replace br := br.far (p := ⟨w.heap.size, 6, none⟩) (by simp) (.int .i64 (-2))
  replace bel2 := bel2.setCell (p := ⟨w.heap.size, 6, none⟩) (Nat.le_refl _) (.int .i64 (-2))
  generalize W5.setCell ⟨w.heap.size, 6, none⟩ (.int .i64 (-2)) = W6 at *
  replace bx : Blk W6 w.heap.size 35 #[.int .i64 xb, .int .i64 now, .bool xn, .bool xo, .slice f1 f2 f3, .int .i64 xt, .int .i64 (-2), .slice A1 fn c1, .int .i64 er, .int .i64 xq, .int .i64 xs] := bx
  have own2 := Own.updne own1 br (by decide) (Upd.row' W6 (w.heap.size + 1) #[.int .i64 xb, .int .i64 now, .bool xn, .bool xo, .slice f1 f2 f3, .int .i64 xt, .int .i64 (-2), .slice A1 fn c1, .int .i64 er, .int .i64 xq, .int .i64 xs])
  go_wp2_with (first
    | (refine wpList_ldRow rfl rfl rfl bx Try.underlying35 evt_size ?_)
    | (refine wpList_stRow rfl rfl rfl rfl rfl br evt_size rfl (by simp [Value.oneCell']) ?_))
  exact bodyPost_ret (results_row rfl _ rfl (br.setRow _) Try.underlying35 evt_size) rfl ⟨⟨A1, fn, c1⟩, rfl, own2, below_setRow bel2 (by omega) _⟩
set_option maxRecDepth 100000 in
set_option maxHeartbeats 2000000 in
theorem rDoneN_any (x : En) (now er : Int) (fA : Option Addr) (fn fc : Nat) (G : List Int) (w : World) (hr : SlR w ⟨fA, fn, fc⟩ G) (hG : G.length ≤ 60000) (h8 : (er == 8) = false) (h9 : (er == 9) = false) (h0 : (er == 0) = true → x.out = false) :
    Calls Try.prog 21 #[.agg #[.int .i64 x.b, .int .i64 x.e, .bool x.ends, .bool x.out, .slice x.f.A x.f.n x.f.c, .int .i64 x.tick, .int .i64 x.port, .slice x.g.A x.g.n x.g.c, .int .i64 x.err, .int .i64 x.proto, .int .i64 x.pt], .int .i64 now, .slice fA fn fc, .int .i64 er] w (DonR w x now er G x.port) := by
  obtain ⟨i0, hi, hz0, hz1, hz2⟩ := info_parts info_u8_
  have hlen := hr.1.len
  have hfc := hr.2
  unfold maxLen at hfc
  obtain ⟨xb, xe, xn, xo, ⟨f1, f2, f3⟩, xt, xp, ⟨g1, g2, g3⟩, xr, xq, xs⟩ := x
  simp only at *
  replace hlen := Lib.hid hlen
  go_enter Try.func21, Try.ntmps21
  go_upto_region 1 with fail
  have bx := (Blk.new w 35 #[.int .i64 xb, .int .i64 xe, .bool xn, .bool xo, .slice f1 f2 f3, .int .i64 xt, .int .i64 xp, .slice g1 g2 g3, .int .i64 xr, .int .i64 xq, .int .i64 xs]).alloc (.cells #[.int .i64 0, .int .i64 0, .bool false, .bool false, .slice none 0 0, .int .i64 0, .int .i64 0, .slice none 0 0, .int .i64 0, .int .i64 0, .int .i64 0] 35)
  have br := Blk.new (w.alloc (.cells #[.int .i64 xb, .int .i64 xe, .bool xn, .bool xo, .slice f1 f2 f3, .int .i64 xt, .int .i64 xp, .slice g1 g2 g3, .int .i64 xr, .int .i64 xq, .int .i64 xs] 35)) 35 #[.int .i64 0, .int .i64 0, .bool false, .bool false, .slice none 0 0, .int .i64 0, .int .i64 0, .slice none 0 0, .int .i64 0, .int .i64 0, .int .i64 0]
  rw [show (w.alloc (.cells #[.int .i64 xb, .int .i64 xe, .bool xn, .bool xo, .slice f1 f2 f3, .int .i64 xt, .int .i64 xp, .slice g1 g2 g3, .int .i64 xr, .int .i64 xq, .int .i64 xs] 35)).heap.size = w.heap.size + 1 by simp] at br
  have bel : Below w.heap.size w ((w.alloc (.cells #[.int .i64 xb, .int .i64 xe, .bool xn, .bool xo, .slice f1 f2 f3, .int .i64 xt, .int .i64 xp, .slice g1 g2 g3, .int .i64 xr, .int .i64 xq, .int .i64 xs] 35)).alloc (.cells #[.int .i64 0, .int .i64 0, .bool false, .bool false, .slice none 0 0, .int .i64 0, .int .i64 0, .slice none 0 0, .int .i64 0, .int .i64 0, .int .i64 0] 35)) := (bel_alloc _ _).alloc (by simp) _
  generalize (w.alloc (.cells #[.int .i64 xb, .int .i64 xe, .bool xn, .bool xo, .slice f1 f2 f3, .int .i64 xt, .int .i64 xp, .slice g1 g2 g3, .int .i64 xr, .int .i64 xq, .int .i64 xs] 35)).alloc (.cells #[.int .i64 0, .int .i64 0, .bool false, .bool false, .slice none 0 0, .int .i64 0, .int .i64 0, .slice none 0 0, .int .i64 0, .int .i64 0, .int .i64 0] 35) = W at *
  have hrW := hr.bel bel
  clear hr
  have hown := Own.new .u8 W 5 w.heap.size bel.size [] (by simp) #[] rfl 0 rfl (by simp)
  have bel1 := bel.alloc bel.size (.cells #[] 5)
  have hrW1 := hrW.bel (bel_alloc W (.cells #[] 5))
  have hzW : w.heap.size + 1 < W.heap.size := br.lt
  replace bx := bx.alloc (.cells #[] 5)
  replace br := br.alloc (.cells #[] 5)
  go_upto_region 2 with (at_builtin; refine wpList_app _ rfl (.tmp 10) (.tmp 11) 24 rfl .u8 w.heap.size 5 i0 (.int .u8 0) 1 Try.underlying24 hi hz0 hz1 hz2 rfl (.slice (some ⟨W.heap.size, 0, none⟩) 0 0) rfl [] hown _ _ _ _ rfl G hrW1.1 (by rw [← hlen.out]; simp; omega) (by decide) (by simp; omega) ?_; intro v1 w1 own1 hg1 _; rw [List.nil_append] at own1; obtain ⟨A1, c1, rfl, hc1, hc2, rd1⟩ := own1.form hlen.out; have bel2 : Below w.heap.size w w1 := bel1.grown hg1 bel1.size (fun k h => by simp [Value.ownBlock] at h; omega); replace bx := bx.grown hg1 (by simp [Value.ownBlock]; omega); replace br := br.grown hg1 (by simp [Value.ownBlock]; omega); clear hg1 hown bel1 rd1 hrW1 hrW; have q1 := bx.cell 1; have q7 := bx.cell 7; have q8 := bx.cell 8; have r1 := bx.frozen 1; have r7 := bx.frozen 7; have r8 := bx.frozen 8)
  clear q1 q7 q8 r1 r7 r8 bel hzW
  replace own1 := Own.updne own1 bx (by decide) (((Upd.one w1 w.heap.size 1 (.int .i64 now)).setCell (p := ⟨w.heap.size, 7, none⟩) (fun _ => rfl) (.slice A1 fn c1)).setCell (p := ⟨w.heap.size, 8, none⟩) (fun _ => rfl) (.int .i64 er))
  replace bx := ((bx.set_ 1 (.int .i64 now)).set_ 7 (.slice A1 fn c1)).set_ 8 (.int .i64 er)
  replace br := ((br.far (p := ⟨w.heap.size, 1, none⟩) (by simp) (.int .i64 now)).far (p := ⟨w.heap.size, 7, none⟩) (by simp) (.slice A1 fn c1)).far (p := ⟨w.heap.size, 8, none⟩) (by simp) (.int .i64 er)
  replace bel2 := ((bel2.setCell (p := ⟨w.heap.size, 1, none⟩) (Nat.le_refl _) (.int .i64 now)).setCell (p := ⟨w.heap.size, 7, none⟩) (Nat.le_refl _) (.slice A1 fn c1)).setCell (p := ⟨w.heap.size, 8, none⟩) (Nat.le_refl _) (.int .i64 er)
  generalize ((w1.setCell ⟨w.heap.size, 1, none⟩ (.int .i64 now)).setCell ⟨w.heap.size, 7, none⟩ (.slice A1 fn c1)).setCell ⟨w.heap.size, 8, none⟩ (.int .i64 er) = W5 at *
  replace bx : Blk W5 w.heap.size 35 #[.int .i64 xb, .int .i64 now, .bool xn, .bool xo, .slice f1 f2 f3, .int .i64 xt, .int .i64 xp, .slice A1 fn c1, .int .i64 er, .int .i64 xq, .int .i64 xs] := bx
  have q3 := bx.cell 3
  cases h : (er == 0) with
  | true =>
    have h1 : xo = false := h0 h
    subst h1
    clear h0
    go_upto_region 8 with fail
    have own2 := Own.updne own1 br (by decide) (Upd.row' W5 (w.heap.size + 1) #[.int .i64 xb, .int .i64 now, .bool xn, .bool false, .slice f1 f2 f3, .int .i64 xt, .int .i64 xp, .slice A1 fn c1, .int .i64 er, .int .i64 xq, .int .i64 xs])
    go_wp2_with (first
      | (refine wpList_ldRow rfl rfl rfl bx Try.underlying35 evt_size ?_)
      | (refine wpList_stRow rfl rfl rfl rfl rfl br evt_size rfl (by simp [Value.oneCell']) ?_))
    exact bodyPost_ret (results_row rfl _ rfl (br.setRow _) Try.underlying35 evt_size) rfl ⟨⟨A1, fn, c1⟩, rfl, own2, below_setRow bel2 (by omega) _⟩
  | false =>
    clear h0
    go_upto_region 8 with fail
    have own2 := Own.updne own1 br (by decide) (Upd.row' W5 (w.heap.size + 1) #[.int .i64 xb, .int .i64 now, .bool xn, .bool xo, .slice f1 f2 f3, .int .i64 xt, .int .i64 xp, .slice A1 fn c1, .int .i64 er, .int .i64 xq, .int .i64 xs])
    go_wp2_with (first
      | (refine wpList_ldRow rfl rfl rfl bx Try.underlying35 evt_size ?_)
      | (refine wpList_stRow rfl rfl rfl rfl rfl br evt_size rfl (by simp [Value.oneCell']) ?_))
    exact bodyPost_ret (results_row rfl _ rfl (br.setRow _) Try.underlying35 evt_size) rfl ⟨⟨A1, fn, c1⟩, rfl, own2, below_setRow bel2 (by omega) _⟩
set_option maxRecDepth 100000 in
set_option maxHeartbeats 2000000 in
theorem rDone0_any (x : En) (now er : Int) (fA : Option Addr) (fn fc : Nat) (G : List Int) (w : World) (hr : SlR w ⟨fA, fn, fc⟩ G) (hG : G.length ≤ 60000) (h8 : (er == 8) = false) (h9 : (er == 9) = false) (h0 : (er == 0) = true) (hout : x.out = true) (hsr : 0 ≤ (partI G).1.src ∧ (partI G).1.src ≤ 65535) :
    Calls Try.prog 21 #[.agg #[.int .i64 x.b, .int .i64 x.e, .bool x.ends, .bool x.out, .slice x.f.A x.f.n x.f.c, .int .i64 x.tick, .int .i64 x.port, .slice x.g.A x.g.n x.g.c, .int .i64 x.err, .int .i64 x.proto, .int .i64 x.pt], .int .i64 now, .slice fA fn fc, .int .i64 er] w (DonR w x now er G (fromI G)) := by
  have hr0 := Lib.hid hr
  replace hsr := Lib.hid hsr
  replace hout := Lib.hid hout
  obtain ⟨i0, hi, hz0, hz1, hz2⟩ := info_parts info_u8_
  have hlen := hr.1.len
  have hfc := hr.2
  unfold maxLen at hfc
  obtain ⟨xb, xe, xn, xo, ⟨f1, f2, f3⟩, xt, xp, ⟨g1, g2, g3⟩, xr, xq, xs⟩ := x
  simp only at *
  replace hlen := Lib.hid hlen
  go_enter Try.func21, Try.ntmps21
  go_upto_region 1 with fail
  have bx := (Blk.new w 35 #[.int .i64 xb, .int .i64 xe, .bool xn, .bool xo, .slice f1 f2 f3, .int .i64 xt, .int .i64 xp, .slice g1 g2 g3, .int .i64 xr, .int .i64 xq, .int .i64 xs]).alloc (.cells #[.int .i64 0, .int .i64 0, .bool false, .bool false, .slice none 0 0, .int .i64 0, .int .i64 0, .slice none 0 0, .int .i64 0, .int .i64 0, .int .i64 0] 35)
  have br := Blk.new (w.alloc (.cells #[.int .i64 xb, .int .i64 xe, .bool xn, .bool xo, .slice f1 f2 f3, .int .i64 xt, .int .i64 xp, .slice g1 g2 g3, .int .i64 xr, .int .i64 xq, .int .i64 xs] 35)) 35 #[.int .i64 0, .int .i64 0, .bool false, .bool false, .slice none 0 0, .int .i64 0, .int .i64 0, .slice none 0 0, .int .i64 0, .int .i64 0, .int .i64 0]
  rw [show (w.alloc (.cells #[.int .i64 xb, .int .i64 xe, .bool xn, .bool xo, .slice f1 f2 f3, .int .i64 xt, .int .i64 xp, .slice g1 g2 g3, .int .i64 xr, .int .i64 xq, .int .i64 xs] 35)).heap.size = w.heap.size + 1 by simp] at br
  have bel : Below w.heap.size w ((w.alloc (.cells #[.int .i64 xb, .int .i64 xe, .bool xn, .bool xo, .slice f1 f2 f3, .int .i64 xt, .int .i64 xp, .slice g1 g2 g3, .int .i64 xr, .int .i64 xq, .int .i64 xs] 35)).alloc (.cells #[.int .i64 0, .int .i64 0, .bool false, .bool false, .slice none 0 0, .int .i64 0, .int .i64 0, .slice none 0 0, .int .i64 0, .int .i64 0, .int .i64 0] 35)) := (bel_alloc _ _).alloc (by simp) _
  generalize (w.alloc (.cells #[.int .i64 xb, .int .i64 xe, .bool xn, .bool xo, .slice f1 f2 f3, .int .i64 xt, .int .i64 xp, .slice g1 g2 g3, .int .i64 xr, .int .i64 xq, .int .i64 xs] 35)).alloc (.cells #[.int .i64 0, .int .i64 0, .bool false, .bool false, .slice none 0 0, .int .i64 0, .int .i64 0, .slice none 0 0, .int .i64 0, .int .i64 0, .int .i64 0] 35) = W at *
  have hrW := hr.bel bel
  clear hr
  have hown := Own.new .u8 W 5 w.heap.size bel.size [] (by simp) #[] rfl 0 rfl (by simp)
  have bel1 := bel.alloc bel.size (.cells #[] 5)
  have hrW1 := hrW.bel (bel_alloc W (.cells #[] 5))
  have hzW : w.heap.size + 1 < W.heap.size := br.lt
  replace bx := bx.alloc (.cells #[] 5)
  replace br := br.alloc (.cells #[] 5)
  go_upto_region 2 with (at_builtin; refine wpList_app _ rfl (.tmp 10) (.tmp 11) 24 rfl .u8 w.heap.size 5 i0 (.int .u8 0) 1 Try.underlying24 hi hz0 hz1 hz2 rfl (.slice (some ⟨W.heap.size, 0, none⟩) 0 0) rfl [] hown _ _ _ _ rfl G hrW1.1 (by rw [← hlen.out]; simp; omega) (by decide) (by simp; omega) ?_; intro v1 w1 own1 hg1 _; rw [List.nil_append] at own1; obtain ⟨A1, c1, rfl, hc1, hc2, rd1⟩ := own1.form hlen.out; have bel2 : Below w.heap.size w w1 := bel1.grown hg1 bel1.size (fun k h => by simp [Value.ownBlock] at h; omega); replace bx := bx.grown hg1 (by simp [Value.ownBlock]; omega); replace br := br.grown hg1 (by simp [Value.ownBlock]; omega); clear hg1 hown bel1 rd1 hrW1 hrW; have q1 := bx.cell 1; have q7 := bx.cell 7; have q8 := bx.cell 8; have r1 := bx.frozen 1; have r7 := bx.frozen 7; have r8 := bx.frozen 8)
  clear q1 q7 q8 r1 r7 r8 bel hzW
  replace own1 := Own.updne own1 bx (by decide) (((Upd.one w1 w.heap.size 1 (.int .i64 now)).setCell (p := ⟨w.heap.size, 7, none⟩) (fun _ => rfl) (.slice A1 fn c1)).setCell (p := ⟨w.heap.size, 8, none⟩) (fun _ => rfl) (.int .i64 er))
  replace bx := ((bx.set_ 1 (.int .i64 now)).set_ 7 (.slice A1 fn c1)).set_ 8 (.int .i64 er)
  replace br := ((br.far (p := ⟨w.heap.size, 1, none⟩) (by simp) (.int .i64 now)).far (p := ⟨w.heap.size, 7, none⟩) (by simp) (.slice A1 fn c1)).far (p := ⟨w.heap.size, 8, none⟩) (by simp) (.int .i64 er)
  replace bel2 := ((bel2.setCell (p := ⟨w.heap.size, 1, none⟩) (Nat.le_refl _) (.int .i64 now)).setCell (p := ⟨w.heap.size, 7, none⟩) (Nat.le_refl _) (.slice A1 fn c1)).setCell (p := ⟨w.heap.size, 8, none⟩) (Nat.le_refl _) (.int .i64 er)
  generalize ((w1.setCell ⟨w.heap.size, 1, none⟩ (.int .i64 now)).setCell ⟨w.heap.size, 7, none⟩ (.slice A1 fn c1)).setCell ⟨w.heap.size, 8, none⟩ (.int .i64 er) = W5 at *
  replace bx : Blk W5 w.heap.size 35 #[.int .i64 xb, .int .i64 now, .bool xn, .bool xo, .slice f1 f2 f3, .int .i64 xt, .int .i64 xp, .slice A1 fn c1, .int .i64 er, .int .i64 xq, .int .i64 xs] := bx
  replace hout : xo = true := hout.out
  subst hout
  have hrw : SlR W5 ⟨fA, fn, fc⟩ G := hr0.out.bel bel2
  have ko := rOwn_any G fA fn fc W5 hrw.1 hfc.1 hfc.2 (by rw [← hlen.out]; exact hG) hsr.out
  generalize fromI G = po at *
  replace ko := Lib.hid ko
  clear hr0 hrw
  have q3 := bx.cell 3
  go_wp2_with fail
  refine ko.out.mono ?_
  clear ko q3
  rintro e w6 ⟨rfl, hb6⟩
  replace bx := bx.bel hb6
  replace br := br.bel hb6
  replace own1 := Own.below own1 hb6
  replace bel2 := bel_after bel2 hb6
  clear hb6
  clear W5
  obtain ⟨W5, rfl⟩ : ∃ W : World, W = w6 := ⟨_, rfl⟩
  have q6 := bx.cell 6
  have r6 := bx.frozen 6
  go_upto_region 8 with fail
  clear q6 r6
  replace own1 := Own.updne own1 bx (by decide) (Upd.one W5 w.heap.size 6 (.int .i64 (po)))
  replace bx := bx.set_ 6 (.int .i64 (po))
  replace br := br.far (p := ⟨w.heap.size, 6, none⟩) (by simp) (.int .i64 (po))
  replace bel2 := bel2.setCell (p := ⟨w.heap.size, 6, none⟩) (Nat.le_refl _) (.int .i64 (po))
  generalize W5.setCell ⟨w.heap.size, 6, none⟩ (.int .i64 (po)) = W6 at *
  replace bx : Blk W6 w.heap.size 35 #[.int .i64 xb, .int .i64 now, .bool xn, .bool true, .slice f1 f2 f3, .int .i64 xt, .int .i64 (po), .slice A1 fn c1, .int .i64 er, .int .i64 xq, .int .i64 xs] := bx
  have own2 := Own.updne own1 br (by decide) (Upd.row' W6 (w.heap.size + 1) #[.int .i64 xb, .int .i64 now, .bool xn, .bool true, .slice f1 f2 f3, .int .i64 xt, .int .i64 (po), .slice A1 fn c1, .int .i64 er, .int .i64 xq, .int .i64 xs])
  go_wp2_with (first
    | (refine wpList_ldRow rfl rfl rfl bx Try.underlying35 evt_size ?_)
    | (refine wpList_stRow rfl rfl rfl rfl rfl br evt_size rfl (by simp [Value.oneCell']) ?_))
  exact bodyPost_ret (results_row rfl _ rfl (br.setRow _) Try.underlying35 evt_size) rfl ⟨⟨A1, fn, c1⟩, rfl, own2, below_setRow bel2 (by omega) _⟩
theorem wpList_ldAtGd {P : Program} {ops : Array Oper} {Q : Exit → Act → World → Prop} {a : Act} {w : World} {rest : List Oper} {o : Oper} (hg : Region.wanted o (yielded ops a.tmps) = true) {t : TypeId} {p : Operand} (ho : o.op = .load t p) {g i : Nat} (hp : a.eval p = .pointer (some ⟨g, i, none⟩)) {cs : List Value}
    (hc : ∀ j u, cs[j]? = some u → w.cell? ⟨g, i + j, none⟩ = some u) {fs : Array Field} (hu : P.underlying t = some (.struct fs)) (hi : (P.info? t).map (·.size) = some cs.length) (h : wpList P ops Q rest (a.put o.dst (.agg cs.toArray)) w) : wpList P ops Q (o :: rest) a w := by
  refine wpList_step fun K hK => ?_
  rw [if_pos hg]
  have hr : (execOp a.eval o).run P w = .ok (.value (.agg cs.toArray)) w := by
    have h2 := run_load_at (P := P) hc hu hi
    simp only [execOp, ho, hp, Instr.loadAt, Instr.sureAddr, Sem.run_bind, Sem.run_pure, Result.andThen, h2]
  unfold Oper.wp
  rw [hr, Oper.upon_value]
  exact hK _ _ h
set_option maxRecDepth 100000 in
set_option maxHeartbeats 2000000 in
theorem rsame_any (ou : Bool) (ti po : Int) (A A' : Option Addr) (n c n' c' : Nat) (F : List Int) (w : World) (h1 : SlR w ⟨A, n, c⟩ F) (h2 : SlR w ⟨A', n', c'⟩ F) :
    Calls Try.prog 34 #[.agg #[.bool ou, .slice A n c, .int .i64 ti, .int .i64 po], .agg #[.bool ou, .slice A' n' c', .int .i64 ti, .int .i64 po]] w fun e w' => e = .returned (.bool true) ∧ Below w.heap.size w w' := by
  go_enter Try.func34, Try.ntmps34
  go_upto_region 1 with fail
  have bx := (Blk.new w 33 #[.bool ou, .slice A n c, .int .i64 ti, .int .i64 po]).alloc (.cells #[.bool ou, .slice A' n' c', .int .i64 ti, .int .i64 po] 33)
  have by_ := Blk.new (w.alloc (.cells #[.bool ou, .slice A n c, .int .i64 ti, .int .i64 po] 33)) 33 #[.bool ou, .slice A' n' c', .int .i64 ti, .int .i64 po]
  rw [show (w.alloc (.cells #[.bool ou, .slice A n c, .int .i64 ti, .int .i64 po] 33)).heap.size = w.heap.size + 1 by simp] at by_
  have bel : Below w.heap.size w ((w.alloc (.cells #[.bool ou, .slice A n c, .int .i64 ti, .int .i64 po] 33)).alloc (.cells #[.bool ou, .slice A' n' c', .int .i64 ti, .int .i64 po] 33)) := (bel_alloc _ _).alloc (by simp) _
  generalize (w.alloc (.cells #[.bool ou, .slice A n c, .int .i64 ti, .int .i64 po] 33)).alloc (.cells #[.bool ou, .slice A' n' c', .int .i64 ti, .int .i64 po] 33) = W at *
  have s1 := conv_rd (P := Try.prog) (h1.bel bel).1 24 5 9 (cap := c) Try.underlying24 Try.underlying5 Try.underlying9
  have s2 := conv_rd (P := Try.prog) (h2.bel bel).1 24 5 9 (cap := c') Try.underlying24 Try.underlying5 Try.underlying9
  clear h1 h2
  have q0 := bx.cell 0
  have q1 := bx.cell 1
  have q2 := bx.cell 2
  have q3 := bx.cell 3
  have p0 := by_.cell 0
  have p1 := by_.cell 1
  have p2 := by_.cell 2
  have p3 := by_.cell 3
  generalize strOfNums F = sF at *
  go_wp2
  go_ret
  exact ⟨rfl, bel⟩
set_option maxRecDepth 100000 in
set_option maxHeartbeats 4000000 in
theorem pSame_any (x : En) (s t : Sl) (F G : List Int) (w : World) (h1 : SlR w x.f F) (h2 : SlR w s F) (h3 : SlR w x.g G) (h4 : SlR w t G) :
    Calls Try.prog 22 #[.agg #[.int .i64 x.b, .int .i64 x.e, .bool x.ends, .bool x.out, .slice x.f.A x.f.n x.f.c, .int .i64 x.tick, .int .i64 x.port, .slice x.g.A x.g.n x.g.c, .int .i64 x.err, .int .i64 x.proto, .int .i64 x.pt], .agg #[.int .i64 { x with f := s, g := t }.b, .int .i64 { x with f := s, g := t }.e, .bool { x with f := s, g := t }.ends, .bool { x with f := s, g := t }.out, .slice { x with f := s, g := t }.f.A { x with f := s, g := t }.f.n { x with f := s, g := t }.f.c, .int .i64 { x with f := s, g := t }.tick, .int .i64 { x with f := s, g := t }.port, .slice { x with f := s, g := t }.g.A { x with f := s, g := t }.g.n { x with f := s, g := t }.g.c, .int .i64 { x with f := s, g := t }.err, .int .i64 { x with f := s, g := t }.proto, .int .i64 { x with f := s, g := t }.pt]] w fun e w' => e = .returned (.bool true) ∧ Below w.heap.size w w' := by
  obtain ⟨xb, xe, xn, xo, ⟨f1, f2, f3⟩, xt, xp, ⟨g1, g2, g3⟩, xr, xq, xs⟩ := x
  obtain ⟨s1, s2, s3⟩ := s
  obtain ⟨t1, t2, t3⟩ := t
  simp only at *
  go_enter Try.func22, Try.ntmps22
  go_upto_region 1 with fail
  have bx := (Blk.new w 35 #[.int .i64 xb, .int .i64 xe, .bool xn, .bool xo, .slice f1 f2 f3, .int .i64 xt, .int .i64 xp, .slice g1 g2 g3, .int .i64 xr, .int .i64 xq, .int .i64 xs]).alloc (.cells #[.int .i64 xb, .int .i64 xe, .bool xn, .bool xo, .slice s1 s2 s3, .int .i64 xt, .int .i64 xp, .slice t1 t2 t3, .int .i64 xr, .int .i64 xq, .int .i64 xs] 35)
  have by_ := Blk.new (w.alloc (.cells #[.int .i64 xb, .int .i64 xe, .bool xn, .bool xo, .slice f1 f2 f3, .int .i64 xt, .int .i64 xp, .slice g1 g2 g3, .int .i64 xr, .int .i64 xq, .int .i64 xs] 35)) 35 #[.int .i64 xb, .int .i64 xe, .bool xn, .bool xo, .slice s1 s2 s3, .int .i64 xt, .int .i64 xp, .slice t1 t2 t3, .int .i64 xr, .int .i64 xq, .int .i64 xs]
  rw [show (w.alloc (.cells #[.int .i64 xb, .int .i64 xe, .bool xn, .bool xo, .slice f1 f2 f3, .int .i64 xt, .int .i64 xp, .slice g1 g2 g3, .int .i64 xr, .int .i64 xq, .int .i64 xs] 35)).heap.size = w.heap.size + 1 by simp] at by_
  have bel : Below w.heap.size w ((w.alloc (.cells #[.int .i64 xb, .int .i64 xe, .bool xn, .bool xo, .slice f1 f2 f3, .int .i64 xt, .int .i64 xp, .slice g1 g2 g3, .int .i64 xr, .int .i64 xq, .int .i64 xs] 35)).alloc (.cells #[.int .i64 xb, .int .i64 xe, .bool xn, .bool xo, .slice s1 s2 s3, .int .i64 xt, .int .i64 xp, .slice t1 t2 t3, .int .i64 xr, .int .i64 xq, .int .i64 xs] 35)) := (bel_alloc _ _).alloc (by simp) _
  generalize (w.alloc (.cells #[.int .i64 xb, .int .i64 xe, .bool xn, .bool xo, .slice f1 f2 f3, .int .i64 xt, .int .i64 xp, .slice g1 g2 g3, .int .i64 xr, .int .i64 xq, .int .i64 xs] 35)).alloc (.cells #[.int .i64 xb, .int .i64 xe, .bool xn, .bool xo, .slice s1 s2 s3, .int .i64 xt, .int .i64 xp, .slice t1 t2 t3, .int .i64 xr, .int .i64 xq, .int .i64 xs] 35) = W at *
  have ks := rsame_any xo xt xp f1 s1 f2 f3 s2 s3 F W (h1.bel bel) (h2.bel bel)
  have h3' := h3.bel bel
  have h4' := h4.bel bel
  have yx : ∀ j u, ([.bool xo, .slice f1 f2 f3, .int .i64 xt, .int .i64 xp] : List Value)[j]? = some u → W.cell? ⟨w.heap.size, 3 + j, none⟩ = some u := fun j u hu => by
    rw [bx.cell, ← hu]
    match j with
    | 0 | 1 | 2 | 3 => rfl
    | j + 4 => simp at hu
  have yy : ∀ j u, ([.bool xo, .slice s1 s2 s3, .int .i64 xt, .int .i64 xp] : List Value)[j]? = some u → W.cell? ⟨w.heap.size + 1, 3 + j, none⟩ = some u := fun j u hu => by
    rw [by_.cell, ← hu]
    match j with
    | 0 | 1 | 2 | 3 => rfl
    | j + 4 => simp at hu
  clear h1 h2 h3 h4
  replace ks := Lib.hid ks
  replace yx := Lib.hid yx
  replace yy := Lib.hid yy
  have q0 := bx.cell 0
  have q1 := bx.cell 1
  have q2 := bx.cell 2
  have p0 := by_.cell 0
  have p1 := by_.cell 1
  have p2 := by_.cell 2
  go_wp2_with (first | (refine wpList_ldAtGd (by rfl) rfl rfl yx.out Try.underlying33 cal_size ?_) | (refine wpList_ldAtGd (by rfl) rfl rfl yy.out Try.underlying33 cal_size ?_))
  refine ks.out.mono ?_
  rintro e w2 ⟨rfl, hb2⟩
  replace bx := bx.bel hb2
  replace by_ := by_.bel hb2
  replace bel := bel_after bel hb2
  have s1_ := conv_rd (P := Try.prog) (h3'.bel hb2).1 24 5 9 (cap := g3) Try.underlying24 Try.underlying5 Try.underlying9
  have s2_ := conv_rd (P := Try.prog) (h4'.bel hb2).1 24 5 9 (cap := t3) Try.underlying24 Try.underlying5 Try.underlying9
  clear q0 q1 q2 p0 p1 p2 ks yx yy h3' h4' hb2
  have q7 := bx.cell 7
  have q8 := bx.cell 8
  have q9 := bx.cell 9
  have q10 := bx.cell 10
  have p7 := by_.cell 7
  have p8 := by_.cell 8
  have p9 := by_.cell 9
  have p10 := by_.cell 10
  generalize strOfNums G = sG at *
  go_wp2_with fail
  go_ret
  exact ⟨rfl, bel⟩
end Go.Proofs.Ytjaacmecniijgaa
