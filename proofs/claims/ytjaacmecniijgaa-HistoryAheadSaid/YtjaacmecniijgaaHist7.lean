/- The walks of package history: End, where no port follows from the answer. -/
import Derived.Test.YtjaacmecniijgaaHist6
namespace Go.Proofs.Ytjaacmecniijgaa
set_option linter.unusedVariables false
set_option linter.unusedSimpArgs false
open Go.RowKit
theorem grown_set (w : World) (g j : Nat) (u : Value) : w.grownBy (w.setCell ⟨g, j, none⟩ u) (some g) := ⟨rfl, rfl, rfl, by simp, fun k _ hk => heap_setCell_other w ⟨g, j, none⟩ k u (fun e => hk (by simp [e]))⟩
theorem HisM.setF {W : World} {base gh g n c : Nat} {now : Int} {l : List En} (h : HisM W base gh now (.slice (some ⟨g, 0, none⟩) n c) l) (hn : l.length = n) {i : Nat} {x x' : En} (hx : l[i]? = some x) {f : Nat} {u : Value} (hf : f < 11) (hx' : x'.cs = x.cs.set f u) :
    HisM (W.setCell ⟨g, i * 11 + f, none⟩ u) base gh now (.slice (some ⟨g, 0, none⟩) n c) (l.set i x') :=
  ⟨h.obj.far (p := ⟨g, i * 11 + f, none⟩) (fun e => h.row_ne (by rw [e]; rfl)) u, h.row.setF En.cs_len hn hx hf hx'⟩
/-- what End leaves of an entry -/
def endE (x : En) (now er : Int) (t : Sl) : En := { x with e := now, g := t, err := er }
def EndR (w : World) (base gh : Nat) (now er : Int) (v : Value) (l : List En) (i : Nat) (x : En) (G : List Int) (e : Ending) (w' : World) : Prop :=
  ∃ t, e = .returned (.int .i64 0) ∧ HisM w' base gh (now + 1) v (l.set i (endE x (now + 1) er t)) ∧ SlO w' w.heap.size t G ∧ Upd (fun k => k = gh ∨ v.ownBlock = some k) w w'
set_option maxRecDepth 100000 in
set_option maxHeartbeats 4000000 in
theorem hEnd_any (i : Nat) (fA : Option Addr) (fn fc : Nat) (er : Int) (G : List Int) (base gh : Nat) (now : Int) (v : Value) (l : List En) (x : En) (w : World) (hm : HisM w base gh now v l) (hbase : base ≤ w.heap.size) (hl : l.length ≤ 100) (hnow : 0 ≤ now ∧ now ≤ 1000) (hr : SlR w ⟨fA, fn, fc⟩ G) (hG : G.length ≤ 60000)
    (hx : l[i]? = some x) (he1 : x.ends = false) (he2 : x.e = -1) (h8 : (er == 8) = false) (h9 : (er == 9) = false) (h0 : (er == 0) = true → x.out = false) :
    Calls Try.prog 15 #[.pointer (some ⟨gh, 0, none⟩), .int .i64 i, .agg #[.slice fA fn fc, .int .i64 er]] w (EndR w base gh now er v l i x G) := by
  obtain ⟨n, hn⟩ : ∃ n, l.length = n := ⟨_, rfl⟩
  have hi : i < n := by have := (List.getElem?_eq_some_iff.1 hx).1; omega
  obtain ⟨g, c, rfl, hnc, hcm, hgb, hglt, _⟩ := hm.row.formG hn (by omega)
  unfold maxLen at hcm
  have hne : g ≠ gh := fun e => hm.row_ne (by rw [e]; rfl)
  have hgl := hm.obj.lt
  have q0 := hm.obj.cell 0
  have q1 := hm.obj.cell 1
  have f0 := hm.obj.frozen 0
  have c1 := hm.row.at_ En.cs_len hx (f := 1) rfl
  have c2 := hm.row.at_ En.cs_len hx (f := 2) rfl
  rw [he1] at c2
  rw [he2] at c1
  have i0 : (0 : Int) ≤ (i : Int) := by omega
  have i1 : (i : Int) < (n : Int) := by omega
  have d1 : decide ((n : Int) ≤ (i : Int)) = false := by simp; omega
  have d2 : decide (n ≤ i) = false := by simp; omega
  have kc := fun W (hW : SlR W ⟨fA, fn, fc⟩ G) => SClone_any G ⟨fA, fn, fc⟩ W hW hG
  simp only at kc
  replace kc := Lib.hid kc
  replace hn := Lib.hid hn
  replace hx := Lib.hid hx
  replace he1 := Lib.hid he1
  replace he2 := Lib.hid he2
  replace h0 := Lib.hid h0
  go_enter Try.func15, Try.ntmps15
  go_upto_region 5 with fail
  have up0 : Upd (fun k => k = gh) w ((w.setCell ⟨gh, 0, none⟩ (.int .i64 (now + 1))).alloc (.cells #[.slice fA fn fc, .int .i64 er] 29)) := (Upd.one w gh 0 _).alloc _
  have bx := Blk.new (w.setCell ⟨gh, 0, none⟩ (.int .i64 (now + 1))) 29 #[.slice fA fn fc, .int .i64 er]
  rw [show (w.setCell ⟨gh, 0, none⟩ (.int .i64 (now + 1))).heap.size = w.heap.size by simp [World.setCell]] at bx
  have hM : HisM ((w.setCell ⟨gh, 0, none⟩ (.int .i64 (now + 1))).alloc (.cells #[.slice fA fn fc, .int .i64 er] 29)) base gh (now + 1) (.slice (some ⟨g, 0, none⟩) n c) l :=
    ⟨(hm.obj.set_ 0 _).alloc _, (hm.row.upd (Upd.one _ gh 0 _) (fun k e e2 => by simp [Value.ownBlock] at e; omega)).alloc _⟩
  have hr2 : SlR ((w.setCell ⟨gh, 0, none⟩ (.int .i64 (now + 1))).alloc (.cells #[.slice fA fn fc, .int .i64 er] 29)) ⟨fA, fn, fc⟩ G := by
    refine ⟨⟨hr.1.len, hr.1.rng, fun hn => ?_⟩, hr.2⟩
    obtain ⟨b, o, e, hlt, hc⟩ := hr.1.cel hn
    have hbg : b ≠ gh := fun e => by
      have h0 := hc 0 hn
      rw [e, hm.obj.cell] at h0
      have h1 : ∀ j : Nat, (#[Value.int .i64 now, .slice (some ⟨g, 0, none⟩) n c] : Array Value)[j]? ≠ some (Value.int .u8 (G.getD 0 0)) := by
        intro j h
        match j with
        | 0 => simp at h
        | 1 => simp at h
        | k + 2 => simp at h
      exact h1 _ h0
    exact ⟨b, o, e, by have := up0.size; omega, fun j hj => (World.cell?_of_block (up0.block b (by omega) hbg)).trans (hc j hj)⟩
  generalize (w.setCell ⟨gh, 0, none⟩ (.int .i64 (now + 1))).alloc (.cells #[.slice fA fn fc, .int .i64 er] 29) = W at *
  clear q0 q1 f0 c1 c2 d1 d2 hm hr
  have z1 : ∀ t : Tw (fun w' => w'.cell? ⟨gh, 0, none⟩ = some (.int .i64 (now + 1)) ∧ w'.cell? ⟨w.heap.size, 0, none⟩ = some (.slice fA fn fc) ∧ w'.cell? ⟨w.heap.size, 1, none⟩ = some (.int .i64 er)), t.w.cell? ⟨gh, 0, none⟩ = some (.int .i64 (now + 1)) := fun t => t.h.1
  have z2 : ∀ t : Tw (fun w' => w'.cell? ⟨gh, 0, none⟩ = some (.int .i64 (now + 1)) ∧ w'.cell? ⟨w.heap.size, 0, none⟩ = some (.slice fA fn fc) ∧ w'.cell? ⟨w.heap.size, 1, none⟩ = some (.int .i64 er)), t.w.cell? ⟨w.heap.size, 0, none⟩ = some (.slice fA fn fc) := fun t => t.h.2.1
  have z3 : ∀ t : Tw (fun w' => w'.cell? ⟨gh, 0, none⟩ = some (.int .i64 (now + 1)) ∧ w'.cell? ⟨w.heap.size, 0, none⟩ = some (.slice fA fn fc) ∧ w'.cell? ⟨w.heap.size, 1, none⟩ = some (.int .i64 er)), t.w.cell? ⟨w.heap.size, 1, none⟩ = some (.int .i64 er) := fun t => t.h.2.2
  have zz : Nonempty (Tw (fun w' => w'.cell? ⟨gh, 0, none⟩ = some (.int .i64 (now + 1)) ∧ w'.cell? ⟨w.heap.size, 0, none⟩ = some (.slice fA fn fc) ∧ w'.cell? ⟨w.heap.size, 1, none⟩ = some (.int .i64 er))) := ⟨⟨_, hM.obj.cell 0, bx.cell 0, bx.cell 1⟩⟩
  replace bx := bx.drew
  replace up0 := up0.drew
  replace hM : HisM W.drew base gh (now + 1) (.slice (some ⟨g, 0, none⟩) n c) l := ⟨hM.obj.drew, hM.row.drew⟩
  replace hr2 : SlR W.drew ⟨fA, fn, fc⟩ G := ⟨hr2.1.drew, hr2.2⟩
  refine wp_region_plan (fun w' => w'.cell? ⟨gh, 0, none⟩ = some (.int .i64 (now + 1)) ∧ w'.cell? ⟨w.heap.size, 0, none⟩ = some (.slice fA fn fc) ∧ w'.cell? ⟨w.heap.size, 1, none⟩ = some (.int .i64 er)) [(0, true), (1, true), (2, true), (3, true), (4, true), (5, true), (6, true), (7, true), (9, true), (10, true), (8, false), (11, true), (12, true), (13, true), (14, false), (15, true), (16, true), (17, false)] (by kernel_rfl) (by kernel_rfl) (by kernel_rfl) (by kernel_rfl) ⟨hM.obj.cell 0, bx.cell 0, bx.cell 1⟩ ?_
  generalize W.drew = W1 at *
  refine wpPl_qs 10 _ _ _ (by kernel_rfl) (by kernel_rfl) (by simp) ?_
  unfold clsS
  simp only [List.take_succ_cons, List.take_zero, List.drop_succ_cons, List.drop_zero, List.filterMap_cons, List.filterMap_nil, List.getElem?_toArray, List.getElem?_cons_zero, List.getElem?_cons_succ]
  repeat (first
    | go_big_quiet_skip
    | (go_big_quiet_want; go_big_quiet_op; go_big_quiet_on)
    | (refine id (?_ : wpQuiet _ _ _ _ (_ :: _) _); first | go_big_quiet_skip | (go_big_quiet_want; go_big_quiet_op; go_big_quiet_on)))
  refine wpQuiet_nil ?_
  refine wpPl_e _ (by rfl) (by kernel_rfl) (fun K hK => ?_)
  go_simp
  refine (kc.out _ hr2).mono ?_
  rintro e w2 ⟨t, rfl, ht, hb⟩
  replace ht : SlO w2 w.heap.size t G := SlO.lower ht up0.size
  replace bx := bx.bel hb
  replace hM : HisM w2 base gh (now + 1) (.slice (some ⟨g, 0, none⟩) n c) l := ⟨hM.obj.bel hb, hM.row.below hb⟩
  have up2 : Upd (fun k => k = gh ∨ (Value.slice (some ⟨g, 0, none⟩) n c).ownBlock = some k) w w2 := (up0.mono (fun _ _ h => .inl h)).trans (Upd.of_below hb _)
  clear hb kc hr2 up0
  refine hK _ _ ⟨hM.obj.cell 0, bx.cell 0, bx.cell 1⟩ ?_
  clear hK K
  refine wpPl_qs 3 _ _ _ (by kernel_rfl) (by kernel_rfl) (by simp) ?_
  unfold clsS
  simp only [List.take_succ_cons, List.take_zero, List.drop_succ_cons, List.drop_zero, List.filterMap_cons, List.filterMap_nil, List.getElem?_toArray, List.getElem?_cons_zero, List.getElem?_cons_succ]
  repeat (first
    | go_big_quiet_skip
    | (go_big_quiet_want; go_big_quiet_op; go_big_quiet_on)
    | (refine id (?_ : wpQuiet _ _ _ _ (_ :: _) _); first | go_big_quiet_skip | (go_big_quiet_want; go_big_quiet_op; go_big_quiet_on)))
  refine wpQuiet_nil ?_
  refine wpPl_e _ (by rfl) (by kernel_rfl) (fun K hK => ?_)
  have f1 := hM.row.frozen hn.out (i * 11 + 1)
  have c1 := hM.row.at_ En.cs_len hx.out (f := 1) rfl
  go_simp
  have hbg : w.heap.size ≠ g := by omega
  have hgv : (Value.slice (some ⟨g, 0, none⟩) n c).ownBlock = some g := rfl
  have hlt1 := (List.getElem?_eq_some_iff.1 hx.out).1
  replace ht := ht.grownT hM.row (grown_set w2 g (i * 11 + 1) (.int .i64 (now + 1)))
  replace bx := bx.far (p := ⟨g, i * 11 + 1, none⟩) hbg (.int .i64 (now + 1))
  replace up2 := up2.setCell (p := ⟨g, i * 11 + 1, none⟩) (fun _ => .inr hgv) (.int .i64 (now + 1))
  replace hM := hM.setF hn.out hx.out (x' := { x with e := now + 1 }) (f := 1) (u := .int .i64 (now + 1)) (by decide) rfl
  have hn2 : (l.set i { x with e := now + 1 }).length = n := by rw [List.length_set]; exact hn.out
  have hx2 : (l.set i { x with e := now + 1 })[i]? = some { x with e := now + 1 } := List.getElem?_set_self hlt1
  refine hK _ _ ⟨hM.obj.cell 0, bx.cell 0, bx.cell 1⟩ ?_
  clear hK K f1 c1
  generalize w2.setCell ⟨g, i * 11 + 1, none⟩ (.int .i64 (now + 1)) = w3 at *
  replace hn2 := Lib.hid hn2
  replace hx2 := Lib.hid hx2
  refine wpPl_qs 2 _ _ _ (by kernel_rfl) (by kernel_rfl) (by simp) ?_
  unfold clsS
  simp only [List.take_succ_cons, List.take_zero, List.drop_succ_cons, List.drop_zero, List.filterMap_cons, List.filterMap_nil, List.getElem?_toArray, List.getElem?_cons_zero, List.getElem?_cons_succ]
  repeat (first
    | go_big_quiet_skip
    | (go_big_quiet_want; go_big_quiet_op; go_big_quiet_on)
    | (refine id (?_ : wpQuiet _ _ _ _ (_ :: _) _); first | go_big_quiet_skip | (go_big_quiet_want; go_big_quiet_op; go_big_quiet_on)))
  refine wpQuiet_nil ?_
  refine wpPl_e _ (by rfl) (by kernel_rfl) (fun K hK => ?_)
  have f7 := hM.row.frozen hn2.out (i * 11 + 7)
  have c7 := hM.row.at_ En.cs_len hx2.out (f := 7) rfl
  have f8 := hM.row.frozen hn2.out (i * 11 + 7 + 1)
  have c8 := hM.row.at_ En.cs_len hx2.out (f := 8) rfl
  have e8 : i * 11 + 8 = i * 11 + 7 + 1 := by omega
  rw [e8] at c8
  go_simp
  replace ht := (ht.grownT hM.row (grown_set w3 g (i * 11 + 7) (.slice t.A t.n t.c)))
  replace bx := (bx.far (p := ⟨g, i * 11 + 7, none⟩) hbg (.slice t.A t.n t.c)).far (p := ⟨g, i * 11 + 7 + 1, none⟩) hbg (.int .i64 er)
  replace up2 := (up2.setCell (p := ⟨g, i * 11 + 7, none⟩) (fun _ => .inr hgv) (.slice t.A t.n t.c)).setCell (p := ⟨g, i * 11 + 7 + 1, none⟩) (fun _ => .inr hgv) (.int .i64 er)
  replace hM := hM.setF hn2.out hx2.out (x' := { x with e := now + 1, g := t }) (f := 7) (u := .slice t.A t.n t.c) (by decide) rfl
  rw [List.set_set] at hM
  have hn3 : (l.set i { x with e := now + 1, g := t }).length = n := by rw [List.length_set]; exact hn.out
  have hx3 : (l.set i { x with e := now + 1, g := t })[i]? = some { x with e := now + 1, g := t } := List.getElem?_set_self hlt1
  replace ht := (ht.grownT hM.row (grown_set _ g (i * 11 + 7 + 1) (.int .i64 er)))
  replace hM := hM.setF hn3 hx3 (x' := endE x (now + 1) er t) (f := 8) (u := .int .i64 er) (by decide) rfl
  rw [List.set_set, e8] at hM
  have hn4 : (l.set i (endE x (now + 1) er t)).length = n := by rw [List.length_set]; exact hn.out
  have hx4 : (l.set i (endE x (now + 1) er t))[i]? = some (endE x (now + 1) er t) := List.getElem?_set_self hlt1
  refine hK _ _ ⟨hM.obj.cell 0, bx.cell 0, bx.cell 1⟩ ?_
  clear hK K f7 f8 c7 c8 e8 z1 z2 z3 zz hn2 hx2 hn3 hx3
  generalize (w3.setCell ⟨g, i * 11 + 7, none⟩ (.slice t.A t.n t.c)).setCell ⟨g, i * 11 + 7 + 1, none⟩ (.int .i64 er) = w4 at *
  unfold wpPl
  refine NoPanic.normal ?_
  have c3 := hM.row.at_ En.cs_len hx4 (f := 3) rfl
  have p1 := bx.cell 1
  replace hn4 := Lib.hid hn4
  replace hx4 := Lib.hid hx4
  cases hz : (er == 0) with
  | true =>
    have e0 : (endE x (now + 1) er t).out = false := h0.out hz
    rw [e0] at c3
    replace e0 := Lib.hid e0
    go_wp2
    go_ret
    exact ⟨t, rfl, hM, ht, up2⟩
  | false =>
    go_wp2
    go_ret
    exact ⟨t, rfl, hM, ht, up2⟩
end Go.Proofs.Ytjaacmecniijgaa
