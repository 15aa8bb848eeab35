/- The walks of package history: add, Begin, New, Now. -/
import Derived.Test.YtjaacmecniijgaaHist
namespace Go.Proofs.Ytjaacmecniijgaa
set_option linter.unusedVariables false
set_option linter.unusedSimpArgs false
open Go.RowKit
/-- a history at block gh, its entries in a row -/
structure HisM (W : World) (base gh : Nat) (now : Int) (v : Value) (l : List En) : Prop where
  obj : Blk W gh 66 #[.int .i64 now, v]
  row : OwnT En.cs 11 31 W base v l
def AddR (W : World) (base gh : Nat) (now : Int) (v : Value) (l : List En) (x : En) (F G : List Int) (r : Int) (e : Ending) (w' : World) : Prop :=
  ∃ v' s t, e = .returned (.int .i64 r) ∧ HisM w' base gh now v' (l ++ [{ x with f := s, g := t }]) ∧ SlO w' W.heap.size s F ∧ SlO w' W.heap.size t G ∧ Upd (fun k => k = gh ∨ v.ownBlock = some k) W w'
theorem HisM.row_ne {W : World} {base gh : Nat} {now : Int} {v : Value} {l : List En} (h : HisM W base gh now v l) : v.ownBlock ≠ some gh := by
  rcases h.row.row.2 with ⟨rfl, h0⟩ | ⟨g, cap, cur, rfl, hg, hh, _⟩
  · simp [Value.ownBlock]
  · intro e
    have e : g = gh := by simpa [Value.ownBlock] using e
    subst e
    exact Blk.ne_ (cs := cur) (t := 31) hh h.obj (by decide) rfl
theorem SlO.grown {w w' : World} {base : Nat} {s : Sl} {l : List Int} {row : Option Nat} (h : SlO w base s l) (hg : w.grownBy w' row) (hr : ∀ g, row = some g → g < base) : SlO w' base s l := by
  refine Own.keep h hg ?_
  cases hv : (Value.slice s.A s.n s.c).ownBlock with
  | none => exact .inl rfl
  | some g => exact .inr (fun e => by have := hr g e.symm; have := (Own.lt h g hv).1; omega)
set_option maxRecDepth 100000 in
set_option maxHeartbeats 4000000 in
theorem hadd_any (x : En) (F G : List Int) (base gh : Nat) (now : Int) (v : Value) (l : List En) (w : World) (hm : HisM w base gh now v l) (hbase : base ≤ w.heap.size) (hl : l.length ≤ 100) (hr : EnR w x F G) (hF : F.length ≤ 60000) (hG : G.length ≤ 60000) :
    Calls Try.prog 25 #[.pointer (some ⟨gh, 0, none⟩), .agg #[.int .i64 x.b, .int .i64 x.e, .bool x.ends, .bool x.out, .slice x.f.A x.f.n x.f.c, .int .i64 x.tick, .int .i64 x.port, .slice x.g.A x.g.n x.g.c, .int .i64 x.err, .int .i64 x.proto, .int .i64 x.pt]] w (AddR w base gh now v l x F G l.length) := by
  obtain ⟨i0, hi, hz0, hz1, hz2⟩ := info_parts en_info
  have hne := hm.row_ne
  have hgl := hm.obj.lt
  have ko := fun W (hb : Below w.heap.size w W) => hown_any x F G W ⟨hr.1.bel hb, hr.2.bel hb⟩ hF hG
  clear hr
  replace ko := Lib.hid ko
  go_enter Try.func25, Try.ntmps25
  go_upto_region 1 with fail
  have bx := Blk.new w 31 #[.int .i64 x.b, .int .i64 x.e, .bool x.ends, .bool x.out, .slice x.f.A x.f.n x.f.c, .int .i64 x.tick, .int .i64 x.port, .slice x.g.A x.g.n x.g.c, .int .i64 x.err, .int .i64 x.proto, .int .i64 x.pt]
  have bo := hm.obj.alloc (.cells #[.int .i64 x.b, .int .i64 x.e, .bool x.ends, .bool x.out, .slice x.f.A x.f.n x.f.c, .int .i64 x.tick, .int .i64 x.port, .slice x.g.A x.g.n x.g.c, .int .i64 x.err, .int .i64 x.proto, .int .i64 x.pt] 31)
  have ro := hm.row.alloc (.cells #[.int .i64 x.b, .int .i64 x.e, .bool x.ends, .bool x.out, .slice x.f.A x.f.n x.f.c, .int .i64 x.tick, .int .i64 x.port, .slice x.g.A x.g.n x.g.c, .int .i64 x.err, .int .i64 x.proto, .int .i64 x.pt] 31)
  have bel := bel_alloc w (.cells #[.int .i64 x.b, .int .i64 x.e, .bool x.ends, .bool x.out, .slice x.f.A x.f.n x.f.c, .int .i64 x.tick, .int .i64 x.port, .slice x.g.A x.g.n x.g.c, .int .i64 x.err, .int .i64 x.proto, .int .i64 x.pt] 31)
  generalize w.alloc (.cells #[.int .i64 x.b, .int .i64 x.e, .bool x.ends, .bool x.out, .slice x.f.A x.f.n x.f.c, .int .i64 x.tick, .int .i64 x.port, .slice x.g.A x.g.n x.g.c, .int .i64 x.err, .int .i64 x.proto, .int .i64 x.pt] 31) = W at *
  have z1 : ∀ t : Tw (fun w' => w'.cell? ⟨gh, 1, none⟩ = some v ∧ Blk w' w.heap.size 31 #[.int .i64 x.b, .int .i64 x.e, .bool x.ends, .bool x.out, .slice x.f.A x.f.n x.f.c, .int .i64 x.tick, .int .i64 x.port, .slice x.g.A x.g.n x.g.c, .int .i64 x.err, .int .i64 x.proto, .int .i64 x.pt]), t.w.cell? ⟨gh, 1, none⟩ = some v := fun t => t.h.1
  have z2 : ∀ w', (∃ t : Tw (fun w' => w'.cell? ⟨gh, 1, none⟩ = some v ∧ Blk w' w.heap.size 31 #[.int .i64 x.b, .int .i64 x.e, .bool x.ends, .bool x.out, .slice x.f.A x.f.n x.f.c, .int .i64 x.tick, .int .i64 x.port, .slice x.g.A x.g.n x.g.c, .int .i64 x.err, .int .i64 x.proto, .int .i64 x.pt]), w' = t.w) → Blk w' w.heap.size 31 #[.int .i64 x.b, .int .i64 x.e, .bool x.ends, .bool x.out, .slice x.f.A x.f.n x.f.c, .int .i64 x.tick, .int .i64 x.port, .slice x.g.A x.g.n x.g.c, .int .i64 x.err, .int .i64 x.proto, .int .i64 x.pt] := fun w' ⟨t, ht⟩ => ht ▸ t.h.2
  have zz : Nonempty (Tw (fun w' => w'.cell? ⟨gh, 1, none⟩ = some v ∧ Blk w' w.heap.size 31 #[.int .i64 x.b, .int .i64 x.e, .bool x.ends, .bool x.out, .slice x.f.A x.f.n x.f.c, .int .i64 x.tick, .int .i64 x.port, .slice x.g.A x.g.n x.g.c, .int .i64 x.err, .int .i64 x.proto, .int .i64 x.pt])) := ⟨⟨_, bo.cell 1, bx⟩⟩
  replace bx := bx.drew
  replace bo := bo.drew
  replace ro := ro.drew
  replace bel := bel.drew
  refine wp_region_planT (fun w' => w'.cell? ⟨gh, 1, none⟩ = some v ∧ Blk w' w.heap.size 31 #[.int .i64 x.b, .int .i64 x.e, .bool x.ends, .bool x.out, .slice x.f.A x.f.n x.f.c, .int .i64 x.tick, .int .i64 x.port, .slice x.g.A x.g.n x.g.c, .int .i64 x.err, .int .i64 x.proto, .int .i64 x.pt]) [(0, true), (1, true), (2, true), (3, true), (4, true), (5, true), (6, false), (7, false), (8, false), (9, true), (10, true)] [11] (by kernel_rfl) (by kernel_rfl) (by kernel_rfl) (by kernel_rfl) ⟨bo.cell 1, bx⟩ ?_
  generalize W.drew = W1 at *
  refine wpPh_qs 6 _ _ _ (by kernel_rfl) (by kernel_rfl) (by simp) ?_
  unfold clsS
  simp only [List.take_succ_cons, List.take_zero, List.drop_succ_cons, List.drop_zero, List.filterMap_cons, List.filterMap_nil, List.getElem?_toArray, List.getElem?_cons_zero, List.getElem?_cons_succ]
  repeat (first
    | go_big_quiet_skip
    | (go_big_quiet_want; first | (refine quiet_ldRow rfl rfl z2 Try.underlying31 en_size ?_; go_simp; go_big_quiet_on) | (go_big_quiet_op; go_big_quiet_on))
    | (refine id (?_ : wpQuiet _ _ _ _ (_ :: _) _); first | go_big_quiet_skip | (go_big_quiet_want; first | (refine quiet_ldRow rfl rfl z2 Try.underlying31 en_size ?_; go_simp; go_big_quiet_on) | (go_big_quiet_op; go_big_quiet_on))))
  refine wpQuiet_nil ?_
  refine wpPh_e _ (by rfl) (by kernel_rfl) (fun K hK => ?_)
  go_simp
  refine (ko.out _ bel).mono ?_
  rintro e w1 ⟨s, t, rfl, hs, ht, hb⟩
  replace hs : SlO w1 w.heap.size s F := SlO.lower hs bel.size
  replace ht : SlO w1 w.heap.size t G := SlO.lower ht bel.size
  replace bx := bx.bel hb
  replace bo := bo.bel hb
  replace ro := ro.below hb
  replace bel := bel_after bel hb
  clear hb ko
  refine hK _ _ ⟨bo.cell 1, bx⟩ ?_
  clear hK K
  have hx := RdT.new (cs := En.cs) (sz := 11) En.cs_len w1 31 [{ x with f := s, g := t }] #[.int .i64 { x with f := s, g := t }.b, .int .i64 { x with f := s, g := t }.e, .bool { x with f := s, g := t }.ends, .bool { x with f := s, g := t }.out, .slice { x with f := s, g := t }.f.A { x with f := s, g := t }.f.n { x with f := s, g := t }.f.c, .int .i64 { x with f := s, g := t }.tick, .int .i64 { x with f := s, g := t }.port, .slice { x with f := s, g := t }.g.A { x with f := s, g := t }.g.n { x with f := s, g := t }.g.c, .int .i64 { x with f := s, g := t }.err, .int .i64 { x with f := s, g := t }.proto, .int .i64 { x with f := s, g := t }.pt] rfl 1 rfl
  replace bx := bx.alloc (.cells #[.int .i64 { x with f := s, g := t }.b, .int .i64 { x with f := s, g := t }.e, .bool { x with f := s, g := t }.ends, .bool { x with f := s, g := t }.out, .slice { x with f := s, g := t }.f.A { x with f := s, g := t }.f.n { x with f := s, g := t }.f.c, .int .i64 { x with f := s, g := t }.tick, .int .i64 { x with f := s, g := t }.port, .slice { x with f := s, g := t }.g.A { x with f := s, g := t }.g.n { x with f := s, g := t }.g.c, .int .i64 { x with f := s, g := t }.err, .int .i64 { x with f := s, g := t }.proto, .int .i64 { x with f := s, g := t }.pt] 31)
  replace bo := bo.alloc (.cells #[.int .i64 { x with f := s, g := t }.b, .int .i64 { x with f := s, g := t }.e, .bool { x with f := s, g := t }.ends, .bool { x with f := s, g := t }.out, .slice { x with f := s, g := t }.f.A { x with f := s, g := t }.f.n { x with f := s, g := t }.f.c, .int .i64 { x with f := s, g := t }.tick, .int .i64 { x with f := s, g := t }.port, .slice { x with f := s, g := t }.g.A { x with f := s, g := t }.g.n { x with f := s, g := t }.g.c, .int .i64 { x with f := s, g := t }.err, .int .i64 { x with f := s, g := t }.proto, .int .i64 { x with f := s, g := t }.pt] 31)
  replace ro := ro.alloc (.cells #[.int .i64 { x with f := s, g := t }.b, .int .i64 { x with f := s, g := t }.e, .bool { x with f := s, g := t }.ends, .bool { x with f := s, g := t }.out, .slice { x with f := s, g := t }.f.A { x with f := s, g := t }.f.n { x with f := s, g := t }.f.c, .int .i64 { x with f := s, g := t }.tick, .int .i64 { x with f := s, g := t }.port, .slice { x with f := s, g := t }.g.A { x with f := s, g := t }.g.n { x with f := s, g := t }.g.c, .int .i64 { x with f := s, g := t }.err, .int .i64 { x with f := s, g := t }.proto, .int .i64 { x with f := s, g := t }.pt] 31)
  replace hs := hs.bel (bel_alloc w1 (.cells #[.int .i64 { x with f := s, g := t }.b, .int .i64 { x with f := s, g := t }.e, .bool { x with f := s, g := t }.ends, .bool { x with f := s, g := t }.out, .slice { x with f := s, g := t }.f.A { x with f := s, g := t }.f.n { x with f := s, g := t }.f.c, .int .i64 { x with f := s, g := t }.tick, .int .i64 { x with f := s, g := t }.port, .slice { x with f := s, g := t }.g.A { x with f := s, g := t }.g.n { x with f := s, g := t }.g.c, .int .i64 { x with f := s, g := t }.err, .int .i64 { x with f := s, g := t }.proto, .int .i64 { x with f := s, g := t }.pt] 31))
  replace ht := ht.bel (bel_alloc w1 (.cells #[.int .i64 { x with f := s, g := t }.b, .int .i64 { x with f := s, g := t }.e, .bool { x with f := s, g := t }.ends, .bool { x with f := s, g := t }.out, .slice { x with f := s, g := t }.f.A { x with f := s, g := t }.f.n { x with f := s, g := t }.f.c, .int .i64 { x with f := s, g := t }.tick, .int .i64 { x with f := s, g := t }.port, .slice { x with f := s, g := t }.g.A { x with f := s, g := t }.g.n { x with f := s, g := t }.g.c, .int .i64 { x with f := s, g := t }.err, .int .i64 { x with f := s, g := t }.proto, .int .i64 { x with f := s, g := t }.pt] 31))
  replace bel := bel.alloc bel.size (.cells #[.int .i64 { x with f := s, g := t }.b, .int .i64 { x with f := s, g := t }.e, .bool { x with f := s, g := t }.ends, .bool { x with f := s, g := t }.out, .slice { x with f := s, g := t }.f.A { x with f := s, g := t }.f.n { x with f := s, g := t }.f.c, .int .i64 { x with f := s, g := t }.tick, .int .i64 { x with f := s, g := t }.port, .slice { x with f := s, g := t }.g.A { x with f := s, g := t }.g.n { x with f := s, g := t }.g.c, .int .i64 { x with f := s, g := t }.err, .int .i64 { x with f := s, g := t }.proto, .int .i64 { x with f := s, g := t }.pt] 31)
  refine wpPh_e _ (by rfl) (by kernel_rfl) (fun K hK => ?_)
  go_simp
  refine hK _ _ ⟨bo.cell 1, bx⟩ ?_
  clear hK K
  generalize w1.alloc (.cells #[.int .i64 { x with f := s, g := t }.b, .int .i64 { x with f := s, g := t }.e, .bool { x with f := s, g := t }.ends, .bool { x with f := s, g := t }.out, .slice { x with f := s, g := t }.f.A { x with f := s, g := t }.f.n { x with f := s, g := t }.f.c, .int .i64 { x with f := s, g := t }.tick, .int .i64 { x with f := s, g := t }.port, .slice { x with f := s, g := t }.g.A { x with f := s, g := t }.g.n { x with f := s, g := t }.g.c, .int .i64 { x with f := s, g := t }.err, .int .i64 { x with f := s, g := t }.proto, .int .i64 { x with f := s, g := t }.pt] 31) = w2 at *
  have hvl : v.ownBlock ≠ some w.heap.size := fun e => by have := (hm.row.lt _ e).2; omega
  have hvlt : ∀ g, v.ownBlock = some g → g < w.heap.size := fun g e => (hm.row.lt g e).2
  refine wpPh_e _ (by rfl) (by kernel_rfl) (fun K hK => ?_)
  refine wp_appT En.cs_len En.cs_one (by decide) _ (.tmp 9) (.tmp 12) 23 rfl base 31 i0 (.agg #[.int .i64 0, .int .i64 0, .bool false, .bool false, .slice none 0 0, .int .i64 0, .int .i64 0, .slice none 0 0, .int .i64 0, .int .i64 0, .int .i64 0]) 120 Try.underlying23 hi hz0 hz1 hz2 rfl v rfl l ro _ _ 1 1 rfl [{ x with f := s, g := t }] hx (by omega) (by decide) (by have := bel.size; omega) ?_
  intro v' w3 own3 hg3 hv3
  have hlen : (l ++ [{ x with f := s, g := t }]).length = l.length + 1 := by simp
  obtain ⟨A', c', rfl, e1, e2⟩ := own3.form hlen
  go_simp
  replace bx := bx.grown hg3 hvl
  replace bo := bo.grown hg3 hne
  replace hs := hs.grown hg3 hvlt
  replace ht := ht.grown hg3 hvlt
  have up : Upd (fun k => k = gh ∨ v.ownBlock = some k) w w3 := (Upd.of_below bel _).trans (Upd.of_grown hg3 (fun g e => .inr e))
  have hne2 : (Value.slice A' (l.length + 1) c').ownBlock ≠ some gh := by
    rcases hv3 with e | e
    · rw [e]; exact hne
    · rw [e]; intro e2; injection e2 with e2; have := bel.size; omega
  refine hK _ _ ⟨bo.cell 1, bx⟩ ?_
  clear hK K hg3 hv3 ro hx bel
  refine wpPh_qs 2 _ _ _ (by kernel_rfl) (by kernel_rfl) (by simp) ?_
  unfold clsS
  simp only [List.take_succ_cons, List.take_zero, List.drop_succ_cons, List.drop_zero, List.filterMap_cons, List.filterMap_nil, List.getElem?_toArray, List.getElem?_cons_zero, List.getElem?_cons_succ]
  repeat (first
    | go_big_quiet_skip
    | (go_big_quiet_want; go_big_quiet_op; go_big_quiet_on)
    | (refine id (?_ : wpQuiet _ _ _ _ (_ :: _) _); first | go_big_quiet_skip | (go_big_quiet_want; go_big_quiet_op; go_big_quiet_on)))
  refine wpQuiet_nil ?_
  unfold wpPh
  refine wpPt_e _ (by rfl) (by kernel_rfl) (fun K hK => ?_)
  have q1 := bo.cell 1
  have q1f := bo.frozen 1
  go_simp
  replace hs := hs.far bo (by decide) (Upd.one _ gh 1 (.slice A' (l.length + 1) c'))
  replace ht := ht.far bo (by decide) (Upd.one _ gh 1 (.slice A' (l.length + 1) c'))
  replace own3 := own3.upd (Upd.one _ gh 1 (.slice A' (l.length + 1) c')) (fun g e e2 => by rw [e2] at e; exact hne2 e)
  replace up := up.setCell (p := ⟨gh, 1, none⟩) (fun _ => .inl rfl) (.slice A' (l.length + 1) c')
  replace bo := bo.set_ 1 (.slice A' (l.length + 1) c')
  refine hK _ _ ?_
  clear hK K q1 q1f
  generalize w3.setCell ⟨gh, 1, none⟩ (.slice A' (l.length + 1) c') = w4 at *
  unfold wpPt
  refine NoPanic.normal ?_
  replace bo : Blk w4 gh 66 #[.int .i64 now, .slice A' (l.length + 1) c'] := bo
  have q1 := bo.cell 1
  clear hne hvl hvlt hlen
  generalize hn : l.length = n at *
  replace hn := Lib.hid hn
  go_wp2
  go_ret
  exact ⟨_, s, t, rfl, ⟨bo, own3⟩, hs, ht, up⟩
theorem ca_size : (Try.prog.info? 26).map (·.size) = some 4 := by kernel_rfl
/-- what Begin leaves -/
def BegR (w : World) (base gh : Nat) (now : Int) (v : Value) (l : List En) (ou : Bool) (ti po : Int) (F : List Int) (r : Int) (e : Ending) (w' : World) : Prop :=
  ∃ v' s t, e = .returned (.int .i64 r) ∧ HisM w' base gh (now + 1) v' (l ++ [⟨now + 1, -1, false, ou, s, ti, po, t, 0, 0, 0⟩]) ∧ SlO w' w.heap.size s F ∧ SlO w' w.heap.size t [] ∧ Upd (fun k => k = gh ∨ v.ownBlock = some k) w w'
set_option maxRecDepth 100000 in
set_option maxHeartbeats 4000000 in
theorem hBegin_any (ou : Bool) (fA : Option Addr) (fn fc : Nat) (ti po : Int) (F : List Int) (base gh : Nat) (now : Int) (v : Value) (l : List En) (w : World) (hm : HisM w base gh now v l) (hbase : base ≤ w.heap.size) (hl : l.length ≤ 100) (hnow : 0 ≤ now ∧ now ≤ 1000) (hr : SlR w ⟨fA, fn, fc⟩ F) (hF : F.length ≤ 60000) :
    Calls Try.prog 14 #[.pointer (some ⟨gh, 0, none⟩), .agg #[.bool ou, .slice fA fn fc, .int .i64 ti, .int .i64 po]] w (BegR w base gh now v l ou ti po F l.length) := by
  have hne := hm.row_ne
  have hgl := hm.obj.lt
  have hvlt : ∀ g, v.ownBlock = some g → g < w.heap.size := fun g e => (hm.row.lt g e).2
  have ka := fun W (hb : Upd (fun k => k = gh) w W) (hM : HisM W base gh (now + 1) v l) => hadd_any ⟨now + 1, -1, false, ou, ⟨fA, fn, fc⟩, ti, po, ⟨none, 0, 0⟩, 0, 0, 0⟩ F [] base gh (now + 1) v l W hM (by have := hb.size; omega) hl ⟨⟨by
      refine ⟨hr.1.len, hr.1.rng, fun hn => ?_⟩
      obtain ⟨b, o, e, hlt, hc⟩ := hr.1.cel hn
      have hbg : b ≠ gh := fun e => by
        have h0 := hc 0 hn
        rw [e, hm.obj.cell] at h0
        have h1 : ∀ i : Nat, (#[Value.int .i64 now, v] : Array Value)[i]? ≠ some (Value.int .u8 (F.getD 0 0)) := by
          intro i h
          match i with
          | 0 => simp at h
          | 1 =>
            obtain ⟨A, c, hv, _⟩ := hm.row.form rfl
            rw [hv] at h; simp at h
          | n + 2 => simp at h
        exact h1 _ h0
      exact ⟨b, o, e, by have := hb.size; omega, fun j hj => (World.cell?_of_block (hb.block b (by omega) hbg)).trans (hc j hj)⟩, hr.2⟩, Rd.nil _ _ _ _, by simp, by simp⟩ hF (by simp)
  simp only at ka
  have q0 := hm.obj.cell 0
  have q0f := hm.obj.frozen 0
  clear hr
  replace ka := Lib.hid ka
  go_enter Try.func14, Try.ntmps14
  go_upto_region 4 with fail
  have up0 : Upd (fun k => k = gh) w ((w.setCell ⟨gh, 0, none⟩ (.int .i64 (now + 1))).alloc (.cells #[.bool ou, .slice fA fn fc, .int .i64 ti, .int .i64 po] 26)) := (Upd.one w gh 0 _).alloc _
  have bx := Blk.new (w.setCell ⟨gh, 0, none⟩ (.int .i64 (now + 1))) 26 #[.bool ou, .slice fA fn fc, .int .i64 ti, .int .i64 po]
  rw [show (w.setCell ⟨gh, 0, none⟩ (.int .i64 (now + 1))).heap.size = w.heap.size by simp [World.setCell]] at bx
  have hM : HisM ((w.setCell ⟨gh, 0, none⟩ (.int .i64 (now + 1))).alloc (.cells #[.bool ou, .slice fA fn fc, .int .i64 ti, .int .i64 po] 26)) base gh (now + 1) v l :=
    ⟨(hm.obj.set_ 0 _).alloc _, (hm.row.upd (Upd.one _ gh 0 _) (fun g e e2 => by rw [e2] at e; exact hne e)).alloc _⟩
  generalize (w.setCell ⟨gh, 0, none⟩ (.int .i64 (now + 1))).alloc (.cells #[.bool ou, .slice fA fn fc, .int .i64 ti, .int .i64 po] 26) = W at *
  clear q0 q0f
  have z1 : ∀ t : Tw (fun w' => w'.cell? ⟨gh, 0, none⟩ = some (.int .i64 (now + 1)) ∧ Blk w' w.heap.size 26 #[.bool ou, .slice fA fn fc, .int .i64 ti, .int .i64 po]), t.w.cell? ⟨gh, 0, none⟩ = some (.int .i64 (now + 1)) := fun t => t.h.1
  have z2 : ∀ w', (∃ t : Tw (fun w' => w'.cell? ⟨gh, 0, none⟩ = some (.int .i64 (now + 1)) ∧ Blk w' w.heap.size 26 #[.bool ou, .slice fA fn fc, .int .i64 ti, .int .i64 po]), w' = t.w) → Blk w' w.heap.size 26 #[.bool ou, .slice fA fn fc, .int .i64 ti, .int .i64 po] := fun w' ⟨t, ht⟩ => ht ▸ t.h.2
  have zz : Nonempty (Tw (fun w' => w'.cell? ⟨gh, 0, none⟩ = some (.int .i64 (now + 1)) ∧ Blk w' w.heap.size 26 #[.bool ou, .slice fA fn fc, .int .i64 ti, .int .i64 po])) := ⟨⟨_, hM.obj.cell 0, bx⟩⟩
  replace bx := bx.drew
  replace up0 := up0.drew
  replace hM : HisM W.drew base gh (now + 1) v l := ⟨hM.obj.drew, hM.row.drew⟩
  refine wp_region_plan (fun w' => w'.cell? ⟨gh, 0, none⟩ = some (.int .i64 (now + 1)) ∧ Blk w' w.heap.size 26 #[.bool ou, .slice fA fn fc, .int .i64 ti, .int .i64 po]) [(0, true), (1, true), (2, true), (3, true), (4, true), (5, true), (6, true), (7, false), (8, true)] (by kernel_rfl) (by kernel_rfl) (by kernel_rfl) (by kernel_rfl) ⟨hM.obj.cell 0, bx⟩ ?_
  generalize W.drew = W1 at *
  refine wpPl_qs 7 _ _ _ (by kernel_rfl) (by kernel_rfl) (by simp) ?_
  unfold clsS
  simp only [List.take_succ_cons, List.take_zero, List.drop_succ_cons, List.drop_zero, List.filterMap_cons, List.filterMap_nil, List.getElem?_toArray, List.getElem?_cons_zero, List.getElem?_cons_succ]
  repeat (first
    | go_big_quiet_skip
    | (go_big_quiet_want; first | (refine quiet_ldRow rfl rfl z2 Try.underlying26 ca_size ?_; go_simp; go_big_quiet_on) | (go_big_quiet_op; go_big_quiet_on))
    | (refine id (?_ : wpQuiet _ _ _ _ (_ :: _) _); first | go_big_quiet_skip | (go_big_quiet_want; first | (refine quiet_ldRow rfl rfl z2 Try.underlying26 ca_size ?_; go_simp; go_big_quiet_on) | (go_big_quiet_op; go_big_quiet_on))))
  refine wpQuiet_nil ?_
  refine wpPl_e _ (by rfl) (by kernel_rfl) (fun K hK => ?_)
  go_simp
  refine (ka.out _ up0 hM).mono ?_
  rintro e w1 ⟨v', s, t, rfl, hM', hs, ht, up⟩
  have bx' := bx.upd up (fun h => by
    rcases h with h | h
    · omega
    · have := hvlt _ h; omega)
  refine hK _ _ ⟨hM'.obj.cell 0, bx'⟩ ?_
  clear hK K
  refine wpPl_qs 1 _ _ _ (by kernel_rfl) (by kernel_rfl) (by simp) ?_
  unfold clsS
  simp only [List.take_succ_cons, List.take_zero, List.drop_succ_cons, List.drop_zero, List.filterMap_cons, List.filterMap_nil, List.getElem?_toArray, List.getElem?_cons_zero, List.getElem?_cons_succ]
  repeat (first
    | go_big_quiet_skip
    | (go_big_quiet_want; go_big_quiet_op; go_big_quiet_on)
    | (refine id (?_ : wpQuiet _ _ _ _ (_ :: _) _); first | go_big_quiet_skip | (go_big_quiet_want; go_big_quiet_op; go_big_quiet_on)))
  refine wpQuiet_nil ?_
  unfold wpPl
  refine NoPanic.normal ?_
  go_wp2
  go_ret
  exact ⟨v', s, t, rfl, hM', SlO.lower hs up0.size, SlO.lower ht up0.size, (up0.mono (fun _ _ h => .inl h)).trans up⟩
theorem hNow_any (base gh : Nat) (now : Int) (v : Value) (l : List En) (w : World) (hm : HisM w base gh now v l) :
    Calls Try.prog 17 #[.pointer (some ⟨gh, 0, none⟩)] w fun e w' => e = .returned (.int .i64 now) ∧ w = w' := by
  have q0 := hm.obj.cell 0
  go_enter Try.func17, Try.ntmps17
  go_wp2
  go_ret
  exact ⟨rfl, rfl⟩
theorem hNew_any (w : World) : Calls Try.prog 19 #[] w fun e w' => e = .returned (.pointer (some ⟨w.heap.size, 0, none⟩)) ∧ HisM w' w.heap.size w.heap.size 0 (.slice none 0 0) [] ∧ Below w.heap.size w w' := by
  go_enter Try.func19, Try.ntmps19
  go_wp2
  go_ret
  exact ⟨rfl, ⟨Blk.new _ _ _, ⟨World.ownsRow_nil _ _ _ _⟩⟩, bel_alloc _ _⟩
end Go.Proofs.Ytjaacmecniijgaa
