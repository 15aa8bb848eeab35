import Derived.Test.YtjaacmecniijgaaProg
import Derived.Test.YtjaacmecniijgaaRowT2
import Derived.Test.YtjaacmecniijgaaQuiet
import Derived.Test.YtjaacmecniijgaaPlanT
import Derived.Test.YtjaacmecniijgaaBytes
import Derived.Test.YtjaacmecniijgaaRowW
import Derived.RegionTactic
import Derived.Deep.DeepCutAuto
import Derived.Deep.CutBlock
import Derived.Lib.LazyBuf
import Derived.Test.YtjaacmecniijgaaRowAt
import Derived.Test.YtjaacmecniijgaaFloat2
import Derived.Test.YtjaacmecniijgaaApp0
namespace Go.Proofs.Ytjaacmecniijgaa
set_option linter.unusedVariables false
set_option linter.unusedSimpArgs false
open Go.RowKit
/- The walks of package history: clones, own. -/
structure Sl where
  A : Option Addr
  n : Nat
  c : Nat
structure En where
  b : Int
  e : Int
  ends : Bool
  out : Bool
  f : Sl
  tick : Int
  port : Int
  g : Sl
  err : Int
  proto : Int
  pt : Int
def En.cs (x : En) : List Value := [.int .i64 x.b, .int .i64 x.e, .bool x.ends, .bool x.out, .slice x.f.A x.f.n x.f.c, .int .i64 x.tick, .int .i64 x.port, .slice x.g.A x.g.n x.g.c, .int .i64 x.err, .int .i64 x.proto, .int .i64 x.pt]
theorem En.cs_len (x : En) : x.cs.length = 11 := rfl
theorem En.cs_one (x : En) : ∀ u ∈ x.cs, u.oneCell' = true := by intro u hu; simp [En.cs] at hu; rcases hu with rfl | rfl | rfl | rfl | rfl | rfl | rfl | rfl | rfl | rfl | rfl <;> rfl
theorem en_size : (Try.prog.info? 31).map (·.size) = some 11 := by kernel_rfl
theorem en_info : (Try.prog.info? 31).map (fun i => (i.zero, i.size, i.bytes)) = some (some (.agg #[.int .i64 0, .int .i64 0, .bool false, .bool false, .slice none 0 0, .int .i64 0, .int .i64 0, .slice none 0 0, .int .i64 0, .int .i64 0, .int .i64 0]), 11, 120) := by kernel_rfl
/-- a slice that reads as bytes -/
def SlR (w : World) (s : Sl) (l : List Int) : Prop := Rd .u8 w w.heap.size s.A s.n l ∧ s.n ≤ s.c ∧ s.c ≤ maxLen
theorem SlR.bel {w w' : World} {s : Sl} {l : List Int} (h : SlR w s l) (hb : Below w.heap.size w w') : SlR w' s l := ⟨(h.1.below hb).more hb.size, h.2⟩
def SlO (w : World) (base : Nat) (s : Sl) (l : List Int) : Prop := Own .u8 5 w base (.slice s.A s.n s.c) l
theorem SlO.rd {w : World} {base : Nat} {s : Sl} {l : List Int} (h : SlO w base s l) : SlR w s l := by
  obtain ⟨A, n, c⟩ := s
  obtain ⟨A', c', e, h1, h2, h3⟩ := Own.form h rfl
  simp only [Value.slice.injEq] at e
  obtain ⟨rfl, rfl, rfl⟩ := e
  exact ⟨h3, h1, h2⟩
theorem SlO.bel {w w' : World} {base : Nat} {s : Sl} {l : List Int} (h : SlO w base s l) (hb : Below w.heap.size w w') : SlO w' base s l := Own.below h hb
theorem SlO.far {w w' : World} {base : Nat} {s : Sl} {l : List Int} (h : SlO w base s l) {g : Nat} {t : TypeId} {cs : Array Value} (hb : Blk w g t cs) (hne : 5 ≠ t) (hu : Upd (· = g) w w') : SlO w' base s l := Own.updne h hb hne hu
theorem SlO.lower {w : World} {base base' : Nat} {s : Sl} {l : List Int} (h : SlO w base s l) (hb : base' ≤ base) : SlO w base' s l := by
  refine ⟨⟨h.row.1, ?_⟩, h.rng⟩
  rcases h.row.2 with hn | ⟨g, cap, cur, hv, hg, rest⟩
  · exact .inl hn
  · exact .inr ⟨g, cap, cur, hv, by omega, rest⟩
def ClR (w : World) (l : List Int) (e : Ending) (w' : World) : Prop := ∃ s : Sl, e = .returned (.slice s.A s.n s.c) ∧ SlO w' w.heap.size s l ∧ Below w.heap.size w w'
set_option maxRecDepth 100000 in
set_option maxHeartbeats 1000000 in
theorem SClone_any (l : List Int) (s : Sl) (w : World) (hr : SlR w s l) (hl : l.length ≤ 60000) :
    Calls Try.prog 26 #[.slice s.A s.n s.c] w (ClR w l) := by
  obtain ⟨A, n, c⟩ := s
  obtain ⟨hr, h1, h2⟩ := hr
  simp only at hr h1 h2 ⊢
  have hn := hr.len
  have hnil := fun A => run_eql_slice_nil (P := Try.prog) w 24 5 A n c Try.underlying24
  unfold maxLen at h2
  cases A with
  | none =>
    have h0 : n = 0 := by
      rcases Nat.eq_zero_or_pos n with h | h
      · exact h
      · obtain ⟨b, o, e, _⟩ := hr.cel h; cases e
    subst h0
    have hnil0 := hnil none
    have el : l = [] := List.length_eq_zero_iff.mp hn
    replace hn := Lib.hid hn
    clear hnil
    go_enter Try.func26, Try.ntmps26
    go_wp2
    go_ret
    subst el
    exact ⟨⟨none, 0, 0⟩, rfl, Own.nil _ _ _ _, Below.refl _ _⟩
  | some ad =>
    have hnil0 := hnil (some ad)
    clear hnil
    obtain ⟨i0, hi, hz0, hz1, hz2⟩ := info_parts info_u8_
    have own0 := Own.new .u8 w 5 w.heap.size (Nat.le_refl _) [] (by simp) #[] rfl 0 rfl (by simp)
    have hr2 := hr.alloc (Nat.le_refl _) (.cells #[] 5)
    have bel0 := bel_alloc w (.cells #[] 5)
    replace hn := Lib.hid hn
    go_enter Try.func26, Try.ntmps26
    go_wp2_with (at_builtin; refine wpList_app _ rfl (.tmp 5) (.tmp 6) 24 rfl .u8 w.heap.size 5 i0 (.int .u8 0) 1 Try.underlying24 hi hz0 hz1 hz2 rfl (.slice (some ⟨w.heap.size, 0, none⟩) 0 0) rfl [] own0 w.heap.size _ n c rfl l hr2 (by rw [← hn.out]; simp; omega) (by decide) (by simp) ?_; intro v1 w1 own1 hg1 hv1; rw [List.nil_append] at own1; have bel1 : Below w.heap.size w w1 := bel0.grown hg1 (by simp) (fun k h => by simp [Value.ownBlock] at h; omega))
    obtain ⟨A', c', rfl, e1, e2, e3⟩ := own1.form hn.out
    go_ret
    exact ⟨⟨A', n, c'⟩, rfl, own1, bel1⟩
/-- an entry with frames that read as F and G -/
def EnR (w : World) (x : En) (F G : List Int) : Prop := SlR w x.f F ∧ SlR w x.g G
def OwnR (w : World) (x : En) (F G : List Int) (e : Ending) (w' : World) : Prop := ∃ s t : Sl, e = .returned (.agg #[.int .i64 { x with f := s, g := t }.b, .int .i64 { x with f := s, g := t }.e, .bool { x with f := s, g := t }.ends, .bool { x with f := s, g := t }.out, .slice { x with f := s, g := t }.f.A { x with f := s, g := t }.f.n { x with f := s, g := t }.f.c, .int .i64 { x with f := s, g := t }.tick, .int .i64 { x with f := s, g := t }.port, .slice { x with f := s, g := t }.g.A { x with f := s, g := t }.g.n { x with f := s, g := t }.g.c, .int .i64 { x with f := s, g := t }.err, .int .i64 { x with f := s, g := t }.proto, .int .i64 { x with f := s, g := t }.pt]) ∧ SlO w' w.heap.size s F ∧ SlO w' w.heap.size t G ∧ Below w.heap.size w w'
set_option maxRecDepth 100000 in
set_option maxHeartbeats 2000000 in
theorem hown_any (x : En) (F G : List Int) (w : World) (hr : EnR w x F G) (hF : F.length ≤ 60000) (hG : G.length ≤ 60000) :
    Calls Try.prog 28 #[.agg #[.int .i64 x.b, .int .i64 x.e, .bool x.ends, .bool x.out, .slice x.f.A x.f.n x.f.c, .int .i64 x.tick, .int .i64 x.port, .slice x.g.A x.g.n x.g.c, .int .i64 x.err, .int .i64 x.proto, .int .i64 x.pt]] w (OwnR w x F G) := by
  obtain ⟨b, e, en, ou, ⟨fA, fn, fc⟩, ti, po, ⟨gA, gn, gc⟩, er, pr, pt⟩ := x
  obtain ⟨hf, hg⟩ := hr
  simp only at hf hg ⊢
  have k1 := fun W (hb : Below w.heap.size w W) => SClone_any F ⟨fA, fn, fc⟩ W (hf.bel hb) hF
  have k2 := fun W (hb : Below w.heap.size w W) => SClone_any G ⟨gA, gn, gc⟩ W (hg.bel hb) hG
  simp only at k1 k2
  clear hf hg
  replace k1 := Lib.hid k1
  replace k2 := Lib.hid k2
  go_enter Try.func28, Try.ntmps28
  go_upto_region 1 with fail
  have bx := (Blk.new w 31 #[.int .i64 b, .int .i64 e, .bool en, .bool ou, .slice fA fn fc, .int .i64 ti, .int .i64 po, .slice gA gn gc, .int .i64 er, .int .i64 pr, .int .i64 pt]).alloc (.cells #[.int .i64 0, .int .i64 0, .bool false, .bool false, .slice none 0 0, .int .i64 0, .int .i64 0, .slice none 0 0, .int .i64 0, .int .i64 0, .int .i64 0] 31)
  have br := Blk.new (w.alloc (.cells #[.int .i64 b, .int .i64 e, .bool en, .bool ou, .slice fA fn fc, .int .i64 ti, .int .i64 po, .slice gA gn gc, .int .i64 er, .int .i64 pr, .int .i64 pt] 31)) 31 #[.int .i64 0, .int .i64 0, .bool false, .bool false, .slice none 0 0, .int .i64 0, .int .i64 0, .slice none 0 0, .int .i64 0, .int .i64 0, .int .i64 0]
  rw [show (w.alloc (.cells #[.int .i64 b, .int .i64 e, .bool en, .bool ou, .slice fA fn fc, .int .i64 ti, .int .i64 po, .slice gA gn gc, .int .i64 er, .int .i64 pr, .int .i64 pt] 31)).heap.size = w.heap.size + 1 by simp] at br
  have bel : Below w.heap.size w ((w.alloc (.cells #[.int .i64 b, .int .i64 e, .bool en, .bool ou, .slice fA fn fc, .int .i64 ti, .int .i64 po, .slice gA gn gc, .int .i64 er, .int .i64 pr, .int .i64 pt] 31)).alloc (.cells #[.int .i64 0, .int .i64 0, .bool false, .bool false, .slice none 0 0, .int .i64 0, .int .i64 0, .slice none 0 0, .int .i64 0, .int .i64 0, .int .i64 0] 31)) := (bel_alloc _ _).alloc (by simp) _
  generalize (w.alloc (.cells #[.int .i64 b, .int .i64 e, .bool en, .bool ou, .slice fA fn fc, .int .i64 ti, .int .i64 po, .slice gA gn gc, .int .i64 er, .int .i64 pr, .int .i64 pt] 31)).alloc (.cells #[.int .i64 0, .int .i64 0, .bool false, .bool false, .slice none 0 0, .int .i64 0, .int .i64 0, .slice none 0 0, .int .i64 0, .int .i64 0, .int .i64 0] 31) = W at *
  have z1 : ∀ t : Tw (fun w' => w'.cell? ⟨w.heap.size, 4, none⟩ = some (.slice fA fn fc) ∧ w'.cell? ⟨w.heap.size, 7, none⟩ = some (.slice gA gn gc)), t.w.cell? ⟨w.heap.size, 4, none⟩ = some (.slice fA fn fc) := fun t => t.h.1
  have z2 : ∀ t : Tw (fun w' => w'.cell? ⟨w.heap.size, 4, none⟩ = some (.slice fA fn fc) ∧ w'.cell? ⟨w.heap.size, 7, none⟩ = some (.slice gA gn gc)), t.w.cell? ⟨w.heap.size, 7, none⟩ = some (.slice gA gn gc) := fun t => t.h.2
  have zz : Nonempty (Tw (fun w' => w'.cell? ⟨w.heap.size, 4, none⟩ = some (.slice fA fn fc) ∧ w'.cell? ⟨w.heap.size, 7, none⟩ = some (.slice gA gn gc))) := ⟨⟨_, bx.cell 4, bx.cell 7⟩⟩
  replace bx := bx.drew
  replace br := br.drew
  replace bel := bel.drew
  refine wp_region_planT (fun w' => w'.cell? ⟨w.heap.size, 4, none⟩ = some (.slice fA fn fc) ∧ w'.cell? ⟨w.heap.size, 7, none⟩ = some (.slice gA gn gc)) [(0, true), (1, true), (2, true), (4, true), (5, true), (6, true), (3, false), (8, true), (9, true), (7, false)] [10, 11, 12, 13] (by kernel_rfl) (by kernel_rfl) (by kernel_rfl) (by kernel_rfl) ⟨bx.cell 4, bx.cell 7⟩ ?_
  generalize W.drew = W1 at *
  refine wpPh_qs 6 _ _ _ (by kernel_rfl) (by kernel_rfl) (by simp) ?_
  unfold clsS
  simp only [List.take_succ_cons, List.take_zero, List.drop_succ_cons, List.drop_zero, List.filterMap_cons, List.filterMap_nil, List.getElem?_toArray, List.getElem?_cons_zero, List.getElem?_cons_succ]
  repeat (first
    | go_big_quiet_skip
    | (go_big_quiet_want; go_big_quiet_op; go_big_quiet_on)
    | (refine id (?_ : wpQuiet _ _ _ _ (_ :: _) _); first | go_big_quiet_skip | (go_big_quiet_want; go_big_quiet_op; go_big_quiet_on)))
  refine wpQuiet_nil ?_
  refine wpPh_e _ (by rfl) (by kernel_rfl) (fun K hK => ?_)
  go_simp
  refine (k1.out _ bel).mono ?_
  rintro e w1 ⟨s, rfl, hs, hb⟩
  replace hs : SlO w1 w.heap.size s F := SlO.lower hs bel.size
  replace bx := bx.bel hb
  replace br := br.bel hb
  replace bel := bel_after bel hb
  clear hb
  refine hK _ _ ⟨bx.cell 4, bx.cell 7⟩ ?_
  clear hK K
  refine wpPh_qs 2 _ _ _ (by kernel_rfl) (by kernel_rfl) (by simp) ?_
  unfold clsS
  simp only [List.take_succ_cons, List.take_zero, List.drop_succ_cons, List.drop_zero, List.filterMap_cons, List.filterMap_nil, List.getElem?_toArray, List.getElem?_cons_zero, List.getElem?_cons_succ]
  repeat (first
    | go_big_quiet_skip
    | (go_big_quiet_want; go_big_quiet_op; go_big_quiet_on)
    | (refine id (?_ : wpQuiet _ _ _ _ (_ :: _) _); first | go_big_quiet_skip | (go_big_quiet_want; go_big_quiet_op; go_big_quiet_on)))
  refine wpQuiet_nil ?_
  refine wpPh_e _ (by rfl) (by kernel_rfl) (fun K hK => ?_)
  go_simp
  refine (k2.out _ bel).mono ?_
  rintro e w2 ⟨t, rfl, ht, hb⟩
  replace ht : SlO w2 w.heap.size t G := SlO.lower ht bel.size
  replace bx := bx.bel hb
  replace br := br.bel hb
  replace hs := hs.bel hb
  replace bel := bel_after bel hb
  clear hb z1 z2 zz k1 k2
  refine hK _ _ ⟨bx.cell 4, bx.cell 7⟩ ?_
  clear hK K
  unfold wpPh
  refine wpPt_e _ (by rfl) (by kernel_rfl) (fun K hK => ?_)
  have q4 := bx.cell 4
  have q4f := bx.frozen 4
  go_simp
  replace hs := hs.far bx (by decide) (Upd.one _ w.heap.size 4 (.slice s.A s.n s.c))
  replace ht := ht.far bx (by decide) (Upd.one _ w.heap.size 4 (.slice s.A s.n s.c))
  replace bx := bx.set_ 4 (.slice s.A s.n s.c)
  replace br := br.far (p := ⟨w.heap.size, 4, none⟩) (by simp) (.slice s.A s.n s.c)
  replace bel := bel.setCell (p := ⟨w.heap.size, 4, none⟩) (Nat.le_refl _) (.slice s.A s.n s.c)
  refine hK _ _ ?_
  clear hK K q4 q4f
  generalize w2.setCell ⟨w.heap.size, 4, none⟩ (.slice s.A s.n s.c) = W3 at *
  refine wpPt_e _ (by rfl) (by kernel_rfl) (fun K hK => ?_)
  go_simp
  refine hK _ _ ?_
  clear hK K
  refine wpPt_e _ (by rfl) (by kernel_rfl) (fun K hK => ?_)
  go_simp
  refine hK _ _ ?_
  clear hK K
  refine wpPt_e _ (by rfl) (by kernel_rfl) (fun K hK => ?_)
  have q7 := bx.cell 7
  have q7f := bx.frozen 7
  go_simp
  replace hs := hs.far bx (by decide) (Upd.one _ w.heap.size 7 (.slice t.A t.n t.c))
  replace ht := ht.far bx (by decide) (Upd.one _ w.heap.size 7 (.slice t.A t.n t.c))
  replace bx := bx.set_ 7 (.slice t.A t.n t.c)
  replace br := br.far (p := ⟨w.heap.size, 7, none⟩) (by simp) (.slice t.A t.n t.c)
  replace bel := bel.setCell (p := ⟨w.heap.size, 7, none⟩) (Nat.le_refl _) (.slice t.A t.n t.c)
  refine hK _ _ ?_
  clear hK K q7 q7f
  generalize W3.setCell ⟨w.heap.size, 7, none⟩ (.slice t.A t.n t.c) = W4 at *
  unfold wpPt
  refine NoPanic.normal ?_
  replace bx : Blk W4 w.heap.size 31 #[.int .i64 b, .int .i64 e, .bool en, .bool ou, .slice s.A s.n s.c, .int .i64 ti, .int .i64 po, .slice t.A t.n t.c, .int .i64 er, .int .i64 pr, .int .i64 pt] := bx
  have hss := hs.far br (by decide) (Upd.row' W4 (w.heap.size + 1) #[.int .i64 b, .int .i64 e, .bool en, .bool ou, .slice s.A s.n s.c, .int .i64 ti, .int .i64 po, .slice t.A t.n t.c, .int .i64 er, .int .i64 pr, .int .i64 pt])
  have htt := ht.far br (by decide) (Upd.row' W4 (w.heap.size + 1) #[.int .i64 b, .int .i64 e, .bool en, .bool ou, .slice s.A s.n s.c, .int .i64 ti, .int .i64 po, .slice t.A t.n t.c, .int .i64 er, .int .i64 pr, .int .i64 pt])
  go_wp2_with (first
    | (refine wpList_stRow rfl rfl rfl rfl rfl br en_size rfl (by simp [Value.oneCell']) ?_)
    | (refine wpList_ldRow rfl rfl rfl bx Try.underlying31 en_size ?_))
  exact bodyPost_ret (results_row rfl _ rfl (br.setRow _) Try.underlying31 en_size) rfl ⟨s, t, rfl, hss, htt, below_setRow bel (by omega) _⟩
/- The walks of package history: add, Begin, New, Now. -/
/-- a history at block gh, its entries in a row -/
structure HisM (W : World) (base gh : Nat) (now : Int) (v : Value) (l : List En) : Prop where
  obj : Blk W gh 66 #[.int .i64 now, v]
  row : OwnT En.cs 11 31 W base v l
def AddR (W : World) (base gh : Nat) (now : Int) (v : Value) (l : List En) (x : En) (F G : List Int) (r : Int) (e : Ending) (w' : World) : Prop :=
  ∃ v' s t, e = .returned (.int .i64 r) ∧ HisM w' base gh now v' (l ++ [{ x with f := s, g := t }]) ∧ SlO w' W.heap.size s F ∧ SlO w' W.heap.size t G ∧ Upd (fun k => k = gh ∨ v.ownBlock = some k) W w'
theorem HisM.row_ne {W : World} {base gh : Nat} {now : Int} {v : Value} {l : List En} (h : HisM W base gh now v l) : v.ownBlock ≠ some gh := by
  rcases h.row.row.2 with ⟨rfl, h0⟩ | ⟨g, cap, cur, rfl, hg, hh, _⟩
  · simp [Value.ownBlock]
  · intro e
    have e : g = gh := by simpa [Value.ownBlock] using e
    subst e
    exact Blk.ne_ (cs := cur) (t := 31) hh h.obj (by decide) rfl
theorem SlO.grown {w w' : World} {base : Nat} {s : Sl} {l : List Int} {row : Option Nat} (h : SlO w base s l) (hg : w.grownBy w' row) (hr : ∀ g, row = some g → g < base) : SlO w' base s l := by
  refine Own.keep h hg ?_
  cases hv : (Value.slice s.A s.n s.c).ownBlock with
  | none => exact .inl rfl
  | some g => exact .inr (fun e => by have := hr g e.symm; have := (Own.lt h g hv).1; omega)
set_option maxRecDepth 100000 in
set_option maxHeartbeats 4000000 in
theorem hadd_any (x : En) (F G : List Int) (base gh : Nat) (now : Int) (v : Value) (l : List En) (w : World) (hm : HisM w base gh now v l) (hbase : base ≤ w.heap.size) (hl : l.length ≤ 100) (hr : EnR w x F G) (hF : F.length ≤ 60000) (hG : G.length ≤ 60000) :
    Calls Try.prog 25 #[.pointer (some ⟨gh, 0, none⟩), .agg #[.int .i64 x.b, .int .i64 x.e, .bool x.ends, .bool x.out, .slice x.f.A x.f.n x.f.c, .int .i64 x.tick, .int .i64 x.port, .slice x.g.A x.g.n x.g.c, .int .i64 x.err, .int .i64 x.proto, .int .i64 x.pt]] w (AddR w base gh now v l x F G l.length) := by
  obtain ⟨i0, hi, hz0, hz1, hz2⟩ := info_parts en_info
  have hne := hm.row_ne
  have hgl := hm.obj.lt
  have ko := fun W (hb : Below w.heap.size w W) => hown_any x F G W ⟨hr.1.bel hb, hr.2.bel hb⟩ hF hG
  clear hr
  replace ko := Lib.hid ko
  go_enter Try.func25, Try.ntmps25
  go_upto_region 1 with fail
  have bx := Blk.new w 31 #[.int .i64 x.b, .int .i64 x.e, .bool x.ends, .bool x.out, .slice x.f.A x.f.n x.f.c, .int .i64 x.tick, .int .i64 x.port, .slice x.g.A x.g.n x.g.c, .int .i64 x.err, .int .i64 x.proto, .int .i64 x.pt]
  have bo := hm.obj.alloc (.cells #[.int .i64 x.b, .int .i64 x.e, .bool x.ends, .bool x.out, .slice x.f.A x.f.n x.f.c, .int .i64 x.tick, .int .i64 x.port, .slice x.g.A x.g.n x.g.c, .int .i64 x.err, .int .i64 x.proto, .int .i64 x.pt] 31)
  have ro := hm.row.alloc (.cells #[.int .i64 x.b, .int .i64 x.e, .bool x.ends, .bool x.out, .slice x.f.A x.f.n x.f.c, .int .i64 x.tick, .int .i64 x.port, .slice x.g.A x.g.n x.g.c, .int .i64 x.err, .int .i64 x.proto, .int .i64 x.pt] 31)
  have bel := bel_alloc w (.cells #[.int .i64 x.b, .int .i64 x.e, .bool x.ends, .bool x.out, .slice x.f.A x.f.n x.f.c, .int .i64 x.tick, .int .i64 x.port, .slice x.g.A x.g.n x.g.c, .int .i64 x.err, .int .i64 x.proto, .int .i64 x.pt] 31)
  generalize w.alloc (.cells #[.int .i64 x.b, .int .i64 x.e, .bool x.ends, .bool x.out, .slice x.f.A x.f.n x.f.c, .int .i64 x.tick, .int .i64 x.port, .slice x.g.A x.g.n x.g.c, .int .i64 x.err, .int .i64 x.proto, .int .i64 x.pt] 31) = W at *
  have z1 : ∀ t : Tw (fun w' => w'.cell? ⟨gh, 1, none⟩ = some v ∧ Blk w' w.heap.size 31 #[.int .i64 x.b, .int .i64 x.e, .bool x.ends, .bool x.out, .slice x.f.A x.f.n x.f.c, .int .i64 x.tick, .int .i64 x.port, .slice x.g.A x.g.n x.g.c, .int .i64 x.err, .int .i64 x.proto, .int .i64 x.pt]), t.w.cell? ⟨gh, 1, none⟩ = some v := fun t => t.h.1
  have z2 : ∀ w', (∃ t : Tw (fun w' => w'.cell? ⟨gh, 1, none⟩ = some v ∧ Blk w' w.heap.size 31 #[.int .i64 x.b, .int .i64 x.e, .bool x.ends, .bool x.out, .slice x.f.A x.f.n x.f.c, .int .i64 x.tick, .int .i64 x.port, .slice x.g.A x.g.n x.g.c, .int .i64 x.err, .int .i64 x.proto, .int .i64 x.pt]), w' = t.w) → Blk w' w.heap.size 31 #[.int .i64 x.b, .int .i64 x.e, .bool x.ends, .bool x.out, .slice x.f.A x.f.n x.f.c, .int .i64 x.tick, .int .i64 x.port, .slice x.g.A x.g.n x.g.c, .int .i64 x.err, .int .i64 x.proto, .int .i64 x.pt] := fun w' ⟨t, ht⟩ => ht ▸ t.h.2
  have zz : Nonempty (Tw (fun w' => w'.cell? ⟨gh, 1, none⟩ = some v ∧ Blk w' w.heap.size 31 #[.int .i64 x.b, .int .i64 x.e, .bool x.ends, .bool x.out, .slice x.f.A x.f.n x.f.c, .int .i64 x.tick, .int .i64 x.port, .slice x.g.A x.g.n x.g.c, .int .i64 x.err, .int .i64 x.proto, .int .i64 x.pt])) := ⟨⟨_, bo.cell 1, bx⟩⟩
  replace bx := bx.drew
  replace bo := bo.drew
  replace ro := ro.drew
  replace bel := bel.drew
  refine wp_region_planT (fun w' => w'.cell? ⟨gh, 1, none⟩ = some v ∧ Blk w' w.heap.size 31 #[.int .i64 x.b, .int .i64 x.e, .bool x.ends, .bool x.out, .slice x.f.A x.f.n x.f.c, .int .i64 x.tick, .int .i64 x.port, .slice x.g.A x.g.n x.g.c, .int .i64 x.err, .int .i64 x.proto, .int .i64 x.pt]) [(0, true), (1, true), (2, true), (3, true), (4, true), (5, true), (6, false), (7, false), (8, false), (9, true), (10, true)] [11] (by kernel_rfl) (by kernel_rfl) (by kernel_rfl) (by kernel_rfl) ⟨bo.cell 1, bx⟩ ?_
  generalize W.drew = W1 at *
  refine wpPh_qs 6 _ _ _ (by kernel_rfl) (by kernel_rfl) (by simp) ?_
  unfold clsS
  simp only [List.take_succ_cons, List.take_zero, List.drop_succ_cons, List.drop_zero, List.filterMap_cons, List.filterMap_nil, List.getElem?_toArray, List.getElem?_cons_zero, List.getElem?_cons_succ]
  repeat (first
    | go_big_quiet_skip
    | (go_big_quiet_want; first | (refine quiet_ldRow rfl rfl z2 Try.underlying31 en_size ?_; go_simp; go_big_quiet_on) | (go_big_quiet_op; go_big_quiet_on))
    | (refine id (?_ : wpQuiet _ _ _ _ (_ :: _) _); first | go_big_quiet_skip | (go_big_quiet_want; first | (refine quiet_ldRow rfl rfl z2 Try.underlying31 en_size ?_; go_simp; go_big_quiet_on) | (go_big_quiet_op; go_big_quiet_on))))
  refine wpQuiet_nil ?_
  refine wpPh_e _ (by rfl) (by kernel_rfl) (fun K hK => ?_)
  go_simp
  refine (ko.out _ bel).mono ?_
  rintro e w1 ⟨s, t, rfl, hs, ht, hb⟩
  replace hs : SlO w1 w.heap.size s F := SlO.lower hs bel.size
  replace ht : SlO w1 w.heap.size t G := SlO.lower ht bel.size
  replace bx := bx.bel hb
  replace bo := bo.bel hb
  replace ro := ro.below hb
  replace bel := bel_after bel hb
  clear hb ko
  refine hK _ _ ⟨bo.cell 1, bx⟩ ?_
  clear hK K
  have hx := RdT.new (cs := En.cs) (sz := 11) En.cs_len w1 31 [{ x with f := s, g := t }] #[.int .i64 { x with f := s, g := t }.b, .int .i64 { x with f := s, g := t }.e, .bool { x with f := s, g := t }.ends, .bool { x with f := s, g := t }.out, .slice { x with f := s, g := t }.f.A { x with f := s, g := t }.f.n { x with f := s, g := t }.f.c, .int .i64 { x with f := s, g := t }.tick, .int .i64 { x with f := s, g := t }.port, .slice { x with f := s, g := t }.g.A { x with f := s, g := t }.g.n { x with f := s, g := t }.g.c, .int .i64 { x with f := s, g := t }.err, .int .i64 { x with f := s, g := t }.proto, .int .i64 { x with f := s, g := t }.pt] rfl 1 rfl
  replace bx := bx.alloc (.cells #[.int .i64 { x with f := s, g := t }.b, .int .i64 { x with f := s, g := t }.e, .bool { x with f := s, g := t }.ends, .bool { x with f := s, g := t }.out, .slice { x with f := s, g := t }.f.A { x with f := s, g := t }.f.n { x with f := s, g := t }.f.c, .int .i64 { x with f := s, g := t }.tick, .int .i64 { x with f := s, g := t }.port, .slice { x with f := s, g := t }.g.A { x with f := s, g := t }.g.n { x with f := s, g := t }.g.c, .int .i64 { x with f := s, g := t }.err, .int .i64 { x with f := s, g := t }.proto, .int .i64 { x with f := s, g := t }.pt] 31)
  replace bo := bo.alloc (.cells #[.int .i64 { x with f := s, g := t }.b, .int .i64 { x with f := s, g := t }.e, .bool { x with f := s, g := t }.ends, .bool { x with f := s, g := t }.out, .slice { x with f := s, g := t }.f.A { x with f := s, g := t }.f.n { x with f := s, g := t }.f.c, .int .i64 { x with f := s, g := t }.tick, .int .i64 { x with f := s, g := t }.port, .slice { x with f := s, g := t }.g.A { x with f := s, g := t }.g.n { x with f := s, g := t }.g.c, .int .i64 { x with f := s, g := t }.err, .int .i64 { x with f := s, g := t }.proto, .int .i64 { x with f := s, g := t }.pt] 31)
  replace ro := ro.alloc (.cells #[.int .i64 { x with f := s, g := t }.b, .int .i64 { x with f := s, g := t }.e, .bool { x with f := s, g := t }.ends, .bool { x with f := s, g := t }.out, .slice { x with f := s, g := t }.f.A { x with f := s, g := t }.f.n { x with f := s, g := t }.f.c, .int .i64 { x with f := s, g := t }.tick, .int .i64 { x with f := s, g := t }.port, .slice { x with f := s, g := t }.g.A { x with f := s, g := t }.g.n { x with f := s, g := t }.g.c, .int .i64 { x with f := s, g := t }.err, .int .i64 { x with f := s, g := t }.proto, .int .i64 { x with f := s, g := t }.pt] 31)
  replace hs := hs.bel (bel_alloc w1 (.cells #[.int .i64 { x with f := s, g := t }.b, .int .i64 { x with f := s, g := t }.e, .bool { x with f := s, g := t }.ends, .bool { x with f := s, g := t }.out, .slice { x with f := s, g := t }.f.A { x with f := s, g := t }.f.n { x with f := s, g := t }.f.c, .int .i64 { x with f := s, g := t }.tick, .int .i64 { x with f := s, g := t }.port, .slice { x with f := s, g := t }.g.A { x with f := s, g := t }.g.n { x with f := s, g := t }.g.c, .int .i64 { x with f := s, g := t }.err, .int .i64 { x with f := s, g := t }.proto, .int .i64 { x with f := s, g := t }.pt] 31))
  replace ht := ht.bel (bel_alloc w1 (.cells #[.int .i64 { x with f := s, g := t }.b, .int .i64 { x with f := s, g := t }.e, .bool { x with f := s, g := t }.ends, .bool { x with f := s, g := t }.out, .slice { x with f := s, g := t }.f.A { x with f := s, g := t }.f.n { x with f := s, g := t }.f.c, .int .i64 { x with f := s, g := t }.tick, .int .i64 { x with f := s, g := t }.port, .slice { x with f := s, g := t }.g.A { x with f := s, g := t }.g.n { x with f := s, g := t }.g.c, .int .i64 { x with f := s, g := t }.err, .int .i64 { x with f := s, g := t }.proto, .int .i64 { x with f := s, g := t }.pt] 31))
  replace bel := bel.alloc bel.size (.cells #[.int .i64 { x with f := s, g := t }.b, .int .i64 { x with f := s, g := t }.e, .bool { x with f := s, g := t }.ends, .bool { x with f := s, g := t }.out, .slice { x with f := s, g := t }.f.A { x with f := s, g := t }.f.n { x with f := s, g := t }.f.c, .int .i64 { x with f := s, g := t }.tick, .int .i64 { x with f := s, g := t }.port, .slice { x with f := s, g := t }.g.A { x with f := s, g := t }.g.n { x with f := s, g := t }.g.c, .int .i64 { x with f := s, g := t }.err, .int .i64 { x with f := s, g := t }.proto, .int .i64 { x with f := s, g := t }.pt] 31)
  refine wpPh_e _ (by rfl) (by kernel_rfl) (fun K hK => ?_)
  go_simp
  refine hK _ _ ⟨bo.cell 1, bx⟩ ?_
  clear hK K
  generalize w1.alloc (.cells #[.int .i64 { x with f := s, g := t }.b, .int .i64 { x with f := s, g := t }.e, .bool { x with f := s, g := t }.ends, .bool { x with f := s, g := t }.out, .slice { x with f := s, g := t }.f.A { x with f := s, g := t }.f.n { x with f := s, g := t }.f.c, .int .i64 { x with f := s, g := t }.tick, .int .i64 { x with f := s, g := t }.port, .slice { x with f := s, g := t }.g.A { x with f := s, g := t }.g.n { x with f := s, g := t }.g.c, .int .i64 { x with f := s, g := t }.err, .int .i64 { x with f := s, g := t }.proto, .int .i64 { x with f := s, g := t }.pt] 31) = w2 at *
  have hvl : v.ownBlock ≠ some w.heap.size := fun e => by have := (hm.row.lt _ e).2; omega
  have hvlt : ∀ g, v.ownBlock = some g → g < w.heap.size := fun g e => (hm.row.lt g e).2
  refine wpPh_e _ (by rfl) (by kernel_rfl) (fun K hK => ?_)
  refine wp_appT En.cs_len En.cs_one (by decide) _ (.tmp 9) (.tmp 12) 23 rfl base 31 i0 (.agg #[.int .i64 0, .int .i64 0, .bool false, .bool false, .slice none 0 0, .int .i64 0, .int .i64 0, .slice none 0 0, .int .i64 0, .int .i64 0, .int .i64 0]) 120 Try.underlying23 hi hz0 hz1 hz2 rfl v rfl l ro _ _ 1 1 rfl [{ x with f := s, g := t }] hx (by omega) (by decide) (by have := bel.size; omega) ?_
  intro v' w3 own3 hg3 hv3
  have hlen : (l ++ [{ x with f := s, g := t }]).length = l.length + 1 := by simp
  obtain ⟨A', c', rfl, e1, e2⟩ := own3.form hlen
  go_simp
  replace bx := bx.grown hg3 hvl
  replace bo := bo.grown hg3 hne
  replace hs := hs.grown hg3 hvlt
  replace ht := ht.grown hg3 hvlt
  have up : Upd (fun k => k = gh ∨ v.ownBlock = some k) w w3 := (Upd.of_below bel _).trans (Upd.of_grown hg3 (fun g e => .inr e))
  have hne2 : (Value.slice A' (l.length + 1) c').ownBlock ≠ some gh := by
    rcases hv3 with e | e
    · rw [e]; exact hne
    · rw [e]; intro e2; injection e2 with e2; have := bel.size; omega
  refine hK _ _ ⟨bo.cell 1, bx⟩ ?_
  clear hK K hg3 hv3 ro hx bel
  refine wpPh_qs 2 _ _ _ (by kernel_rfl) (by kernel_rfl) (by simp) ?_
  unfold clsS
  simp only [List.take_succ_cons, List.take_zero, List.drop_succ_cons, List.drop_zero, List.filterMap_cons, List.filterMap_nil, List.getElem?_toArray, List.getElem?_cons_zero, List.getElem?_cons_succ]
  repeat (first
    | go_big_quiet_skip
    | (go_big_quiet_want; go_big_quiet_op; go_big_quiet_on)
    | (refine id (?_ : wpQuiet _ _ _ _ (_ :: _) _); first | go_big_quiet_skip | (go_big_quiet_want; go_big_quiet_op; go_big_quiet_on)))
  refine wpQuiet_nil ?_
  unfold wpPh
  refine wpPt_e _ (by rfl) (by kernel_rfl) (fun K hK => ?_)
  have q1 := bo.cell 1
  have q1f := bo.frozen 1
  go_simp
  replace hs := hs.far bo (by decide) (Upd.one _ gh 1 (.slice A' (l.length + 1) c'))
  replace ht := ht.far bo (by decide) (Upd.one _ gh 1 (.slice A' (l.length + 1) c'))
  replace own3 := own3.upd (Upd.one _ gh 1 (.slice A' (l.length + 1) c')) (fun g e e2 => by rw [e2] at e; exact hne2 e)
  replace up := up.setCell (p := ⟨gh, 1, none⟩) (fun _ => .inl rfl) (.slice A' (l.length + 1) c')
  replace bo := bo.set_ 1 (.slice A' (l.length + 1) c')
  refine hK _ _ ?_
  clear hK K q1 q1f
  generalize w3.setCell ⟨gh, 1, none⟩ (.slice A' (l.length + 1) c') = w4 at *
  unfold wpPt
  refine NoPanic.normal ?_
  replace bo : Blk w4 gh 66 #[.int .i64 now, .slice A' (l.length + 1) c'] := bo
  have q1 := bo.cell 1
  clear hne hvl hvlt hlen
  generalize hn : l.length = n at *
  replace hn := Lib.hid hn
  go_wp2
  go_ret
  exact ⟨_, s, t, rfl, ⟨bo, own3⟩, hs, ht, up⟩
theorem ca_size : (Try.prog.info? 26).map (·.size) = some 4 := by kernel_rfl
/-- what Begin leaves -/
def BegR (w : World) (base gh : Nat) (now : Int) (v : Value) (l : List En) (ou : Bool) (ti po : Int) (F : List Int) (r : Int) (e : Ending) (w' : World) : Prop :=
  ∃ v' s t, e = .returned (.int .i64 r) ∧ HisM w' base gh (now + 1) v' (l ++ [⟨now + 1, -1, false, ou, s, ti, po, t, 0, 0, 0⟩]) ∧ SlO w' w.heap.size s F ∧ SlO w' w.heap.size t [] ∧ Upd (fun k => k = gh ∨ v.ownBlock = some k) w w'
set_option maxRecDepth 100000 in
set_option maxHeartbeats 4000000 in
theorem hBegin_any (ou : Bool) (fA : Option Addr) (fn fc : Nat) (ti po : Int) (F : List Int) (base gh : Nat) (now : Int) (v : Value) (l : List En) (w : World) (hm : HisM w base gh now v l) (hbase : base ≤ w.heap.size) (hl : l.length ≤ 100) (hnow : 0 ≤ now ∧ now ≤ 1000) (hr : SlR w ⟨fA, fn, fc⟩ F) (hF : F.length ≤ 60000) :
    Calls Try.prog 14 #[.pointer (some ⟨gh, 0, none⟩), .agg #[.bool ou, .slice fA fn fc, .int .i64 ti, .int .i64 po]] w (BegR w base gh now v l ou ti po F l.length) := by
  have hne := hm.row_ne
  have hgl := hm.obj.lt
  have hvlt : ∀ g, v.ownBlock = some g → g < w.heap.size := fun g e => (hm.row.lt g e).2
  have ka := fun W (hb : Upd (fun k => k = gh) w W) (hM : HisM W base gh (now + 1) v l) => hadd_any ⟨now + 1, -1, false, ou, ⟨fA, fn, fc⟩, ti, po, ⟨none, 0, 0⟩, 0, 0, 0⟩ F [] base gh (now + 1) v l W hM (by have := hb.size; omega) hl ⟨⟨by
      refine ⟨hr.1.len, hr.1.rng, fun hn => ?_⟩
      obtain ⟨b, o, e, hlt, hc⟩ := hr.1.cel hn
      have hbg : b ≠ gh := fun e => by
        have h0 := hc 0 hn
        rw [e, hm.obj.cell] at h0
        have h1 : ∀ i : Nat, (#[Value.int .i64 now, v] : Array Value)[i]? ≠ some (Value.int .u8 (F.getD 0 0)) := by
          intro i h
          match i with
          | 0 => simp at h
          | 1 =>
            obtain ⟨A, c, hv, _⟩ := hm.row.form rfl
            rw [hv] at h; simp at h
          | n + 2 => simp at h
        exact h1 _ h0
      exact ⟨b, o, e, by have := hb.size; omega, fun j hj => (World.cell?_of_block (hb.block b (by omega) hbg)).trans (hc j hj)⟩, hr.2⟩, Rd.nil _ _ _ _, by simp, by simp⟩ hF (by simp)
  simp only at ka
  have q0 := hm.obj.cell 0
  have q0f := hm.obj.frozen 0
  clear hr
  replace ka := Lib.hid ka
  go_enter Try.func14, Try.ntmps14
  go_upto_region 4 with fail
  have up0 : Upd (fun k => k = gh) w ((w.setCell ⟨gh, 0, none⟩ (.int .i64 (now + 1))).alloc (.cells #[.bool ou, .slice fA fn fc, .int .i64 ti, .int .i64 po] 26)) := (Upd.one w gh 0 _).alloc _
  have bx := Blk.new (w.setCell ⟨gh, 0, none⟩ (.int .i64 (now + 1))) 26 #[.bool ou, .slice fA fn fc, .int .i64 ti, .int .i64 po]
  rw [show (w.setCell ⟨gh, 0, none⟩ (.int .i64 (now + 1))).heap.size = w.heap.size by simp [World.setCell]] at bx
  have hM : HisM ((w.setCell ⟨gh, 0, none⟩ (.int .i64 (now + 1))).alloc (.cells #[.bool ou, .slice fA fn fc, .int .i64 ti, .int .i64 po] 26)) base gh (now + 1) v l :=
    ⟨(hm.obj.set_ 0 _).alloc _, (hm.row.upd (Upd.one _ gh 0 _) (fun g e e2 => by rw [e2] at e; exact hne e)).alloc _⟩
  generalize (w.setCell ⟨gh, 0, none⟩ (.int .i64 (now + 1))).alloc (.cells #[.bool ou, .slice fA fn fc, .int .i64 ti, .int .i64 po] 26) = W at *
  clear q0 q0f
  have z1 : ∀ t : Tw (fun w' => w'.cell? ⟨gh, 0, none⟩ = some (.int .i64 (now + 1)) ∧ Blk w' w.heap.size 26 #[.bool ou, .slice fA fn fc, .int .i64 ti, .int .i64 po]), t.w.cell? ⟨gh, 0, none⟩ = some (.int .i64 (now + 1)) := fun t => t.h.1
  have z2 : ∀ w', (∃ t : Tw (fun w' => w'.cell? ⟨gh, 0, none⟩ = some (.int .i64 (now + 1)) ∧ Blk w' w.heap.size 26 #[.bool ou, .slice fA fn fc, .int .i64 ti, .int .i64 po]), w' = t.w) → Blk w' w.heap.size 26 #[.bool ou, .slice fA fn fc, .int .i64 ti, .int .i64 po] := fun w' ⟨t, ht⟩ => ht ▸ t.h.2
  have zz : Nonempty (Tw (fun w' => w'.cell? ⟨gh, 0, none⟩ = some (.int .i64 (now + 1)) ∧ Blk w' w.heap.size 26 #[.bool ou, .slice fA fn fc, .int .i64 ti, .int .i64 po])) := ⟨⟨_, hM.obj.cell 0, bx⟩⟩
  replace bx := bx.drew
  replace up0 := up0.drew
  replace hM : HisM W.drew base gh (now + 1) v l := ⟨hM.obj.drew, hM.row.drew⟩
  refine wp_region_plan (fun w' => w'.cell? ⟨gh, 0, none⟩ = some (.int .i64 (now + 1)) ∧ Blk w' w.heap.size 26 #[.bool ou, .slice fA fn fc, .int .i64 ti, .int .i64 po]) [(0, true), (1, true), (2, true), (3, true), (4, true), (5, true), (6, true), (7, false), (8, true)] (by kernel_rfl) (by kernel_rfl) (by kernel_rfl) (by kernel_rfl) ⟨hM.obj.cell 0, bx⟩ ?_
  generalize W.drew = W1 at *
  refine wpPl_qs 7 _ _ _ (by kernel_rfl) (by kernel_rfl) (by simp) ?_
  unfold clsS
  simp only [List.take_succ_cons, List.take_zero, List.drop_succ_cons, List.drop_zero, List.filterMap_cons, List.filterMap_nil, List.getElem?_toArray, List.getElem?_cons_zero, List.getElem?_cons_succ]
  repeat (first
    | go_big_quiet_skip
    | (go_big_quiet_want; first | (refine quiet_ldRow rfl rfl z2 Try.underlying26 ca_size ?_; go_simp; go_big_quiet_on) | (go_big_quiet_op; go_big_quiet_on))
    | (refine id (?_ : wpQuiet _ _ _ _ (_ :: _) _); first | go_big_quiet_skip | (go_big_quiet_want; first | (refine quiet_ldRow rfl rfl z2 Try.underlying26 ca_size ?_; go_simp; go_big_quiet_on) | (go_big_quiet_op; go_big_quiet_on))))
  refine wpQuiet_nil ?_
  refine wpPl_e _ (by rfl) (by kernel_rfl) (fun K hK => ?_)
  go_simp
  refine (ka.out _ up0 hM).mono ?_
  rintro e w1 ⟨v', s, t, rfl, hM', hs, ht, up⟩
  have bx' := bx.upd up (fun h => by
    rcases h with h | h
    · omega
    · have := hvlt _ h; omega)
  refine hK _ _ ⟨hM'.obj.cell 0, bx'⟩ ?_
  clear hK K
  refine wpPl_qs 1 _ _ _ (by kernel_rfl) (by kernel_rfl) (by simp) ?_
  unfold clsS
  simp only [List.take_succ_cons, List.take_zero, List.drop_succ_cons, List.drop_zero, List.filterMap_cons, List.filterMap_nil, List.getElem?_toArray, List.getElem?_cons_zero, List.getElem?_cons_succ]
  repeat (first
    | go_big_quiet_skip
    | (go_big_quiet_want; go_big_quiet_op; go_big_quiet_on)
    | (refine id (?_ : wpQuiet _ _ _ _ (_ :: _) _); first | go_big_quiet_skip | (go_big_quiet_want; go_big_quiet_op; go_big_quiet_on)))
  refine wpQuiet_nil ?_
  unfold wpPl
  refine NoPanic.normal ?_
  go_wp2
  go_ret
  exact ⟨v', s, t, rfl, hM', SlO.lower hs up0.size, SlO.lower ht up0.size, (up0.mono (fun _ _ h => .inl h)).trans up⟩
theorem hNow_any (base gh : Nat) (now : Int) (v : Value) (l : List En) (w : World) (hm : HisM w base gh now v l) :
    Calls Try.prog 17 #[.pointer (some ⟨gh, 0, none⟩)] w fun e w' => e = .returned (.int .i64 now) ∧ w = w' := by
  have q0 := hm.obj.cell 0
  go_enter Try.func17, Try.ntmps17
  go_wp2
  go_ret
  exact ⟨rfl, rfl⟩
theorem hNew_any (w : World) : Calls Try.prog 19 #[] w fun e w' => e = .returned (.pointer (some ⟨w.heap.size, 0, none⟩)) ∧ HisM w' w.heap.size w.heap.size 0 (.slice none 0 0) [] ∧ Below w.heap.size w w' := by
  go_enter Try.func19, Try.ntmps19
  go_wp2
  go_ret
  exact ⟨rfl, ⟨Blk.new _ _ _, ⟨World.ownsRow_nil _ _ _ _⟩⟩, bel_alloc _ _⟩
/- The walks of package history: Ahead, on, Right, Width, and the document's. -/
def aheadB (x y : En) : Bool := (x.e != -1) && decide (x.e < y.b)
def onB (x : En) (at_ : Int) : Bool := decide (x.b ≤ at_) && ((x.e == -1) || decide (at_ < x.e))
def badB (x : En) : Bool := decide (x.b < 1) || (decide (x.e ≤ x.b) && !((x.e == -1) && !x.ends))
def rightB (l : List En) : Bool := l.all fun x => !badB x
def cntL (l : List En) (at_ : Int) : Nat := (l.filter fun x => onB x at_).length
def widL (l : List En) (k : Nat) : Nat := (l.take k).foldl (fun m x => max m (cntL l x.b)) 0
def widthL (l : List En) : Nat := if rightB l then widL l l.length else 0
theorem widL_succ (l : List En) (k : Nat) (x : En) (h : l[k]? = some x) : widL l (k + 1) = max (widL l k) (cntL l x.b) := by
  have hk : k < l.length := (List.getElem?_eq_some_iff.1 h).1
  have hx : l[k] = x := by have := List.getElem?_eq_getElem hk; rw [this] at h; exact Option.some.inj h
  unfold widL
  rw [List.take_succ_eq_append_getElem hk, List.foldl_append, hx]
  rfl
theorem cntT_succ (l : List En) (k : Nat) (x : En) (at_ : Int) (h : l[k]? = some x) : ((l.take (k + 1)).filter fun x => onB x at_).length = ((l.take k).filter fun x => onB x at_).length + (if onB x at_ then 1 else 0) := by
  have hk : k < l.length := (List.getElem?_eq_some_iff.1 h).1
  have hx : l[k] = x := by have := List.getElem?_eq_getElem hk; rw [this] at h; exact Option.some.inj h
  rw [List.take_succ_eq_append_getElem hk, hx, List.filter_append, List.length_append]
  congr 1
  cases hh : onB x at_ <;> simp [List.filter_cons, hh]
set_option maxRecDepth 100000 in
theorem Ahead_any (x y : En) (w : World) : Calls Try.prog 12 #[.agg #[.int .i64 x.b, .int .i64 x.e, .bool x.ends, .bool x.out, .slice x.f.A x.f.n x.f.c, .int .i64 x.tick, .int .i64 x.port, .slice x.g.A x.g.n x.g.c, .int .i64 x.err, .int .i64 x.proto, .int .i64 x.pt], .agg #[.int .i64 y.b, .int .i64 y.e, .bool y.ends, .bool y.out, .slice y.f.A y.f.n y.f.c, .int .i64 y.tick, .int .i64 y.port, .slice y.g.A y.g.n y.g.c, .int .i64 y.err, .int .i64 y.proto, .int .i64 y.pt]] w fun e w' => e = .returned (.bool (aheadB x y)) ∧ Below w.heap.size w w' := by
  obtain ⟨b, e, en, ou, f, ti, po, g, er, pr, pt⟩ := x
  obtain ⟨b2, e2, en2, ou2, f2, ti2, po2, g2, er2, pr2, pt2⟩ := y
  unfold aheadB
  simp only
  cases h1 : (e != -1) with
  | false =>
    go_enter Try.func12, Try.ntmps12
    go_wp2
    go_ret
    exact ⟨by simp, (bel_alloc _ _).alloc (by simp) _⟩
  | true =>
    cases h2 : decide (e < b2) with
    | false =>
      go_enter Try.func12, Try.ntmps12
      go_wp2
      go_ret
      exact ⟨by simp, (bel_alloc _ _).alloc (by simp) _⟩
    | true =>
      go_enter Try.func12, Try.ntmps12
      go_wp2
      go_ret
      exact ⟨by simp, (bel_alloc _ _).alloc (by simp) _⟩
set_option maxRecDepth 100000 in
theorem on_any (x : En) (at_ : Int) (w : World) : Calls Try.prog 24 #[.agg #[.int .i64 x.b, .int .i64 x.e, .bool x.ends, .bool x.out, .slice x.f.A x.f.n x.f.c, .int .i64 x.tick, .int .i64 x.port, .slice x.g.A x.g.n x.g.c, .int .i64 x.err, .int .i64 x.proto, .int .i64 x.pt], .int .i64 at_] w fun e w' => e = .returned (.bool (onB x at_)) ∧ Below w.heap.size w w' := by
  obtain ⟨b, e, en, ou, f, ti, po, g, er, pr, pt⟩ := x
  unfold onB
  simp only
  cases h1 : decide (b ≤ at_) with
  | false =>
    go_enter Try.func24, Try.ntmps24
    go_wp2
    go_ret
    exact ⟨by simp, bel_alloc _ _⟩
  | true =>
    cases h2 : (e == -1) with
    | true =>
      go_enter Try.func24, Try.ntmps24
      go_wp2
      go_ret
      exact ⟨by simp, bel_alloc _ _⟩
    | false =>
      cases h3 : decide (at_ < e) with
      | true =>
        go_enter Try.func24, Try.ntmps24
        go_wp2
        go_ret
        exact ⟨by simp, bel_alloc _ _⟩
      | false =>
        go_enter Try.func24, Try.ntmps24
        go_wp2
        go_ret
        exact ⟨by simp, bel_alloc _ _⟩
theorem rightB_of (l : List En) (h : ∀ (j : Nat) x, l[j]? = some x → badB x = false) : rightB l = true := by
  unfold rightB
  rw [List.all_eq_true]
  intro x hx
  obtain ⟨j, hj, rfl⟩ := List.getElem_of_mem hx
  rw [h j _ (List.getElem?_eq_getElem hj)]; rfl
theorem rightB_not {l : List En} {j : Nat} {x : En} (hj : l[j]? = some x) (h : badB x = true) : rightB l = false := by
  unfold rightB
  cases ha : l.all fun x => !badB x with
  | false => rfl
  | true =>
    rw [List.all_eq_true] at ha
    have := ha x (List.mem_of_getElem? hj)
    rw [h] at this; cases this
set_option maxRecDepth 100000 in
set_option maxHeartbeats 4000000 in
theorem hRight_any (l : List En) (B : Nat) (A : Option Addr) (n c : Nat) (w : World) (h : RdT En.cs 11 w B A n l) (hB : B ≤ w.heap.size) (hl : n ≤ 1000) (hnc : n ≤ c) (hcm : c ≤ maxLen) :
    Calls Try.prog 8 #[.slice A n c] w fun e w' => e = .returned (.bool (rightB l)) ∧ Below w.heap.size w w' := by
  have hn := h.len
  unfold maxLen at hcm
  replace hn := Lib.hid hn
  go_enter Try.func8, Try.ntmps8
  go_wp2
  go_loopw [8] (fun i wr => ∃ k : Nat, k ≤ n ∧ i = .int .i64 k ∧ Below w.heap.size w wr ∧ ∀ (j : Nat) x, j < k → l[j]? = some x → badB x = false) (fun i _ => n - (intOf i).toNat)
  case atStart => exact ⟨0, by omega, rfl, Below.refl _ _, fun j x hj => by omega⟩
  case round =>
    obtain ⟨k, hk, rfl, bel, hall⟩ := hrel
    replace hall := Lib.hid hall
    rcases Nat.lt_or_ge k n with hkn | hkn
    · have d1 : decide ((k : Int) < (n : Int)) = true := by simpa using hkn
      have d2 : decide (k < n) = true := by simpa using hkn
      obtain ⟨g, o, rfl, hg, hcel⟩ := h.cel (by omega)
      obtain ⟨x, hx⟩ : ∃ x, l[k]? = some x := ⟨_, List.getElem?_eq_getElem (by rw [hn.out]; omega)⟩
      have hc : ∀ j u, x.cs[j]? = some u → wr.cell? ⟨g, o + k * 11 + j, none⟩ = some u := fun j u hu => (bel.cell (p := ⟨g, o + k * 11 + j, none⟩) (by show g < _; omega)).trans (hcel k x hx j u hu)
      obtain ⟨b, e, en, ou, ⟨fA, fn, fc⟩, ti, po, ⟨gA, gn, gc⟩, er, pr, pt⟩ := x
      replace hx := Lib.hid hx
      have k0 : (0 : Int) ≤ (k : Int) := by omega
      have k1 : (k : Int) < (n : Int) := by omega
      cases h1 : (e == -1) with
      | false =>
        cases h2 : decide (b < 1) with
        | true =>
          have hbd : Hid (badB ⟨b, e, en, ou, ⟨fA, fn, fc⟩, ti, po, ⟨gA, gn, gc⟩, er, pr, pt⟩ = true) := Lib.hid (by unfold badB; simp [h1, h2])
          replace hc : ∀ j u, ([.int .i64 b, .int .i64 e, .bool en, .bool ou, .slice fA fn fc, .int .i64 ti, .int .i64 po, .slice gA gn gc, .int .i64 er, .int .i64 pr, .int .i64 pt] : List Value)[j]? = some u → wr.cell? ⟨g, o + k * 11 + j, none⟩ = some u := hc
          have bx := (Blk.new wr 31 #[.int .i64 0, .int .i64 0, .bool false, .bool false, .slice none 0 0, .int .i64 0, .int .i64 0, .slice none 0 0, .int .i64 0, .int .i64 0, .int .i64 0]).setRow #[.int .i64 b, .int .i64 e, .bool en, .bool ou, .slice fA fn fc, .int .i64 ti, .int .i64 po, .slice gA gn gc, .int .i64 er, .int .i64 pr, .int .i64 pt]
          have belr := below_setRow (bel.alloc bel.size (.cells #[.int .i64 0, .int .i64 0, .bool false, .bool false, .slice none 0 0, .int .i64 0, .int .i64 0, .slice none 0 0, .int .i64 0, .int .i64 0, .int .i64 0] 31)) bel.size #[.int .i64 b, .int .i64 e, .bool en, .bool ou, .slice fA fn fc, .int .i64 ti, .int .i64 po, .slice gA gn gc, .int .i64 er, .int .i64 pr, .int .i64 pt]
          go_upto_region 4 with (first
            | (refine wpList_ldAt rfl rfl rfl hc Try.underlying31 en_size ?_)
            | (refine wpList_stRow rfl rfl rfl rfl rfl (Blk.new wr _ _) en_size rfl (by simp [Value.oneCell']) ?_; generalize (wr.alloc (.cells #[.int .i64 0, .int .i64 0, .bool false, .bool false, .slice none 0 0, .int .i64 0, .int .i64 0, .slice none 0 0, .int .i64 0, .int .i64 0, .int .i64 0] 31)).setRow wr.heap.size #[.int .i64 b, .int .i64 e, .bool en, .bool ou, .slice fA fn fc, .int .i64 ti, .int .i64 po, .slice gA gn gc, .int .i64 er, .int .i64 pr, .int .i64 pt] = W1 at *; generalize wr.heap.size = g1 at *))
          have q0 := bx.cell 0
          have q1 := bx.cell 1
          have q2 := bx.cell 2
          clear hc bx h hcel bel
          go_wp2_with fail
          go_ret
          refine ⟨?_, belr⟩
          rw [rightB_not hx.out hbd.out]
          rfl
        | false =>
          cases h3 : decide (e ≤ b) with
          | true =>
            have hbd : Hid (badB ⟨b, e, en, ou, ⟨fA, fn, fc⟩, ti, po, ⟨gA, gn, gc⟩, er, pr, pt⟩ = true) := Lib.hid (by unfold badB; simp [h1, h2, h3])
            replace hc : ∀ j u, ([.int .i64 b, .int .i64 e, .bool en, .bool ou, .slice fA fn fc, .int .i64 ti, .int .i64 po, .slice gA gn gc, .int .i64 er, .int .i64 pr, .int .i64 pt] : List Value)[j]? = some u → wr.cell? ⟨g, o + k * 11 + j, none⟩ = some u := hc
            have bx := (Blk.new wr 31 #[.int .i64 0, .int .i64 0, .bool false, .bool false, .slice none 0 0, .int .i64 0, .int .i64 0, .slice none 0 0, .int .i64 0, .int .i64 0, .int .i64 0]).setRow #[.int .i64 b, .int .i64 e, .bool en, .bool ou, .slice fA fn fc, .int .i64 ti, .int .i64 po, .slice gA gn gc, .int .i64 er, .int .i64 pr, .int .i64 pt]
            have belr := below_setRow (bel.alloc bel.size (.cells #[.int .i64 0, .int .i64 0, .bool false, .bool false, .slice none 0 0, .int .i64 0, .int .i64 0, .slice none 0 0, .int .i64 0, .int .i64 0, .int .i64 0] 31)) bel.size #[.int .i64 b, .int .i64 e, .bool en, .bool ou, .slice fA fn fc, .int .i64 ti, .int .i64 po, .slice gA gn gc, .int .i64 er, .int .i64 pr, .int .i64 pt]
            go_upto_region 4 with (first
              | (refine wpList_ldAt rfl rfl rfl hc Try.underlying31 en_size ?_)
              | (refine wpList_stRow rfl rfl rfl rfl rfl (Blk.new wr _ _) en_size rfl (by simp [Value.oneCell']) ?_; generalize (wr.alloc (.cells #[.int .i64 0, .int .i64 0, .bool false, .bool false, .slice none 0 0, .int .i64 0, .int .i64 0, .slice none 0 0, .int .i64 0, .int .i64 0, .int .i64 0] 31)).setRow wr.heap.size #[.int .i64 b, .int .i64 e, .bool en, .bool ou, .slice fA fn fc, .int .i64 ti, .int .i64 po, .slice gA gn gc, .int .i64 er, .int .i64 pr, .int .i64 pt] = W1 at *; generalize wr.heap.size = g1 at *))
            have q0 := bx.cell 0
            have q1 := bx.cell 1
            have q2 := bx.cell 2
            clear hc bx h hcel bel
            go_wp2_with fail
            go_ret
            refine ⟨?_, belr⟩
            rw [rightB_not hx.out hbd.out]
            rfl
          | false =>
            have hbd : Hid (badB ⟨b, e, en, ou, ⟨fA, fn, fc⟩, ti, po, ⟨gA, gn, gc⟩, er, pr, pt⟩ = false) := Lib.hid (by unfold badB; simp [h1, h2, h3])
            replace hc : ∀ j u, ([.int .i64 b, .int .i64 e, .bool en, .bool ou, .slice fA fn fc, .int .i64 ti, .int .i64 po, .slice gA gn gc, .int .i64 er, .int .i64 pr, .int .i64 pt] : List Value)[j]? = some u → wr.cell? ⟨g, o + k * 11 + j, none⟩ = some u := hc
            have bx := (Blk.new wr 31 #[.int .i64 0, .int .i64 0, .bool false, .bool false, .slice none 0 0, .int .i64 0, .int .i64 0, .slice none 0 0, .int .i64 0, .int .i64 0, .int .i64 0]).setRow #[.int .i64 b, .int .i64 e, .bool en, .bool ou, .slice fA fn fc, .int .i64 ti, .int .i64 po, .slice gA gn gc, .int .i64 er, .int .i64 pr, .int .i64 pt]
            have belr := below_setRow (bel.alloc bel.size (.cells #[.int .i64 0, .int .i64 0, .bool false, .bool false, .slice none 0 0, .int .i64 0, .int .i64 0, .slice none 0 0, .int .i64 0, .int .i64 0, .int .i64 0] 31)) bel.size #[.int .i64 b, .int .i64 e, .bool en, .bool ou, .slice fA fn fc, .int .i64 ti, .int .i64 po, .slice gA gn gc, .int .i64 er, .int .i64 pr, .int .i64 pt]
            go_upto_region 4 with (first
              | (refine wpList_ldAt rfl rfl rfl hc Try.underlying31 en_size ?_)
              | (refine wpList_stRow rfl rfl rfl rfl rfl (Blk.new wr _ _) en_size rfl (by simp [Value.oneCell']) ?_; generalize (wr.alloc (.cells #[.int .i64 0, .int .i64 0, .bool false, .bool false, .slice none 0 0, .int .i64 0, .int .i64 0, .slice none 0 0, .int .i64 0, .int .i64 0, .int .i64 0] 31)).setRow wr.heap.size #[.int .i64 b, .int .i64 e, .bool en, .bool ou, .slice fA fn fc, .int .i64 ti, .int .i64 po, .slice gA gn gc, .int .i64 er, .int .i64 pr, .int .i64 pt] = W1 at *; generalize wr.heap.size = g1 at *))
            have q0 := bx.cell 0
            have q1 := bx.cell 1
            have q2 := bx.cell 2
            clear hc bx h hcel bel
            go_wp2_with fail
            go_roundw
            case rel => exact ⟨k + 1, by omega, by go_num, belr, fun j x hj hjx => by
              rcases Nat.lt_or_ge j k with h | h
              · exact hall.out j x h hjx
              · obtain rfl : j = k := by omega
                rw [hx.out] at hjx
                injection hjx with hjx
                subst hjx
                exact hbd.out⟩
            case measure => simp [intOf]; omega
      | true =>
        cases en with
        | true =>
          cases h2 : decide (b < 1) with
          | true =>
            have hbd : Hid (badB ⟨b, e, true, ou, ⟨fA, fn, fc⟩, ti, po, ⟨gA, gn, gc⟩, er, pr, pt⟩ = true) := Lib.hid (by unfold badB; simp [h1, h2])
            replace hc : ∀ j u, ([.int .i64 b, .int .i64 e, .bool true, .bool ou, .slice fA fn fc, .int .i64 ti, .int .i64 po, .slice gA gn gc, .int .i64 er, .int .i64 pr, .int .i64 pt] : List Value)[j]? = some u → wr.cell? ⟨g, o + k * 11 + j, none⟩ = some u := hc
            have bx := (Blk.new wr 31 #[.int .i64 0, .int .i64 0, .bool false, .bool false, .slice none 0 0, .int .i64 0, .int .i64 0, .slice none 0 0, .int .i64 0, .int .i64 0, .int .i64 0]).setRow #[.int .i64 b, .int .i64 e, .bool true, .bool ou, .slice fA fn fc, .int .i64 ti, .int .i64 po, .slice gA gn gc, .int .i64 er, .int .i64 pr, .int .i64 pt]
            have belr := below_setRow (bel.alloc bel.size (.cells #[.int .i64 0, .int .i64 0, .bool false, .bool false, .slice none 0 0, .int .i64 0, .int .i64 0, .slice none 0 0, .int .i64 0, .int .i64 0, .int .i64 0] 31)) bel.size #[.int .i64 b, .int .i64 e, .bool true, .bool ou, .slice fA fn fc, .int .i64 ti, .int .i64 po, .slice gA gn gc, .int .i64 er, .int .i64 pr, .int .i64 pt]
            go_upto_region 4 with (first
              | (refine wpList_ldAt rfl rfl rfl hc Try.underlying31 en_size ?_)
              | (refine wpList_stRow rfl rfl rfl rfl rfl (Blk.new wr _ _) en_size rfl (by simp [Value.oneCell']) ?_; generalize (wr.alloc (.cells #[.int .i64 0, .int .i64 0, .bool false, .bool false, .slice none 0 0, .int .i64 0, .int .i64 0, .slice none 0 0, .int .i64 0, .int .i64 0, .int .i64 0] 31)).setRow wr.heap.size #[.int .i64 b, .int .i64 e, .bool true, .bool ou, .slice fA fn fc, .int .i64 ti, .int .i64 po, .slice gA gn gc, .int .i64 er, .int .i64 pr, .int .i64 pt] = W1 at *; generalize wr.heap.size = g1 at *))
            have q0 := bx.cell 0
            have q1 := bx.cell 1
            have q2 := bx.cell 2
            clear hc bx h hcel bel
            go_wp2_with fail
            go_ret
            refine ⟨?_, belr⟩
            rw [rightB_not hx.out hbd.out]
            rfl
          | false =>
            cases h3 : decide (e ≤ b) with
            | true =>
              have hbd : Hid (badB ⟨b, e, true, ou, ⟨fA, fn, fc⟩, ti, po, ⟨gA, gn, gc⟩, er, pr, pt⟩ = true) := Lib.hid (by unfold badB; simp [h1, h2, h3])
              replace hc : ∀ j u, ([.int .i64 b, .int .i64 e, .bool true, .bool ou, .slice fA fn fc, .int .i64 ti, .int .i64 po, .slice gA gn gc, .int .i64 er, .int .i64 pr, .int .i64 pt] : List Value)[j]? = some u → wr.cell? ⟨g, o + k * 11 + j, none⟩ = some u := hc
              have bx := (Blk.new wr 31 #[.int .i64 0, .int .i64 0, .bool false, .bool false, .slice none 0 0, .int .i64 0, .int .i64 0, .slice none 0 0, .int .i64 0, .int .i64 0, .int .i64 0]).setRow #[.int .i64 b, .int .i64 e, .bool true, .bool ou, .slice fA fn fc, .int .i64 ti, .int .i64 po, .slice gA gn gc, .int .i64 er, .int .i64 pr, .int .i64 pt]
              have belr := below_setRow (bel.alloc bel.size (.cells #[.int .i64 0, .int .i64 0, .bool false, .bool false, .slice none 0 0, .int .i64 0, .int .i64 0, .slice none 0 0, .int .i64 0, .int .i64 0, .int .i64 0] 31)) bel.size #[.int .i64 b, .int .i64 e, .bool true, .bool ou, .slice fA fn fc, .int .i64 ti, .int .i64 po, .slice gA gn gc, .int .i64 er, .int .i64 pr, .int .i64 pt]
              go_upto_region 4 with (first
                | (refine wpList_ldAt rfl rfl rfl hc Try.underlying31 en_size ?_)
                | (refine wpList_stRow rfl rfl rfl rfl rfl (Blk.new wr _ _) en_size rfl (by simp [Value.oneCell']) ?_; generalize (wr.alloc (.cells #[.int .i64 0, .int .i64 0, .bool false, .bool false, .slice none 0 0, .int .i64 0, .int .i64 0, .slice none 0 0, .int .i64 0, .int .i64 0, .int .i64 0] 31)).setRow wr.heap.size #[.int .i64 b, .int .i64 e, .bool true, .bool ou, .slice fA fn fc, .int .i64 ti, .int .i64 po, .slice gA gn gc, .int .i64 er, .int .i64 pr, .int .i64 pt] = W1 at *; generalize wr.heap.size = g1 at *))
              have q0 := bx.cell 0
              have q1 := bx.cell 1
              have q2 := bx.cell 2
              clear hc bx h hcel bel
              go_wp2_with fail
              go_ret
              refine ⟨?_, belr⟩
              rw [rightB_not hx.out hbd.out]
              rfl
            | false =>
              have hbd : Hid (badB ⟨b, e, true, ou, ⟨fA, fn, fc⟩, ti, po, ⟨gA, gn, gc⟩, er, pr, pt⟩ = false) := Lib.hid (by unfold badB; simp [h1, h2, h3])
              replace hc : ∀ j u, ([.int .i64 b, .int .i64 e, .bool true, .bool ou, .slice fA fn fc, .int .i64 ti, .int .i64 po, .slice gA gn gc, .int .i64 er, .int .i64 pr, .int .i64 pt] : List Value)[j]? = some u → wr.cell? ⟨g, o + k * 11 + j, none⟩ = some u := hc
              have bx := (Blk.new wr 31 #[.int .i64 0, .int .i64 0, .bool false, .bool false, .slice none 0 0, .int .i64 0, .int .i64 0, .slice none 0 0, .int .i64 0, .int .i64 0, .int .i64 0]).setRow #[.int .i64 b, .int .i64 e, .bool true, .bool ou, .slice fA fn fc, .int .i64 ti, .int .i64 po, .slice gA gn gc, .int .i64 er, .int .i64 pr, .int .i64 pt]
              have belr := below_setRow (bel.alloc bel.size (.cells #[.int .i64 0, .int .i64 0, .bool false, .bool false, .slice none 0 0, .int .i64 0, .int .i64 0, .slice none 0 0, .int .i64 0, .int .i64 0, .int .i64 0] 31)) bel.size #[.int .i64 b, .int .i64 e, .bool true, .bool ou, .slice fA fn fc, .int .i64 ti, .int .i64 po, .slice gA gn gc, .int .i64 er, .int .i64 pr, .int .i64 pt]
              go_upto_region 4 with (first
                | (refine wpList_ldAt rfl rfl rfl hc Try.underlying31 en_size ?_)
                | (refine wpList_stRow rfl rfl rfl rfl rfl (Blk.new wr _ _) en_size rfl (by simp [Value.oneCell']) ?_; generalize (wr.alloc (.cells #[.int .i64 0, .int .i64 0, .bool false, .bool false, .slice none 0 0, .int .i64 0, .int .i64 0, .slice none 0 0, .int .i64 0, .int .i64 0, .int .i64 0] 31)).setRow wr.heap.size #[.int .i64 b, .int .i64 e, .bool true, .bool ou, .slice fA fn fc, .int .i64 ti, .int .i64 po, .slice gA gn gc, .int .i64 er, .int .i64 pr, .int .i64 pt] = W1 at *; generalize wr.heap.size = g1 at *))
              have q0 := bx.cell 0
              have q1 := bx.cell 1
              have q2 := bx.cell 2
              clear hc bx h hcel bel
              go_wp2_with fail
              go_roundw
              case rel => exact ⟨k + 1, by omega, by go_num, belr, fun j x hj hjx => by
                rcases Nat.lt_or_ge j k with h | h
                · exact hall.out j x h hjx
                · obtain rfl : j = k := by omega
                  rw [hx.out] at hjx
                  injection hjx with hjx
                  subst hjx
                  exact hbd.out⟩
              case measure => simp [intOf]; omega
        | false =>
          cases h2 : decide (b < 1) with
          | true =>
            have hbd : Hid (badB ⟨b, e, false, ou, ⟨fA, fn, fc⟩, ti, po, ⟨gA, gn, gc⟩, er, pr, pt⟩ = true) := Lib.hid (by unfold badB; simp [h1, h2])
            replace hc : ∀ j u, ([.int .i64 b, .int .i64 e, .bool false, .bool ou, .slice fA fn fc, .int .i64 ti, .int .i64 po, .slice gA gn gc, .int .i64 er, .int .i64 pr, .int .i64 pt] : List Value)[j]? = some u → wr.cell? ⟨g, o + k * 11 + j, none⟩ = some u := hc
            have bx := (Blk.new wr 31 #[.int .i64 0, .int .i64 0, .bool false, .bool false, .slice none 0 0, .int .i64 0, .int .i64 0, .slice none 0 0, .int .i64 0, .int .i64 0, .int .i64 0]).setRow #[.int .i64 b, .int .i64 e, .bool false, .bool ou, .slice fA fn fc, .int .i64 ti, .int .i64 po, .slice gA gn gc, .int .i64 er, .int .i64 pr, .int .i64 pt]
            have belr := below_setRow (bel.alloc bel.size (.cells #[.int .i64 0, .int .i64 0, .bool false, .bool false, .slice none 0 0, .int .i64 0, .int .i64 0, .slice none 0 0, .int .i64 0, .int .i64 0, .int .i64 0] 31)) bel.size #[.int .i64 b, .int .i64 e, .bool false, .bool ou, .slice fA fn fc, .int .i64 ti, .int .i64 po, .slice gA gn gc, .int .i64 er, .int .i64 pr, .int .i64 pt]
            go_upto_region 4 with (first
              | (refine wpList_ldAt rfl rfl rfl hc Try.underlying31 en_size ?_)
              | (refine wpList_stRow rfl rfl rfl rfl rfl (Blk.new wr _ _) en_size rfl (by simp [Value.oneCell']) ?_; generalize (wr.alloc (.cells #[.int .i64 0, .int .i64 0, .bool false, .bool false, .slice none 0 0, .int .i64 0, .int .i64 0, .slice none 0 0, .int .i64 0, .int .i64 0, .int .i64 0] 31)).setRow wr.heap.size #[.int .i64 b, .int .i64 e, .bool false, .bool ou, .slice fA fn fc, .int .i64 ti, .int .i64 po, .slice gA gn gc, .int .i64 er, .int .i64 pr, .int .i64 pt] = W1 at *; generalize wr.heap.size = g1 at *))
            have q0 := bx.cell 0
            have q1 := bx.cell 1
            have q2 := bx.cell 2
            clear hc bx h hcel bel
            go_wp2_with fail
            go_ret
            refine ⟨?_, belr⟩
            rw [rightB_not hx.out hbd.out]
            rfl
          | false =>
            cases h3 : decide (e ≤ b) with
            | true =>
              have hbd : Hid (badB ⟨b, e, false, ou, ⟨fA, fn, fc⟩, ti, po, ⟨gA, gn, gc⟩, er, pr, pt⟩ = false) := Lib.hid (by unfold badB; simp [h1, h2, h3])
              replace hc : ∀ j u, ([.int .i64 b, .int .i64 e, .bool false, .bool ou, .slice fA fn fc, .int .i64 ti, .int .i64 po, .slice gA gn gc, .int .i64 er, .int .i64 pr, .int .i64 pt] : List Value)[j]? = some u → wr.cell? ⟨g, o + k * 11 + j, none⟩ = some u := hc
              have bx := (Blk.new wr 31 #[.int .i64 0, .int .i64 0, .bool false, .bool false, .slice none 0 0, .int .i64 0, .int .i64 0, .slice none 0 0, .int .i64 0, .int .i64 0, .int .i64 0]).setRow #[.int .i64 b, .int .i64 e, .bool false, .bool ou, .slice fA fn fc, .int .i64 ti, .int .i64 po, .slice gA gn gc, .int .i64 er, .int .i64 pr, .int .i64 pt]
              have belr := below_setRow (bel.alloc bel.size (.cells #[.int .i64 0, .int .i64 0, .bool false, .bool false, .slice none 0 0, .int .i64 0, .int .i64 0, .slice none 0 0, .int .i64 0, .int .i64 0, .int .i64 0] 31)) bel.size #[.int .i64 b, .int .i64 e, .bool false, .bool ou, .slice fA fn fc, .int .i64 ti, .int .i64 po, .slice gA gn gc, .int .i64 er, .int .i64 pr, .int .i64 pt]
              go_upto_region 4 with (first
                | (refine wpList_ldAt rfl rfl rfl hc Try.underlying31 en_size ?_)
                | (refine wpList_stRow rfl rfl rfl rfl rfl (Blk.new wr _ _) en_size rfl (by simp [Value.oneCell']) ?_; generalize (wr.alloc (.cells #[.int .i64 0, .int .i64 0, .bool false, .bool false, .slice none 0 0, .int .i64 0, .int .i64 0, .slice none 0 0, .int .i64 0, .int .i64 0, .int .i64 0] 31)).setRow wr.heap.size #[.int .i64 b, .int .i64 e, .bool false, .bool ou, .slice fA fn fc, .int .i64 ti, .int .i64 po, .slice gA gn gc, .int .i64 er, .int .i64 pr, .int .i64 pt] = W1 at *; generalize wr.heap.size = g1 at *))
              have q0 := bx.cell 0
              have q1 := bx.cell 1
              have q2 := bx.cell 2
              clear hc bx h hcel bel
              go_wp2_with fail
              go_roundw
              case rel => exact ⟨k + 1, by omega, by go_num, belr, fun j x hj hjx => by
                rcases Nat.lt_or_ge j k with h | h
                · exact hall.out j x h hjx
                · obtain rfl : j = k := by omega
                  rw [hx.out] at hjx
                  injection hjx with hjx
                  subst hjx
                  exact hbd.out⟩
              case measure => simp [intOf]; omega
            | false =>
              have hbd : Hid (badB ⟨b, e, false, ou, ⟨fA, fn, fc⟩, ti, po, ⟨gA, gn, gc⟩, er, pr, pt⟩ = false) := Lib.hid (by unfold badB; simp [h1, h2, h3])
              replace hc : ∀ j u, ([.int .i64 b, .int .i64 e, .bool false, .bool ou, .slice fA fn fc, .int .i64 ti, .int .i64 po, .slice gA gn gc, .int .i64 er, .int .i64 pr, .int .i64 pt] : List Value)[j]? = some u → wr.cell? ⟨g, o + k * 11 + j, none⟩ = some u := hc
              have bx := (Blk.new wr 31 #[.int .i64 0, .int .i64 0, .bool false, .bool false, .slice none 0 0, .int .i64 0, .int .i64 0, .slice none 0 0, .int .i64 0, .int .i64 0, .int .i64 0]).setRow #[.int .i64 b, .int .i64 e, .bool false, .bool ou, .slice fA fn fc, .int .i64 ti, .int .i64 po, .slice gA gn gc, .int .i64 er, .int .i64 pr, .int .i64 pt]
              have belr := below_setRow (bel.alloc bel.size (.cells #[.int .i64 0, .int .i64 0, .bool false, .bool false, .slice none 0 0, .int .i64 0, .int .i64 0, .slice none 0 0, .int .i64 0, .int .i64 0, .int .i64 0] 31)) bel.size #[.int .i64 b, .int .i64 e, .bool false, .bool ou, .slice fA fn fc, .int .i64 ti, .int .i64 po, .slice gA gn gc, .int .i64 er, .int .i64 pr, .int .i64 pt]
              go_upto_region 4 with (first
                | (refine wpList_ldAt rfl rfl rfl hc Try.underlying31 en_size ?_)
                | (refine wpList_stRow rfl rfl rfl rfl rfl (Blk.new wr _ _) en_size rfl (by simp [Value.oneCell']) ?_; generalize (wr.alloc (.cells #[.int .i64 0, .int .i64 0, .bool false, .bool false, .slice none 0 0, .int .i64 0, .int .i64 0, .slice none 0 0, .int .i64 0, .int .i64 0, .int .i64 0] 31)).setRow wr.heap.size #[.int .i64 b, .int .i64 e, .bool false, .bool ou, .slice fA fn fc, .int .i64 ti, .int .i64 po, .slice gA gn gc, .int .i64 er, .int .i64 pr, .int .i64 pt] = W1 at *; generalize wr.heap.size = g1 at *))
              have q0 := bx.cell 0
              have q1 := bx.cell 1
              have q2 := bx.cell 2
              clear hc bx h hcel bel
              go_wp2_with fail
              go_roundw
              case rel => exact ⟨k + 1, by omega, by go_num, belr, fun j x hj hjx => by
                rcases Nat.lt_or_ge j k with h | h
                · exact hall.out j x h hjx
                · obtain rfl : j = k := by omega
                  rw [hx.out] at hjx
                  injection hjx with hjx
                  subst hjx
                  exact hbd.out⟩
              case measure => simp [intOf]; omega
    · obtain rfl : k = n := by omega
      have d1 : decide ((k : Int) < (k : Int)) = false := by simp
      have d2 : decide (k < k) = false := by simp
      go_wp2
      go_ret
      refine ⟨?_, bel⟩
      rw [rightB_of l (fun j x hj => hall.out j x (by have := (List.getElem?_eq_some_iff.1 hj).1; rw [hn.out] at this; exact this) hj)]
      rfl
/- The walks of package history: Width; the document's Right. -/
def onN (l : List En) (k : Nat) (at_ : Int) : Nat := ((l.take k).filter fun x => onB x at_).length
theorem onN_le (l : List En) (k : Nat) (at_ : Int) : onN l k at_ ≤ k := by
  unfold onN
  have h1 := List.length_filter_le (fun x => onB x at_) (l.take k)
  rw [List.length_take] at h1; omega
theorem widL_le (l : List En) : ∀ k, widL l k ≤ l.length := by
  intro k
  unfold widL
  have : ∀ (r : List En) (m : Nat), m ≤ l.length → r.foldl (fun m x => max m (cntL l x.b)) m ≤ l.length := by
    intro r
    induction r with
    | nil => intro m h; exact h
    | cons x r ih =>
      intro m h
      refine ih _ ?_
      have := List.length_filter_le (fun y => onB y x.b) l
      show max m (cntL l x.b) ≤ _
      unfold cntL; omega
  exact this _ 0 (by omega)
set_option maxRecDepth 100000 in
set_option maxHeartbeats 4000000 in
theorem hWidth_any (l : List En) (B : Nat) (A : Option Addr) (n c : Nat) (w : World) (h : RdT En.cs 11 w B A n l) (hB : B ≤ w.heap.size) (hl : n ≤ 1000) (hnc : n ≤ c) (hcm : c ≤ maxLen) :
    Calls Try.prog 10 #[.slice A n c] w fun e w' => e = .returned (.int .i64 (widthL l)) ∧ Below w.heap.size w w' := by
  have hn := h.len
  have hrt := hRight_any l B A n c w h hB hl hnc hcm
  unfold maxLen at hcm
  unfold widthL
  replace hn := Lib.hid hn
  replace hrt := Lib.hid hrt
  cases hR : rightB l with
  | false =>
    rw [hR] at hrt
    go_enter Try.func10, Try.ntmps10
    go_wp2_with fail
    refine hrt.out.mono ?_
    rintro e w1 ⟨rfl, hb1⟩
    go_wp2
    go_ret
    exact ⟨rfl, hb1⟩
  | true =>
    rw [hR] at hrt
    replace hR := Lib.hid hR
    go_enter Try.func10, Try.ntmps10
    go_wp2_with fail
    refine hrt.out.mono ?_
    rintro e w1 ⟨rfl, hb1⟩
    go_wp2
    go_loopw [3, 14] (fun m i wr => ∃ k : Nat, k ≤ n ∧ i = .int .i64 k ∧ m = .int .i64 (widL l k : Nat) ∧ Below w.heap.size w wr) (fun _ i _ => n - (intOf i).toNat)
    case atStart => exact ⟨0, by omega, rfl, rfl, hb1⟩
    case round =>
      obtain ⟨k, hk, rfl, rfl, bel⟩ := hrel
      rcases Nat.lt_or_ge k n with hkn | hkn
      · have d1 : decide ((k : Int) < (n : Int)) = true := by simpa using hkn
        have d2 : decide (k < n) = true := by simpa using hkn
        obtain ⟨g, o, rfl, hg, hcel⟩ := h.cel (by omega)
        obtain ⟨x, hx⟩ : ∃ x, l[k]? = some x := ⟨_, List.getElem?_eq_getElem (by rw [hn.out]; omega)⟩
        have hc : ∀ j u, ([.int .i64 x.b, .int .i64 x.e, .bool x.ends, .bool x.out, .slice x.f.A x.f.n x.f.c, .int .i64 x.tick, .int .i64 x.port, .slice x.g.A x.g.n x.g.c, .int .i64 x.err, .int .i64 x.proto, .int .i64 x.pt] : List Value)[j]? = some u → wr.cell? ⟨g, o + k * 11 + j, none⟩ = some u := fun j u hu => (bel.cell (p := ⟨g, o + k * 11 + j, none⟩) (by show g < _; omega)).trans (hcel k x hx j u hu)
        have hws := widL_succ l k x hx
        have hwle := widL_le l k
        rw [hn.out] at hwle
        replace hx := Lib.hid hx
        have k0 : (0 : Int) ≤ (k : Int) := by omega
        have k1 : (k : Int) < (n : Int) := by omega
        have bx := (Blk.new wr 31 #[.int .i64 0, .int .i64 0, .bool false, .bool false, .slice none 0 0, .int .i64 0, .int .i64 0, .slice none 0 0, .int .i64 0, .int .i64 0, .int .i64 0]).setRow #[.int .i64 x.b, .int .i64 x.e, .bool x.ends, .bool x.out, .slice x.f.A x.f.n x.f.c, .int .i64 x.tick, .int .i64 x.port, .slice x.g.A x.g.n x.g.c, .int .i64 x.err, .int .i64 x.proto, .int .i64 x.pt]
        have belr := below_setRow (bel.alloc bel.size (.cells #[.int .i64 0, .int .i64 0, .bool false, .bool false, .slice none 0 0, .int .i64 0, .int .i64 0, .slice none 0 0, .int .i64 0, .int .i64 0, .int .i64 0] 31)) bel.size #[.int .i64 x.b, .int .i64 x.e, .bool x.ends, .bool x.out, .slice x.f.A x.f.n x.f.c, .int .i64 x.tick, .int .i64 x.port, .slice x.g.A x.g.n x.g.c, .int .i64 x.err, .int .i64 x.proto, .int .i64 x.pt]
        generalize hwk : widL l k = wk at *
        replace hws := Lib.hid hws
        clear hwk
        go_upto_region 7 with (first
          | (refine wpList_ldAt rfl rfl rfl hc Try.underlying31 en_size ?_)
          | (refine wpList_stRow rfl rfl rfl rfl rfl (Blk.new wr _ _) en_size rfl (by simp [Value.oneCell']) ?_; generalize (wr.alloc (.cells #[.int .i64 0, .int .i64 0, .bool false, .bool false, .slice none 0 0, .int .i64 0, .int .i64 0, .slice none 0 0, .int .i64 0, .int .i64 0, .int .i64 0] 31)).setRow wr.heap.size #[.int .i64 x.b, .int .i64 x.e, .bool x.ends, .bool x.out, .slice x.f.A x.f.n x.f.c, .int .i64 x.tick, .int .i64 x.port, .slice x.g.A x.g.n x.g.c, .int .i64 x.err, .int .i64 x.proto, .int .i64 x.pt] = W1 at *; generalize wr.heap.size = g1 at *))
        clear hc bel d1 d2 k0 k1
        have hg1 : g1 < W1.heap.size := bx.lt
        go_wp2_with fail
        go_loopw [6, 20] (fun m i wr => ∃ j : Nat, j ≤ n ∧ i = .int .i64 j ∧ m = .int .i64 (onN l j x.b : Nat) ∧ Below W1.heap.size W1 wr) (fun _ i _ => n - (intOf i).toNat)
        case atStart => exact ⟨0, by omega, rfl, rfl, Below.refl _ _⟩
        case round =>
          obtain ⟨j, hj, rfl, rfl, bel2⟩ := hrel
          rcases Nat.lt_or_ge j n with hjn | hjn
          · have d1 : decide ((j : Int) < (n : Int)) = true := by simpa using hjn
            have d2 : decide (j < n) = true := by simpa using hjn
            obtain ⟨y, hy⟩ : ∃ y, l[j]? = some y := ⟨_, List.getElem?_eq_getElem (by rw [hn.out]; omega)⟩
            have hc : ∀ i u, ([.int .i64 y.b, .int .i64 y.e, .bool y.ends, .bool y.out, .slice y.f.A y.f.n y.f.c, .int .i64 y.tick, .int .i64 y.port, .slice y.g.A y.g.n y.g.c, .int .i64 y.err, .int .i64 y.proto, .int .i64 y.pt] : List Value)[i]? = some u → wr.cell? ⟨g, o + j * 11 + i, none⟩ = some u := fun i u hu =>
              (bel2.cell (p := ⟨g, o + j * 11 + i, none⟩) (by show g < _; have := belr.size; omega)).trans ((belr.cell (p := ⟨g, o + j * 11 + i, none⟩) (by show g < _; omega)).trans (hcel j y hy i u hu))
            have hcnt := cntT_succ l j y x.b hy
            have hcle := onN_le l j x.b
            have eN : ((l.take (j + 1)).filter fun z => onB z x.b).length = onN l (j + 1) x.b := rfl
            have eN2 : ((l.take j).filter fun z => onB z x.b).length = onN l j x.b := rfl
            rw [eN, eN2] at hcnt
            clear eN eN2
            generalize hcj : onN l j x.b = cj at *
            have k0 : (0 : Int) ≤ (j : Int) := by omega
            have k1 : (j : Int) < (n : Int) := by omega
            have by2 := (Blk.new wr 31 #[.int .i64 0, .int .i64 0, .bool false, .bool false, .slice none 0 0, .int .i64 0, .int .i64 0, .slice none 0 0, .int .i64 0, .int .i64 0, .int .i64 0]).setRow #[.int .i64 y.b, .int .i64 y.e, .bool y.ends, .bool y.out, .slice y.f.A y.f.n y.f.c, .int .i64 y.tick, .int .i64 y.port, .slice y.g.A y.g.n y.g.c, .int .i64 y.err, .int .i64 y.proto, .int .i64 y.pt]
            have bel3 := below_setRow (bel2.alloc bel2.size (.cells #[.int .i64 0, .int .i64 0, .bool false, .bool false, .slice none 0 0, .int .i64 0, .int .i64 0, .slice none 0 0, .int .i64 0, .int .i64 0, .int .i64 0] 31)) bel2.size #[.int .i64 y.b, .int .i64 y.e, .bool y.ends, .bool y.out, .slice y.f.A y.f.n y.f.c, .int .i64 y.tick, .int .i64 y.port, .slice y.g.A y.g.n y.g.c, .int .i64 y.err, .int .i64 y.proto, .int .i64 y.pt]
            have hon := fun W => on_any y x.b W
            replace hcnt := Lib.hid hcnt
            clear hcj hy
            go_upto_region 11 with (first
              | (refine wpList_ldAt rfl rfl rfl hc Try.underlying31 en_size ?_)
              | (refine wpList_stRow rfl rfl rfl rfl rfl (Blk.new wr _ _) en_size rfl (by simp [Value.oneCell']) ?_; generalize (wr.alloc (.cells #[.int .i64 0, .int .i64 0, .bool false, .bool false, .slice none 0 0, .int .i64 0, .int .i64 0, .slice none 0 0, .int .i64 0, .int .i64 0, .int .i64 0] 31)).setRow wr.heap.size #[.int .i64 y.b, .int .i64 y.e, .bool y.ends, .bool y.out, .slice y.f.A y.f.n y.f.c, .int .i64 y.tick, .int .i64 y.port, .slice y.g.A y.g.n y.g.c, .int .i64 y.err, .int .i64 y.proto, .int .i64 y.pt] = W2 at *; generalize wr.heap.size = g2 at *))
            have q0 := (bx.bel bel3).cell 0
            clear hc bel2
            cases ho : onB y x.b with
            | true =>
              rw [ho] at hon hcnt
              replace hon := Lib.hid hon
              replace ho := Lib.hid ho
              go_wp2_with (refine wpList_ldRow rfl rfl rfl by2 Try.underlying31 en_size ?_)
              refine (hon.out _).mono ?_
              rintro e w4 ⟨rfl, hb4⟩
              go_wp2_with fail
              go_roundw
              case rel => exact ⟨j + 1, by omega, by go_num, by rw [hcnt.out]; simp, bel_after bel3 hb4⟩
              case measure => simp [intOf]; omega
            | false =>
              rw [ho] at hon hcnt
              replace hon := Lib.hid hon
              replace ho := Lib.hid ho
              go_wp2_with (refine wpList_ldRow rfl rfl rfl by2 Try.underlying31 en_size ?_)
              refine (hon.out _).mono ?_
              rintro e w4 ⟨rfl, hb4⟩
              go_wp2_with fail
              go_roundw
              case rel => exact ⟨j + 1, by omega, by go_num, by rw [hcnt.out]; simp, bel_after bel3 hb4⟩
              case measure => simp [intOf]; omega
          · obtain rfl : j = n := by omega
            have d1 : decide ((j : Int) < (j : Int)) = false := by simp
            have d2 : decide (j < j) = false := by simp
            have ec : onN l j x.b = cntL l x.b := by unfold onN cntL; rw [List.take_of_length_le (by rw [hn.out]; omega)]
            have hcle := onN_le l j x.b
            rw [← ec] at hws
            generalize onN l j x.b = cn at *
            clear ec
            go_wp2_with fail
            go_roundw
            case rel => exact ⟨k + 1, by omega, by go_num, by rw [hws.out]; simp; split <;> omega, bel_after belr bel2⟩
            case measure => simp [intOf]; omega
      · obtain rfl : k = n := by omega
        have d1 : decide ((k : Int) < (k : Int)) = false := by simp
        have d2 : decide (k < k) = false := by simp
        go_wp2
        go_ret
        refine ⟨?_, bel⟩
        rw [hn.out]
        rfl
set_option maxRecDepth 100000 in
set_option maxHeartbeats 4000000 in
theorem rRight_any (l : List En) (B : Nat) (A : Option Addr) (n c : Nat) (w : World) (h : RdT En.cs 11 w B A n l) (hB : B ≤ w.heap.size) (hl : n ≤ 1000) (hnc : n ≤ c) (hcm : c ≤ maxLen) :
    Calls Try.prog 9 #[.slice A n c] w fun e w' => e = .returned (.bool (rightB l)) ∧ Below w.heap.size w w' := by
  have hn := h.len
  unfold maxLen at hcm
  replace hn := Lib.hid hn
  go_enter Try.func9, Try.ntmps9
  go_wp2
  go_loopw [3] (fun i wr => ∃ k : Nat, k ≤ n ∧ i = .int .i64 k ∧ Below w.heap.size w wr ∧ ∀ (j : Nat) x, j < k → l[j]? = some x → badB x = false) (fun i _ => n - (intOf i).toNat)
  case atStart => exact ⟨0, by omega, rfl, Below.refl _ _, fun j x hj => by omega⟩
  case round =>
    obtain ⟨k, hk, rfl, bel, hall⟩ := hrel
    replace hall := Lib.hid hall
    rcases Nat.lt_or_ge k n with hkn | hkn
    · have d1 : decide ((k : Int) < (n : Int)) = true := by simpa using hkn
      have d2 : decide (k < n) = true := by simpa using hkn
      obtain ⟨g, o, rfl, hg, hcel⟩ := h.cel (by omega)
      obtain ⟨x, hx⟩ : ∃ x, l[k]? = some x := ⟨_, List.getElem?_eq_getElem (by rw [hn.out]; omega)⟩
      have hc : ∀ (t : Tw (fun w' => Below wr.heap.size wr w')) j u, x.cs[j]? = some u → t.w.cell? ⟨g, o + k * 11 + j, none⟩ = some u := fun t j u hu =>
        (t.h.cell (p := ⟨g, o + k * 11 + j, none⟩) (by show g < _; have := bel.size; omega)).trans ((bel.cell (p := ⟨g, o + k * 11 + j, none⟩) (by show g < _; omega)).trans (hcel k x hx j u hu))
      obtain ⟨b, e, en, ou, ⟨fA, fn, fc⟩, ti, po, ⟨gA, gn, gc⟩, er, pr, pt⟩ := x
      have z0 := fun t => hc t 0 _ rfl
      have z1 := fun t => hc t 1 _ rfl
      have z2 := fun t => hc t 2 _ rfl
      simp only [Nat.add_zero] at z0
      clear hc hcel
      have : Nonempty (Tw (fun w' => Below wr.heap.size wr w')) := ⟨⟨_, Below.refl _ _⟩⟩
      replace hx := Lib.hid hx
      have k0 : (0 : Int) ≤ (k : Int) := by omega
      have k1 : (k : Int) < (n : Int) := by omega
      go_upto_region 4 with fail
      clear d1 d2
      cases h2 : decide (b < 1) with
      | true =>
        have hbd : Hid (badB ⟨b, e, en, ou, ⟨fA, fn, fc⟩, ti, po, ⟨gA, gn, gc⟩, er, pr, pt⟩ = true) := Lib.hid (by unfold badB; simp [h2])
        refine region_tw (fun w' => Below (wr).heap.size (wr) w') (by kernel_rfl) (by kernel_rfl) (Below.refl _ _).drew ?_
        unfold clsS
        repeat (first
          | go_big_quiet_skip
          | (go_big_quiet_want; go_big_quiet_op; first | go_big_quiet_on | go_big_quiet_call (
            (first |(fail)))))
        refine wpQuiet_nil ?_
        intro tq
        go_wp2_with fail
        go_ret
        refine ⟨?_, bel_after bel tq.h⟩
        rw [rightB_not hx.out hbd.out]
        rfl
      | false =>
        cases h3 : decide (e ≤ b) with
        | false =>
          have hbd : Hid (badB ⟨b, e, en, ou, ⟨fA, fn, fc⟩, ti, po, ⟨gA, gn, gc⟩, er, pr, pt⟩ = false) := Lib.hid (by unfold badB; simp [h2, h3])
          refine region_tw (fun w' => Below (wr).heap.size (wr) w') (by kernel_rfl) (by kernel_rfl) (Below.refl _ _).drew ?_
          unfold clsS
          repeat (first
            | go_big_quiet_skip
            | (go_big_quiet_want; go_big_quiet_op; first | go_big_quiet_on | go_big_quiet_call (
              (first |(fail)))))
          refine wpQuiet_nil ?_
          intro tq
          go_wp2_with fail
          go_roundw
          case rel => exact ⟨k + 1, by omega, by go_num, bel_after bel tq.h, fun j x hj hjx => by
            rcases Nat.lt_or_ge j k with h | h
            · exact hall.out j x h hjx
            · obtain rfl : j = k := by omega
              rw [hx.out] at hjx
              injection hjx with hjx
              subst hjx
              exact hbd.out⟩
          case measure => simp [intOf]; omega
        | true =>
          cases h1 : (e == -1) with
          | false =>
            have h1' : (e != -1) = true := by simpa using h1
            have hbd : Hid (badB ⟨b, e, en, ou, ⟨fA, fn, fc⟩, ti, po, ⟨gA, gn, gc⟩, er, pr, pt⟩ = true) := Lib.hid (by unfold badB; simp [h1, h2, h3])
            refine region_tw (fun w' => Below (wr).heap.size (wr) w') (by kernel_rfl) (by kernel_rfl) (Below.refl _ _).drew ?_
            unfold clsS
            repeat (first
              | go_big_quiet_skip
              | (go_big_quiet_want; go_big_quiet_op; first | go_big_quiet_on | go_big_quiet_call (
                (first |(fail)))))
            refine wpQuiet_nil ?_
            intro tq
            go_wp2_with fail
            go_ret
            refine ⟨?_, bel_after bel tq.h⟩
            rw [rightB_not hx.out hbd.out]
            rfl
          | true =>
            have h1' : (e != -1) = false := by simpa using h1
            cases en with
            | true =>
              have hbd : Hid (badB ⟨b, e, true, ou, ⟨fA, fn, fc⟩, ti, po, ⟨gA, gn, gc⟩, er, pr, pt⟩ = true) := Lib.hid (by unfold badB; simp [h1, h2, h3])
              refine region_tw (fun w' => Below (wr).heap.size (wr) w') (by kernel_rfl) (by kernel_rfl) (Below.refl _ _).drew ?_
              unfold clsS
              repeat (first
                | go_big_quiet_skip
                | (go_big_quiet_want; go_big_quiet_op; first | go_big_quiet_on | go_big_quiet_call (
                  (first |(fail)))))
              refine wpQuiet_nil ?_
              intro tq
              go_wp2_with fail
              go_ret
              refine ⟨?_, bel_after bel tq.h⟩
              rw [rightB_not hx.out hbd.out]
              rfl
            | false =>
              have hbd : Hid (badB ⟨b, e, false, ou, ⟨fA, fn, fc⟩, ti, po, ⟨gA, gn, gc⟩, er, pr, pt⟩ = false) := Lib.hid (by unfold badB; simp [h1, h2, h3])
              refine region_tw (fun w' => Below (wr).heap.size (wr) w') (by kernel_rfl) (by kernel_rfl) (Below.refl _ _).drew ?_
              unfold clsS
              repeat (first
                | go_big_quiet_skip
                | (go_big_quiet_want; go_big_quiet_op; first | go_big_quiet_on | go_big_quiet_call (
                  (first |(fail)))))
              refine wpQuiet_nil ?_
              intro tq
              go_wp2_with fail
              go_roundw
              case rel => exact ⟨k + 1, by omega, by go_num, bel_after bel tq.h, fun j x hj hjx => by
                rcases Nat.lt_or_ge j k with h | h
                · exact hall.out j x h hjx
                · obtain rfl : j = k := by omega
                  rw [hx.out] at hjx
                  injection hjx with hjx
                  subst hjx
                  exact hbd.out⟩
              case measure => simp [intOf]; omega
    · obtain rfl : k = n := by omega
      have d1 : decide ((k : Int) < (k : Int)) = false := by simp
      have d2 : decide (k < k) = false := by simp
      go_wp2
      go_ret
      refine ⟨?_, bel⟩
      rw [rightB_of l (fun j x hj => hall.out j x (by have := (List.getElem?_eq_some_iff.1 hj).1; rw [hn.out] at this; exact this) hj)]
      rfl
set_option maxRecDepth 100000 in
set_option maxHeartbeats 4000000 in
theorem rWidth_any (l : List En) (B : Nat) (A : Option Addr) (n c : Nat) (w : World) (h : RdT En.cs 11 w B A n l) (hB : B ≤ w.heap.size) (hl : n ≤ 1000) (hnc : n ≤ c) (hcm : c ≤ maxLen) :
    Calls Try.prog 11 #[.slice A n c] w fun e w' => e = .returned (.int .i64 (widthL l)) ∧ Below w.heap.size w w' := by
  have hn := h.len
  have hrt := rRight_any l B A n c w h hB hl hnc hcm
  unfold maxLen at hcm
  unfold widthL
  replace hn := Lib.hid hn
  replace hrt := Lib.hid hrt
  cases hR : rightB l with
  | false =>
    rw [hR] at hrt
    go_enter Try.func11, Try.ntmps11
    go_wp2_with fail
    refine hrt.out.mono ?_
    rintro e w1 ⟨rfl, hb1⟩
    go_wp2
    go_ret
    exact ⟨rfl, hb1⟩
  | true =>
    rw [hR] at hrt
    replace hR := Lib.hid hR
    go_enter Try.func11, Try.ntmps11
    go_wp2_with fail
    refine hrt.out.mono ?_
    rintro e w1 ⟨rfl, hb1⟩
    go_wp2
    go_loopw [3, 4] (fun m i wr => ∃ k : Nat, k ≤ n ∧ i = .int .i64 k ∧ m = .int .i64 (widL l k : Nat) ∧ Below w.heap.size w wr) (fun _ i _ => n - (intOf i).toNat)
    case atStart => exact ⟨0, by omega, rfl, rfl, hb1⟩
    case round =>
      obtain ⟨k, hk, rfl, rfl, bel⟩ := hrel
      rcases Nat.lt_or_ge k n with hkn | hkn
      · have d1 : decide ((k : Int) < (n : Int)) = true := by simpa using hkn
        have d2 : decide (k < n) = true := by simpa using hkn
        obtain ⟨g, o, rfl, hg, hcel⟩ := h.cel (by omega)
        obtain ⟨x, hx⟩ : ∃ x, l[k]? = some x := ⟨_, List.getElem?_eq_getElem (by rw [hn.out]; omega)⟩
        have hws := widL_succ l k x hx
        have hwle := widL_le l k
        rw [hn.out] at hwle
        replace hx := Lib.hid hx
        have k0 : (0 : Int) ≤ (k : Int) := by omega
        have k1 : (k : Int) < (n : Int) := by omega
        generalize hwk : widL l k = wk at *
        replace hws := Lib.hid hws
        clear hwk
        go_wp2_with fail
        go_loopw [5, 6] (fun m i w2 => ∃ j : Nat, j ≤ n ∧ i = .int .i64 j ∧ m = .int .i64 (onN l j x.b : Nat) ∧ Below w.heap.size w w2) (fun _ i _ => n - (intOf i).toNat)
        case atStart => exact ⟨0, by omega, rfl, rfl, bel⟩
        case round =>
          clear bel
          obtain ⟨j, hj, rfl, rfl, bel2⟩ := hrel
          rcases Nat.lt_or_ge j n with hjn | hjn
          · have d3 : decide ((j : Int) < (n : Int)) = true := by simpa using hjn
            have d4 : decide (j < n) = true := by simpa using hjn
            obtain ⟨y, hy⟩ : ∃ y, l[j]? = some y := ⟨_, List.getElem?_eq_getElem (by rw [hn.out]; omega)⟩
            have hcx : ∀ (t : Tw (fun w' => Below wr.heap.size wr w')) i z u, l[i]? = some z → ∀ f, z.cs[f]? = some u → t.w.cell? ⟨g, o + i * 11 + f, none⟩ = some u := fun t i z u hz f hu =>
              (t.h.cell (p := ⟨g, o + i * 11 + f, none⟩) (by show g < _; have := bel2.size; omega)).trans ((bel2.cell (p := ⟨g, o + i * 11 + f, none⟩) (by show g < _; omega)).trans (hcel i z hz f u hu))
            have z0 := fun t => hcx t k x _ hx.out 0 rfl
            have z1 := fun t => hcx t j y _ hy 0 rfl
            have z2 := fun t => hcx t j y _ hy 1 rfl
            simp only [Nat.add_zero] at z0 z1
            have hcnt := cntT_succ l j y x.b hy
            have hcle := onN_le l j x.b
            have eN : ((l.take (j + 1)).filter fun z => onB z x.b).length = onN l (j + 1) x.b := rfl
            have eN2 : ((l.take j).filter fun z => onB z x.b).length = onN l j x.b := rfl
            rw [eN, eN2] at hcnt
            clear eN eN2 hcx
            generalize hcj : onN l j x.b = cj at *
            have j0 : (0 : Int) ≤ (j : Int) := by omega
            have j1 : (j : Int) < (n : Int) := by omega
            have : Nonempty (Tw (fun w' => Below wr.heap.size wr w')) := ⟨⟨_, Below.refl _ _⟩⟩
            clear hcj hy
            unfold onB at hcnt
            generalize y.b = yb at *
            generalize y.e = ye at *
            generalize x.b = xb at *
            go_upto_region 11 with fail
            clear d1 d2 d3 d4
            cases h1 : decide (yb ≤ xb) with
            | false =>
              rw [h1] at hcnt
              replace hcnt := Lib.hid hcnt
              refine region_tw (fun w' => Below (wr).heap.size (wr) w') (by kernel_rfl) (by kernel_rfl) (Below.refl _ _).drew ?_
              unfold clsS
              repeat (first
                | go_big_quiet_skip
                | (go_big_quiet_want; go_big_quiet_op; first | go_big_quiet_on | go_big_quiet_call (
                  (first |(fail)))))
              refine wpQuiet_nil ?_
              intro tq
              go_wp2_with fail
              go_roundw
              case rel => exact ⟨j + 1, by omega, by go_num, by rw [hcnt.out]; simp, bel_after bel2 tq.h⟩
              case measure => simp [intOf]; omega
            | true =>
              cases h2 : (ye == -1) with
              | true =>
                rw [h1, h2] at hcnt
                replace hcnt := Lib.hid hcnt
                refine region_tw (fun w' => Below (wr).heap.size (wr) w') (by kernel_rfl) (by kernel_rfl) (Below.refl _ _).drew ?_
                unfold clsS
                repeat (first
                  | go_big_quiet_skip
                  | (go_big_quiet_want; go_big_quiet_op; first | go_big_quiet_on | go_big_quiet_call (
                    (first |(fail)))))
                refine wpQuiet_nil ?_
                intro tq
                go_wp2_with fail
                go_roundw
                case rel => exact ⟨j + 1, by omega, by go_num, by rw [hcnt.out]; simp, bel_after bel2 tq.h⟩
                case measure => simp [intOf]; omega
              | false =>
                cases h3 : decide (xb < ye) with
                | true =>
                  rw [h1, h2, h3] at hcnt
                  replace hcnt := Lib.hid hcnt
                  refine region_tw (fun w' => Below (wr).heap.size (wr) w') (by kernel_rfl) (by kernel_rfl) (Below.refl _ _).drew ?_
                  unfold clsS
                  repeat (first
                    | go_big_quiet_skip
                    | (go_big_quiet_want; go_big_quiet_op; first | go_big_quiet_on | go_big_quiet_call (
                      (first |(fail)))))
                  refine wpQuiet_nil ?_
                  intro tq
                  go_wp2_with fail
                  go_roundw
                  case rel => exact ⟨j + 1, by omega, by go_num, by rw [hcnt.out]; simp, bel_after bel2 tq.h⟩
                  case measure => simp [intOf]; omega
                | false =>
                  rw [h1, h2, h3] at hcnt
                  replace hcnt := Lib.hid hcnt
                  refine region_tw (fun w' => Below (wr).heap.size (wr) w') (by kernel_rfl) (by kernel_rfl) (Below.refl _ _).drew ?_
                  unfold clsS
                  repeat (first
                    | go_big_quiet_skip
                    | (go_big_quiet_want; go_big_quiet_op; first | go_big_quiet_on | go_big_quiet_call (
                      (first |(fail)))))
                  refine wpQuiet_nil ?_
                  intro tq
                  go_wp2_with fail
                  go_roundw
                  case rel => exact ⟨j + 1, by omega, by go_num, by rw [hcnt.out]; simp, bel_after bel2 tq.h⟩
                  case measure => simp [intOf]; omega
          · obtain rfl : j = n := by omega
            have d1 : decide ((j : Int) < (j : Int)) = false := by simp
            have d2 : decide (j < j) = false := by simp
            have ec : onN l j x.b = cntL l x.b := by unfold onN cntL; rw [List.take_of_length_le (by rw [hn.out]; omega)]
            have hcle := onN_le l j x.b
            rw [← ec] at hws
            generalize onN l j x.b = cn at *
            clear ec
            go_wp2_with fail
            go_roundw
            case rel => exact ⟨k + 1, by omega, by go_num, by rw [hws.out]; simp; split <;> omega, bel2⟩
            case measure => simp [intOf]; omega
      · obtain rfl : k = n := by omega
        have d1 : decide ((k : Int) < (k : Int)) = false := by simp
        have d2 : decide (k < k) = false := by simp
        go_wp2
        go_ret
        refine ⟨?_, bel⟩
        rw [hn.out]
        rfl
/- The law's To. -/
theorem wp_stRowH {P : Program} {o : Oper} {a : Act} {K : Act → World → Prop} {Q : Exit → Act → World → Prop} {w : World} (hd : o.dst = none) {t : TypeId} {p v : Operand} (ho : o.op = .store t p v) {g : Nat} (hp : a.eval p = .pointer (some ⟨g, 0, none⟩)) {cs : Array Value} (hv : a.eval v = .agg cs) {tt : TypeId} {old : Array Value}
    (hb : Blk w g tt old) (hi : (P.info? t).map (·.size) = some cs.size) (hs : old.size = cs.size) (h1 : cs.all (·.oneCell') = true) (h : K a (w.setRow g cs)) : o.wp P a w K Q := by
  have hr : (execOp a.eval o).run P w = .ok .skip (w.setRow g cs) := by
    have h2 := run_storeVar_row (P := P) w g tt t old cs hb hi hs h1
    simp only [execOp, ho, hp, hv, Instr.storeAt, Instr.sureAddr, Sem.run_bind, Sem.run_pure, Result.andThen, h2]
  unfold Oper.wp
  rw [hr, Oper.upon_skip, hd]
  exact h
def IsEn (w : World) (g : Nat) : Prop := ∃ cs : Array Value, cs.size = 11 ∧ Blk w g 31 cs
def ToS (W : World) (B : Nat) (w' : World) : Prop := Below B W w' ∧ IsEn w' B ∧ B < w'.heap.size
theorem ToS.alloc {W w' : World} {B : Nat} (h : ToS W B w') (o : Obj) : ToS W B (w'.alloc o) := by
  obtain ⟨h1, ⟨cs, h2, h3⟩, h4⟩ := h
  exact ⟨h1.alloc (by omega) o, ⟨cs, h2, h3.alloc o⟩, by simp; omega⟩
theorem ToS.bel {W w' w2 : World} {B : Nat} (h : ToS W B w') (hb : Below w'.heap.size w' w2) : ToS W B w2 := by
  obtain ⟨h1, ⟨cs, h2, h3⟩, h4⟩ := h
  exact ⟨h1.trans (hb.mono (by omega)), ⟨cs, h2, h3.bel hb⟩, by have := hb.size; omega⟩
theorem KeepO.of_bel {o : Obj} {w w' : World} (h : Below w.heap.size w w') : KeepO o w w' := fun k hk => by
  have hlt : k < w.heap.size := (Array.getElem?_eq_some_iff.1 hk).1
  rw [h.block k hlt]; exact hk
def ToR (w : World) (x : En) (e : Ending) (w' : World) : Prop := ∃ s t : Sl, e = .returned (.agg #[.int .i64 { x with f := s, g := t }.b, .int .i64 { x with f := s, g := t }.e, .bool { x with f := s, g := t }.ends, .bool { x with f := s, g := t }.out, .slice { x with f := s, g := t }.f.A { x with f := s, g := t }.f.n { x with f := s, g := t }.f.c, .int .i64 { x with f := s, g := t }.tick, .int .i64 { x with f := s, g := t }.port, .slice { x with f := s, g := t }.g.A { x with f := s, g := t }.g.n { x with f := s, g := t }.g.c, .int .i64 { x with f := s, g := t }.err, .int .i64 { x with f := s, g := t }.proto, .int .i64 { x with f := s, g := t }.pt]) ∧ Below w.heap.size w w'
set_option maxRecDepth 100000 in
set_option maxHeartbeats 4000000 in
theorem hTo_any (x : En) (F G : List Int) (w : World) (hr : EnR w x F G) (hF : F.length ≤ 140737488355328) (hG : G.length ≤ 140737488355328) :
    Calls Try.prog 6 #[.agg #[.int .i64 x.b, .int .i64 x.e, .bool x.ends, .bool x.out, .slice x.f.A x.f.n x.f.c, .int .i64 x.tick, .int .i64 x.port, .slice x.g.A x.g.n x.g.c, .int .i64 x.err, .int .i64 x.proto, .int .i64 x.pt]] w (ToR w x) := by
  obtain ⟨⟨hf, hf1, hf2⟩, ⟨hg, hg1, hg2⟩⟩ := hr
  have hfl := hf.len
  have hgl := hg.len
  obtain ⟨i0, hi, hz0, hz1, hz2⟩ := info_parts info_u8_
  replace hfl := Lib.hid hfl
  replace hgl := Lib.hid hgl
  go_enter Try.func6, Try.ntmps6
  go_upto_region 1 with fail
  have bx := (Blk.new w 35 #[.int .i64 x.b, .int .i64 x.e, .bool x.ends, .bool x.out, .slice x.f.A x.f.n x.f.c, .int .i64 x.tick, .int .i64 x.port, .slice x.g.A x.g.n x.g.c, .int .i64 x.err, .int .i64 x.proto, .int .i64 x.pt]).alloc (.cells #[.int .i64 0, .int .i64 0, .bool false, .bool false, .slice none 0 0, .int .i64 0, .int .i64 0, .slice none 0 0, .int .i64 0, .int .i64 0, .int .i64 0] 31)
  have br := Blk.new (w.alloc (.cells #[.int .i64 x.b, .int .i64 x.e, .bool x.ends, .bool x.out, .slice x.f.A x.f.n x.f.c, .int .i64 x.tick, .int .i64 x.port, .slice x.g.A x.g.n x.g.c, .int .i64 x.err, .int .i64 x.proto, .int .i64 x.pt] 35)) 31 #[.int .i64 0, .int .i64 0, .bool false, .bool false, .slice none 0 0, .int .i64 0, .int .i64 0, .slice none 0 0, .int .i64 0, .int .i64 0, .int .i64 0]
  rw [show (w.alloc (.cells #[.int .i64 x.b, .int .i64 x.e, .bool x.ends, .bool x.out, .slice x.f.A x.f.n x.f.c, .int .i64 x.tick, .int .i64 x.port, .slice x.g.A x.g.n x.g.c, .int .i64 x.err, .int .i64 x.proto, .int .i64 x.pt] 35)).heap.size = w.heap.size + 1 by simp] at br
  have bel : Below w.heap.size w ((w.alloc (.cells #[.int .i64 x.b, .int .i64 x.e, .bool x.ends, .bool x.out, .slice x.f.A x.f.n x.f.c, .int .i64 x.tick, .int .i64 x.port, .slice x.g.A x.g.n x.g.c, .int .i64 x.err, .int .i64 x.proto, .int .i64 x.pt] 35)).alloc (.cells #[.int .i64 0, .int .i64 0, .bool false, .bool false, .slice none 0 0, .int .i64 0, .int .i64 0, .slice none 0 0, .int .i64 0, .int .i64 0, .int .i64 0] 31)) := (bel_alloc _ _).alloc (by simp) _
  generalize (w.alloc (.cells #[.int .i64 x.b, .int .i64 x.e, .bool x.ends, .bool x.out, .slice x.f.A x.f.n x.f.c, .int .i64 x.tick, .int .i64 x.port, .slice x.g.A x.g.n x.g.c, .int .i64 x.err, .int .i64 x.proto, .int .i64 x.pt] 35)).alloc (.cells #[.int .i64 0, .int .i64 0, .bool false, .bool false, .slice none 0 0, .int .i64 0, .int .i64 0, .slice none 0 0, .int .i64 0, .int .i64 0, .int .i64 0] 31) = W at *
  have z : ∀ (t : Tw (ToS W (w.heap.size + 1))) (i : Nat), t.w.cell? ⟨w.heap.size, i, none⟩ = (#[.int .i64 x.b, .int .i64 x.e, .bool x.ends, .bool x.out, .slice x.f.A x.f.n x.f.c, .int .i64 x.tick, .int .i64 x.port, .slice x.g.A x.g.n x.g.c, .int .i64 x.err, .int .i64 x.proto, .int .i64 x.pt] : Array Value)[i]? := fun t i => (bx.below t.h.1 (by omega)).cell i
  have zz : Nonempty (Tw (ToS W (w.heap.size + 1))) := ⟨⟨W, Below.refl _ _, ⟨_, rfl, br⟩, br.lt⟩⟩
  have hS0 : ToS W (w.heap.size + 1) W.drew := ⟨(Below.refl _ _).drew, ⟨_, rfl, br.drew⟩, br.lt⟩
  refine wp_region_float (ToS W (w.heap.size + 1)) (.cells #[] 5) (w.heap.size + 2) (fun h => .slice (some ⟨h, 0, none⟩) 0 0) 21 _ [(0, true), (1, true), (2, true), (3, true), (4, true), (5, true), (6, true), (7, true), (8, true), (10, true), (11, true), (12, true), (14, true), (15, true), (16, true), (17, true), (18, true), (19, true), (22, true), (23, true), (25, true), (26, true), (28, true), (29, true), (30, true), (31, true), (9, false), (13, false), (20, true)] [(24, false), (27, true), (32, true), (33, false)] (by kernel_rfl) (by kernel_rfl) (by rfl) (by rfl) (by kernel_rfl) (by kernel_rfl) hS0 (fun w h => h.alloc _) (fun w h => by have := h.2.2; omega) (by intro a w; simp [execOp, go_sem]) ?_
  clear hS0
  have bel0 := bel
  replace bx := bx.drew
  replace br := br.drew
  replace bel := bel.drew
  have z0 := fun t => z t 0
  have z1 := fun t => z t 1
  have z2 := fun t => z t 2
  have z3 := fun t => z t 3
  have z4 := fun t => z t 4
  have z5 := fun t => z t 5
  have z6 := fun t => z t 6
  have z7 := fun t => z t 7
  have z8 := fun t => z t 8
  have z9 := fun t => z t 9
  have z10 := fun t => z t 10
  clear z
  refine wpFl_qs 26 _ _ _ (by kernel_rfl) (by kernel_rfl) (by simp) ?_
  unfold clsS
  simp only [List.take_succ_cons, List.take_zero, List.drop_succ_cons, List.drop_zero, List.filterMap_cons, List.filterMap_nil, List.getElem?_toArray, List.getElem?_cons_zero, List.getElem?_cons_succ]
  repeat (first
    | go_big_quiet_skip
    | (go_big_quiet_want; go_big_quiet_op; go_big_quiet_on)
    | (refine id (?_ : wpQuiet _ _ _ _ (_ :: _) _); first | go_big_quiet_skip | (go_big_quiet_want; go_big_quiet_op; go_big_quiet_on)))
  refine wpQuiet_nil ?_
  refine wpFl_e (fun _ => True) _ (by rfl) (by kernel_rfl) trivial (fun _ _ => trivial) (fun w1 _ hS1 K hK => ?_)
  go_simp
  refine hK _ _ (hS1.alloc _) (KeepO.of_bel (bel_alloc _ _)) ?_
  clear hK K
  replace hS1 := hS1.alloc (.cells #[] 5)
  generalize w1.alloc (.cells #[] 5) = w2 at *
  generalize w1.heap.size = g9 at *
  refine wpFl_e (fun _ => True) _ (by rfl) (by kernel_rfl) trivial (fun _ _ => trivial) (fun w3 _ hS3 K hK => ?_)
  refine wp_app0 w3 (.tmp 12) (.tmp 15) 24 rfl 5 i0 (.int .u8 0) Try.underlying24 hi hz0 hz1 hz2 g9 w.heap.size x.f.A x.f.n x.f.c rfl rfl F ((hf.below bel0).below (hS3.1.mono (by omega))) (by rw [← hfl.out]; omega) ?_
  intro sA sn sc w4 hb4
  go_simp
  replace hS3 := hS3.bel hb4
  refine hK _ _ hS3 (KeepO.of_bel hb4) ?_
  clear hK K hb4 hS1
  refine wpFl_qs 1 _ _ _ (by kernel_rfl) (by kernel_rfl) (by simp) ?_
  unfold clsS
  simp only [List.take_succ_cons, List.take_zero, List.drop_succ_cons, List.drop_zero, List.filterMap_cons, List.filterMap_nil, List.getElem?_toArray, List.getElem?_cons_zero, List.getElem?_cons_succ]
  repeat (first
    | go_big_quiet_skip
    | (go_big_quiet_want; go_big_quiet_op; go_big_quiet_on)
    | (refine id (?_ : wpQuiet _ _ _ _ (_ :: _) _); first | go_big_quiet_skip | (go_big_quiet_want; go_big_quiet_op; go_big_quiet_on)))
  refine wpQuiet_nil ?_
  unfold wpFl
  refine ⟨fun _ => True, trivial, fun _ _ => trivial, fun w5 g21 _ hS5 _ _ => ?_⟩
  clear hS3
  go_simp
  refine wpPl_e _ (by rfl) (by kernel_rfl) (fun K hK => ?_)
  refine wp_app0 w5 (.tmp 24) (.tmp 26) 24 rfl 5 i0 (.int .u8 0) Try.underlying24 hi hz0 hz1 hz2 g21 w.heap.size x.g.A x.g.n x.g.c rfl rfl G ((hg.below bel0).below (hS5.1.mono (by omega))) (by rw [← hgl.out]; omega) ?_
  intro tA tn tc w6 hb6
  go_simp
  replace hS5 := hS5.bel hb6
  refine hK _ _ hS5 ?_
  clear hK K hb6
  refine wpPl_qs 2 _ _ _ (by kernel_rfl) (by kernel_rfl) (by simp) ?_
  unfold clsS
  simp only [List.take_succ_cons, List.take_zero, List.drop_succ_cons, List.drop_zero, List.filterMap_cons, List.filterMap_nil, List.getElem?_toArray, List.getElem?_cons_zero, List.getElem?_cons_succ]
  repeat (first
    | go_big_quiet_skip
    | (go_big_quiet_want; go_big_quiet_op; go_big_quiet_on)
    | (refine id (?_ : wpQuiet _ _ _ _ (_ :: _) _); first | go_big_quiet_skip | (go_big_quiet_want; go_big_quiet_op; go_big_quiet_on)))
  refine wpQuiet_nil ?_
  obtain ⟨h1, ⟨cs, h2, h3⟩, h4⟩ := hS5
  refine wpPl_e _ (by rfl) (by kernel_rfl) (fun K hK => ?_)
  refine wp_stRowH rfl rfl rfl rfl h3 en_size h2 (by simp [Value.oneCell']) ?_
  have br2 := h3.setRow #[.int .i64 { x with f := ⟨sA, sn, sc⟩, g := ⟨tA, tn, tc⟩ }.b, .int .i64 { x with f := ⟨sA, sn, sc⟩, g := ⟨tA, tn, tc⟩ }.e, .bool { x with f := ⟨sA, sn, sc⟩, g := ⟨tA, tn, tc⟩ }.ends, .bool { x with f := ⟨sA, sn, sc⟩, g := ⟨tA, tn, tc⟩ }.out, .slice { x with f := ⟨sA, sn, sc⟩, g := ⟨tA, tn, tc⟩ }.f.A { x with f := ⟨sA, sn, sc⟩, g := ⟨tA, tn, tc⟩ }.f.n { x with f := ⟨sA, sn, sc⟩, g := ⟨tA, tn, tc⟩ }.f.c, .int .i64 { x with f := ⟨sA, sn, sc⟩, g := ⟨tA, tn, tc⟩ }.tick, .int .i64 { x with f := ⟨sA, sn, sc⟩, g := ⟨tA, tn, tc⟩ }.port, .slice { x with f := ⟨sA, sn, sc⟩, g := ⟨tA, tn, tc⟩ }.g.A { x with f := ⟨sA, sn, sc⟩, g := ⟨tA, tn, tc⟩ }.g.n { x with f := ⟨sA, sn, sc⟩, g := ⟨tA, tn, tc⟩ }.g.c, .int .i64 { x with f := ⟨sA, sn, sc⟩, g := ⟨tA, tn, tc⟩ }.err, .int .i64 { x with f := ⟨sA, sn, sc⟩, g := ⟨tA, tn, tc⟩ }.proto, .int .i64 { x with f := ⟨sA, sn, sc⟩, g := ⟨tA, tn, tc⟩ }.pt]
  have belz : Below w.heap.size w (w6.setRow (w.heap.size + 1) #[.int .i64 { x with f := ⟨sA, sn, sc⟩, g := ⟨tA, tn, tc⟩ }.b, .int .i64 { x with f := ⟨sA, sn, sc⟩, g := ⟨tA, tn, tc⟩ }.e, .bool { x with f := ⟨sA, sn, sc⟩, g := ⟨tA, tn, tc⟩ }.ends, .bool { x with f := ⟨sA, sn, sc⟩, g := ⟨tA, tn, tc⟩ }.out, .slice { x with f := ⟨sA, sn, sc⟩, g := ⟨tA, tn, tc⟩ }.f.A { x with f := ⟨sA, sn, sc⟩, g := ⟨tA, tn, tc⟩ }.f.n { x with f := ⟨sA, sn, sc⟩, g := ⟨tA, tn, tc⟩ }.f.c, .int .i64 { x with f := ⟨sA, sn, sc⟩, g := ⟨tA, tn, tc⟩ }.tick, .int .i64 { x with f := ⟨sA, sn, sc⟩, g := ⟨tA, tn, tc⟩ }.port, .slice { x with f := ⟨sA, sn, sc⟩, g := ⟨tA, tn, tc⟩ }.g.A { x with f := ⟨sA, sn, sc⟩, g := ⟨tA, tn, tc⟩ }.g.n { x with f := ⟨sA, sn, sc⟩, g := ⟨tA, tn, tc⟩ }.g.c, .int .i64 { x with f := ⟨sA, sn, sc⟩, g := ⟨tA, tn, tc⟩ }.err, .int .i64 { x with f := ⟨sA, sn, sc⟩, g := ⟨tA, tn, tc⟩ }.proto, .int .i64 { x with f := ⟨sA, sn, sc⟩, g := ⟨tA, tn, tc⟩ }.pt]) := below_setRow (bel0.trans (h1.mono (by omega))) (by omega) _
  refine hK _ _ ⟨below_setRow h1 (Nat.le_refl _) _, ⟨_, rfl, br2⟩, by simpa using h4⟩ ?_
  clear hK K
  unfold wpPl
  refine NoPanic.normal ?_
  go_wp2
  exact bodyPost_ret (results_row rfl _ rfl br2 Try.underlying31 en_size) rfl ⟨⟨sA, sn, sc⟩, ⟨tA, tn, tc⟩, rfl, belz⟩
/- The walks of package history: All, End. -/
theorem SlO.grownT {w w' : World} {base base' : Nat} {s : Sl} {l : List Int} {v : Value} {l2 : List En} (h : SlO w base s l) (ho : OwnT En.cs 11 31 w base' v l2) (hg : w.grownBy w' v.ownBlock) : SlO w' base s l := by
  refine Own.keep h hg ?_
  rcases ho.row.2 with ⟨rfl, _⟩ | ⟨g', cap', cur', rfl, hg', hh', _⟩
  · cases hv : (Value.slice s.A s.n s.c).ownBlock with
    | none => exact .inl rfl
    | some g => exact .inr (by simp [Value.ownBlock])
  · rcases h.row.2 with ⟨e, _⟩ | ⟨g, cap, cur, e, hb, hh, _⟩
    · rw [e]; exact .inl rfl
    · rw [e]
      refine .inr (fun e2 => ?_)
      have : g = g' := by simpa [Value.ownBlock] using e2
      exact Blk.ne_ (cs := cur) (cs' := cur') hh hh' (by decide) this
/-- entries with frames of their own, that read as F and G -/
def EnsR (w : World) (base : Nat) (l l' : List En) (F G : Nat → List Int) (k : Nat) : Prop :=
  l'.length = k ∧ ∀ j x, j < k → l[j]? = some x → ∃ s t, l'[j]? = some { x with f := s, g := t } ∧ SlO w base s (F j) ∧ SlO w base t (G j)
theorem EnsR.keep {w w' : World} {base : Nat} {l l' : List En} {F G : Nat → List Int} {k : Nat} (h : EnsR w base l l' F G k) (hk : ∀ s L, SlO w base s L → SlO w' base s L) : EnsR w' base l l' F G k :=
  ⟨h.1, fun j x hj hx => by
    obtain ⟨s, t, h1, h2, h3⟩ := h.2 j x hj hx
    exact ⟨s, t, h1, hk _ _ h2, hk _ _ h3⟩⟩
theorem EnsR.add {w : World} {base : Nat} {l l' : List En} {F G : Nat → List Int} {k : Nat} (h : EnsR w base l l' F G k) {x : En} {s t : Sl} (hx : l[k]? = some x) (hs : SlO w base s (F k)) (ht : SlO w base t (G k)) : EnsR w base l (l' ++ [{ x with f := s, g := t }]) F G (k + 1) := by
  refine ⟨by rw [List.length_append, h.1]; rfl, fun j y hj hy => ?_⟩
  rcases Nat.lt_or_ge j k with hlt | hge
  · obtain ⟨s', t', h1, h2, h3⟩ := h.2 j y hlt hy
    exact ⟨s', t', by rw [List.getElem?_append_left (by rw [h.1]; exact hlt)]; exact h1, h2, h3⟩
  · obtain rfl : j = k := by omega
    rw [hx] at hy
    injection hy with hy
    subst hy
    exact ⟨s, t, by rw [List.getElem?_append_right (by rw [h.1]; omega), h.1]; simp, hs, ht⟩
def AllR (w : World) (l : List En) (F G : Nat → List Int) (e : Ending) (w' : World) : Prop :=
  ∃ v' l', e = .returned v' ∧ OwnT En.cs 11 31 w' w.heap.size v' l' ∧ EnsR w' w.heap.size l l' F G l.length ∧ Below w.heap.size w w'
set_option maxRecDepth 100000 in
set_option maxHeartbeats 4000000 in
theorem hAll_any (base gh : Nat) (now : Int) (v : Value) (l : List En) (F G : Nat → List Int) (w : World) (hm : HisM w base gh now v l) (hl : l.length ≤ 100) (hr : ∀ j x, l[j]? = some x → EnR w x (F j) (G j)) (hF : ∀ j, (F j).length ≤ 60000) (hG : ∀ j, (G j).length ≤ 60000) :
    Calls Try.prog 18 #[.pointer (some ⟨gh, 0, none⟩)] w (AllR w l F G) := by
  obtain ⟨i0, hi, hz0, hz1, hz2⟩ := info_parts en_info
  obtain ⟨n, hn⟩ : ∃ n, l.length = n := ⟨_, rfl⟩
  obtain ⟨A, c, rfl, hnc, hcm⟩ := hm.row.form hn
  unfold maxLen at hcm
  have rd := hm.row.rd En.cs_len rfl hn
  have q1 := hm.obj.cell 1
  unfold AllR
  rw [hn] at hl ⊢
  replace hn := Lib.hid hn
  replace hr := Lib.hid hr
  go_enter Try.func18, Try.ntmps18
  go_wp2
  go_loopw [3, 13] (fun o i wr => ∃ k : Nat, k ≤ n ∧ i = .int .i64 k ∧ ∃ l', OwnT En.cs 11 31 wr w.heap.size o l' ∧ EnsR wr w.heap.size l l' F G k ∧ Below w.heap.size w wr) (fun _ i _ => n - (intOf i).toNat)
  case atStart => exact ⟨0, by omega, rfl, [], ⟨World.ownsRow_nil _ _ _ _⟩, ⟨rfl, fun j x hj => by omega⟩, Below.refl _ _⟩
  case round =>
    obtain ⟨k, hk, rfl, l', own, hens, bel⟩ := hrel
    rcases Nat.lt_or_ge k n with hkn | hkn
    · have d1 : decide ((k : Int) < (n : Int)) = true := by simpa using hkn
      have d2 : decide (k < n) = true := by simpa using hkn
      obtain ⟨g, o, rfl, hg, hcel⟩ := rd.cel (by omega)
      obtain ⟨x, hx⟩ : ∃ x, l[k]? = some x := ⟨_, List.getElem?_eq_getElem (by rw [hn.out]; omega)⟩
      have hc : ∀ j u, ([.int .i64 x.b, .int .i64 x.e, .bool x.ends, .bool x.out, .slice x.f.A x.f.n x.f.c, .int .i64 x.tick, .int .i64 x.port, .slice x.g.A x.g.n x.g.c, .int .i64 x.err, .int .i64 x.proto, .int .i64 x.pt] : List Value)[j]? = some u → wr.cell? ⟨g, o + k * 11 + j, none⟩ = some u := fun j u hu => (bel.cell (p := ⟨g, o + k * 11 + j, none⟩) hg).trans (hcel k x hx j u hu)
      have k0 : (0 : Int) ≤ (k : Int) := by omega
      have k1 : (k : Int) < (n : Int) := by omega
      have bx := (Blk.new wr 31 #[.int .i64 0, .int .i64 0, .bool false, .bool false, .slice none 0 0, .int .i64 0, .int .i64 0, .slice none 0 0, .int .i64 0, .int .i64 0, .int .i64 0]).setRow #[.int .i64 x.b, .int .i64 x.e, .bool x.ends, .bool x.out, .slice x.f.A x.f.n x.f.c, .int .i64 x.tick, .int .i64 x.port, .slice x.g.A x.g.n x.g.c, .int .i64 x.err, .int .i64 x.proto, .int .i64 x.pt]
      have belr : Below wr.heap.size wr ((wr.alloc (.cells #[.int .i64 0, .int .i64 0, .bool false, .bool false, .slice none 0 0, .int .i64 0, .int .i64 0, .slice none 0 0, .int .i64 0, .int .i64 0, .int .i64 0] 31)).setRow wr.heap.size #[.int .i64 x.b, .int .i64 x.e, .bool x.ends, .bool x.out, .slice x.f.A x.f.n x.f.c, .int .i64 x.tick, .int .i64 x.port, .slice x.g.A x.g.n x.g.c, .int .i64 x.err, .int .i64 x.proto, .int .i64 x.pt]) := below_setRow (bel_alloc _ _) (Nat.le_refl _) #[.int .i64 x.b, .int .i64 x.e, .bool x.ends, .bool x.out, .slice x.f.A x.f.n x.f.c, .int .i64 x.tick, .int .i64 x.port, .slice x.g.A x.g.n x.g.c, .int .i64 x.err, .int .i64 x.proto, .int .i64 x.pt]
      have hrx := hr.out k x hx
      replace hx := Lib.hid hx
      go_upto_region 7 with (first
        | (refine wpList_ldAt rfl rfl rfl hc Try.underlying31 en_size ?_)
        | (refine wpList_stRow rfl rfl rfl rfl rfl (Blk.new wr _ _) en_size rfl (by simp [Value.oneCell']) ?_; generalize (wr.alloc (.cells #[.int .i64 0, .int .i64 0, .bool false, .bool false, .slice none 0 0, .int .i64 0, .int .i64 0, .slice none 0 0, .int .i64 0, .int .i64 0, .int .i64 0] 31)).setRow wr.heap.size #[.int .i64 x.b, .int .i64 x.e, .bool x.ends, .bool x.out, .slice x.f.A x.f.n x.f.c, .int .i64 x.tick, .int .i64 x.port, .slice x.g.A x.g.n x.g.c, .int .i64 x.err, .int .i64 x.proto, .int .i64 x.pt] = W1 at *))
      clear hc
      replace own := own.below belr
      replace hens := hens.keep (fun s L h => SlO.bel h belr)
      replace bel := bel_after bel belr
      have ko := hown_any x (F k) (G k) W1 ⟨hrx.1.bel bel, hrx.2.bel bel⟩ (hF k) (hG k)
      clear hrx belr
      replace ko := Lib.hid ko
      generalize wr.heap.size = g1 at *
      go_wp2_with (refine wpList_ldRow rfl rfl rfl bx Try.underlying31 en_size ?_)
      refine ko.out.mono ?_
      rintro e w2 ⟨s, t, rfl, hs, ht, hb⟩
      replace own := own.below hb
      replace hens := hens.keep (fun s L h => SlO.bel h hb)
      replace hs : SlO w2 w.heap.size s (F k) := SlO.lower hs bel.size
      replace ht : SlO w2 w.heap.size t (G k) := SlO.lower ht bel.size
      replace bel := bel_after bel hb
      clear hb ko bx
      have hla := bel_alloc w2 (.cells #[.int .i64 { x with f := s, g := t }.b, .int .i64 { x with f := s, g := t }.e, .bool { x with f := s, g := t }.ends, .bool { x with f := s, g := t }.out, .slice { x with f := s, g := t }.f.A { x with f := s, g := t }.f.n { x with f := s, g := t }.f.c, .int .i64 { x with f := s, g := t }.tick, .int .i64 { x with f := s, g := t }.port, .slice { x with f := s, g := t }.g.A { x with f := s, g := t }.g.n { x with f := s, g := t }.g.c, .int .i64 { x with f := s, g := t }.err, .int .i64 { x with f := s, g := t }.proto, .int .i64 { x with f := s, g := t }.pt] 31)
      have hxr := RdT.new (cs := En.cs) (sz := 11) En.cs_len w2 31 [{ x with f := s, g := t }] #[.int .i64 { x with f := s, g := t }.b, .int .i64 { x with f := s, g := t }.e, .bool { x with f := s, g := t }.ends, .bool { x with f := s, g := t }.out, .slice { x with f := s, g := t }.f.A { x with f := s, g := t }.f.n { x with f := s, g := t }.f.c, .int .i64 { x with f := s, g := t }.tick, .int .i64 { x with f := s, g := t }.port, .slice { x with f := s, g := t }.g.A { x with f := s, g := t }.g.n { x with f := s, g := t }.g.c, .int .i64 { x with f := s, g := t }.err, .int .i64 { x with f := s, g := t }.proto, .int .i64 { x with f := s, g := t }.pt] rfl 1 rfl
      replace own := own.below hla
      replace hens := hens.keep (fun s L h => SlO.bel h hla)
      replace hs := hs.bel hla
      replace ht := ht.bel hla
      replace bel := bel_after bel hla
      clear hla
      have hlk := hens.1
      go_wp2_with (at_builtin; generalize w2.alloc (.cells #[.int .i64 { x with f := s, g := t }.b, .int .i64 { x with f := s, g := t }.e, .bool { x with f := s, g := t }.ends, .bool { x with f := s, g := t }.out, .slice { x with f := s, g := t }.f.A { x with f := s, g := t }.f.n { x with f := s, g := t }.f.c, .int .i64 { x with f := s, g := t }.tick, .int .i64 { x with f := s, g := t }.port, .slice { x with f := s, g := t }.g.A { x with f := s, g := t }.g.n { x with f := s, g := t }.g.c, .int .i64 { x with f := s, g := t }.err, .int .i64 { x with f := s, g := t }.proto, .int .i64 { x with f := s, g := t }.pt] 31) = W3 at *; refine wpList_appT En.cs_len En.cs_one (by decide) _ rfl (.tmp 17) (.tmp 20) 23 rfl w.heap.size 31 i0 (.agg #[.int .i64 0, .int .i64 0, .bool false, .bool false, .slice none 0 0, .int .i64 0, .int .i64 0, .slice none 0 0, .int .i64 0, .int .i64 0, .int .i64 0]) 120 Try.underlying23 hi hz0 hz1 hz2 rfl _ rfl l' own _ _ 1 1 rfl [{ x with f := s, g := t }] hxr (by omega) (by decide) (by have := bel.size; omega) ?_; intro v4 w4 own4 hg4 hv4)
      have bel4 : Below w.heap.size w w4 := bel.trans ((Upd.of_grown (S := fun k => w.heap.size ≤ k) hg4 (fun g e => (own.lt g e).1)).below bel.size (fun k hk => by omega))
      replace hens := hens.keep (fun s L h => SlO.grownT h own hg4)
      replace hs := hs.grownT own hg4
      replace ht := ht.grownT own hg4
      replace hens := hens.add hx.out hs ht
      go_roundw
      case rel => exact ⟨k + 1, by omega, by go_num, _, own4, hens, bel4⟩
      case measure => simp [intOf]; omega
    · obtain rfl : k = n := by omega
      have d1 : decide ((k : Int) < (k : Int)) = false := by simp
      have d2 : decide (k < k) = false := by simp
      go_wp2
      go_ret
      exact ⟨_, l', rfl, own, hens, bel⟩
/- The walks of package history: End, where no port follows from the answer. -/
theorem grown_set (w : World) (g j : Nat) (u : Value) : w.grownBy (w.setCell ⟨g, j, none⟩ u) (some g) := ⟨rfl, rfl, rfl, by simp, fun k _ hk => heap_setCell_other w ⟨g, j, none⟩ k u (fun e => hk (by simp [e]))⟩
theorem HisM.setF {W : World} {base gh g n c : Nat} {now : Int} {l : List En} (h : HisM W base gh now (.slice (some ⟨g, 0, none⟩) n c) l) (hn : l.length = n) {i : Nat} {x x' : En} (hx : l[i]? = some x) {f : Nat} {u : Value} (hf : f < 11) (hx' : x'.cs = x.cs.set f u) :
    HisM (W.setCell ⟨g, i * 11 + f, none⟩ u) base gh now (.slice (some ⟨g, 0, none⟩) n c) (l.set i x') :=
  ⟨h.obj.far (p := ⟨g, i * 11 + f, none⟩) (fun e => h.row_ne (by rw [e]; rfl)) u, h.row.setF En.cs_len hn hx hf hx'⟩
/-- what End leaves of an entry -/
def endE (x : En) (now er : Int) (t : Sl) : En := { x with e := now, g := t, err := er }
def EndR (w : World) (base gh : Nat) (now er : Int) (v : Value) (l : List En) (i : Nat) (x : En) (G : List Int) (e : Ending) (w' : World) : Prop :=
  ∃ t, e = .returned (.int .i64 0) ∧ HisM w' base gh (now + 1) v (l.set i (endE x (now + 1) er t)) ∧ SlO w' w.heap.size t G ∧ Upd (fun k => k = gh ∨ v.ownBlock = some k) w w'
set_option maxRecDepth 100000 in
set_option maxHeartbeats 4000000 in
theorem hEnd_any (i : Nat) (fA : Option Addr) (fn fc : Nat) (er : Int) (G : List Int) (base gh : Nat) (now : Int) (v : Value) (l : List En) (x : En) (w : World) (hm : HisM w base gh now v l) (hbase : base ≤ w.heap.size) (hl : l.length ≤ 100) (hnow : 0 ≤ now ∧ now ≤ 1000) (hr : SlR w ⟨fA, fn, fc⟩ G) (hG : G.length ≤ 60000)
    (hx : l[i]? = some x) (he1 : x.ends = false) (he2 : x.e = -1) (h8 : (er == 8) = false) (h9 : (er == 9) = false) (h0 : (er == 0) = true → x.out = false) :
    Calls Try.prog 15 #[.pointer (some ⟨gh, 0, none⟩), .int .i64 i, .agg #[.slice fA fn fc, .int .i64 er]] w (EndR w base gh now er v l i x G) := by
  obtain ⟨n, hn⟩ : ∃ n, l.length = n := ⟨_, rfl⟩
  have hi : i < n := by have := (List.getElem?_eq_some_iff.1 hx).1; omega
  obtain ⟨g, c, rfl, hnc, hcm, hgb, hglt, _⟩ := hm.row.formG hn (by omega)
  unfold maxLen at hcm
  have hne : g ≠ gh := fun e => hm.row_ne (by rw [e]; rfl)
  have hgl := hm.obj.lt
  have q0 := hm.obj.cell 0
  have q1 := hm.obj.cell 1
  have f0 := hm.obj.frozen 0
  have c1 := hm.row.at_ En.cs_len hx (f := 1) rfl
  have c2 := hm.row.at_ En.cs_len hx (f := 2) rfl
  rw [he1] at c2
  rw [he2] at c1
  have i0 : (0 : Int) ≤ (i : Int) := by omega
  have i1 : (i : Int) < (n : Int) := by omega
  have d1 : decide ((n : Int) ≤ (i : Int)) = false := by simp; omega
  have d2 : decide (n ≤ i) = false := by simp; omega
  have kc := fun W (hW : SlR W ⟨fA, fn, fc⟩ G) => SClone_any G ⟨fA, fn, fc⟩ W hW hG
  simp only at kc
  replace kc := Lib.hid kc
  replace hn := Lib.hid hn
  replace hx := Lib.hid hx
  replace he1 := Lib.hid he1
  replace he2 := Lib.hid he2
  replace h0 := Lib.hid h0
  go_enter Try.func15, Try.ntmps15
  go_upto_region 5 with fail
  have up0 : Upd (fun k => k = gh) w ((w.setCell ⟨gh, 0, none⟩ (.int .i64 (now + 1))).alloc (.cells #[.slice fA fn fc, .int .i64 er] 29)) := (Upd.one w gh 0 _).alloc _
  have bx := Blk.new (w.setCell ⟨gh, 0, none⟩ (.int .i64 (now + 1))) 29 #[.slice fA fn fc, .int .i64 er]
  rw [show (w.setCell ⟨gh, 0, none⟩ (.int .i64 (now + 1))).heap.size = w.heap.size by simp [World.setCell]] at bx
  have hM : HisM ((w.setCell ⟨gh, 0, none⟩ (.int .i64 (now + 1))).alloc (.cells #[.slice fA fn fc, .int .i64 er] 29)) base gh (now + 1) (.slice (some ⟨g, 0, none⟩) n c) l :=
    ⟨(hm.obj.set_ 0 _).alloc _, (hm.row.upd (Upd.one _ gh 0 _) (fun k e e2 => by simp [Value.ownBlock] at e; omega)).alloc _⟩
  have hr2 : SlR ((w.setCell ⟨gh, 0, none⟩ (.int .i64 (now + 1))).alloc (.cells #[.slice fA fn fc, .int .i64 er] 29)) ⟨fA, fn, fc⟩ G := by
    refine ⟨⟨hr.1.len, hr.1.rng, fun hn => ?_⟩, hr.2⟩
    obtain ⟨b, o, e, hlt, hc⟩ := hr.1.cel hn
    have hbg : b ≠ gh := fun e => by
      have h0 := hc 0 hn
      rw [e, hm.obj.cell] at h0
      have h1 : ∀ j : Nat, (#[Value.int .i64 now, .slice (some ⟨g, 0, none⟩) n c] : Array Value)[j]? ≠ some (Value.int .u8 (G.getD 0 0)) := by
        intro j h
        match j with
        | 0 => simp at h
        | 1 => simp at h
        | k + 2 => simp at h
      exact h1 _ h0
    exact ⟨b, o, e, by have := up0.size; omega, fun j hj => (World.cell?_of_block (up0.block b (by omega) hbg)).trans (hc j hj)⟩
  generalize (w.setCell ⟨gh, 0, none⟩ (.int .i64 (now + 1))).alloc (.cells #[.slice fA fn fc, .int .i64 er] 29) = W at *
  clear q0 q1 f0 c1 c2 d1 d2 hm hr
  have z1 : ∀ t : Tw (fun w' => w'.cell? ⟨gh, 0, none⟩ = some (.int .i64 (now + 1)) ∧ w'.cell? ⟨w.heap.size, 0, none⟩ = some (.slice fA fn fc) ∧ w'.cell? ⟨w.heap.size, 1, none⟩ = some (.int .i64 er)), t.w.cell? ⟨gh, 0, none⟩ = some (.int .i64 (now + 1)) := fun t => t.h.1
  have z2 : ∀ t : Tw (fun w' => w'.cell? ⟨gh, 0, none⟩ = some (.int .i64 (now + 1)) ∧ w'.cell? ⟨w.heap.size, 0, none⟩ = some (.slice fA fn fc) ∧ w'.cell? ⟨w.heap.size, 1, none⟩ = some (.int .i64 er)), t.w.cell? ⟨w.heap.size, 0, none⟩ = some (.slice fA fn fc) := fun t => t.h.2.1
  have z3 : ∀ t : Tw (fun w' => w'.cell? ⟨gh, 0, none⟩ = some (.int .i64 (now + 1)) ∧ w'.cell? ⟨w.heap.size, 0, none⟩ = some (.slice fA fn fc) ∧ w'.cell? ⟨w.heap.size, 1, none⟩ = some (.int .i64 er)), t.w.cell? ⟨w.heap.size, 1, none⟩ = some (.int .i64 er) := fun t => t.h.2.2
  have zz : Nonempty (Tw (fun w' => w'.cell? ⟨gh, 0, none⟩ = some (.int .i64 (now + 1)) ∧ w'.cell? ⟨w.heap.size, 0, none⟩ = some (.slice fA fn fc) ∧ w'.cell? ⟨w.heap.size, 1, none⟩ = some (.int .i64 er))) := ⟨⟨_, hM.obj.cell 0, bx.cell 0, bx.cell 1⟩⟩
  replace bx := bx.drew
  replace up0 := up0.drew
  replace hM : HisM W.drew base gh (now + 1) (.slice (some ⟨g, 0, none⟩) n c) l := ⟨hM.obj.drew, hM.row.drew⟩
  replace hr2 : SlR W.drew ⟨fA, fn, fc⟩ G := ⟨hr2.1.drew, hr2.2⟩
  refine wp_region_plan (fun w' => w'.cell? ⟨gh, 0, none⟩ = some (.int .i64 (now + 1)) ∧ w'.cell? ⟨w.heap.size, 0, none⟩ = some (.slice fA fn fc) ∧ w'.cell? ⟨w.heap.size, 1, none⟩ = some (.int .i64 er)) [(0, true), (1, true), (2, true), (3, true), (4, true), (5, true), (6, true), (7, true), (9, true), (10, true), (8, false), (11, true), (12, true), (13, true), (14, false), (15, true), (16, true), (17, false)] (by kernel_rfl) (by kernel_rfl) (by kernel_rfl) (by kernel_rfl) ⟨hM.obj.cell 0, bx.cell 0, bx.cell 1⟩ ?_
  generalize W.drew = W1 at *
  refine wpPl_qs 10 _ _ _ (by kernel_rfl) (by kernel_rfl) (by simp) ?_
  unfold clsS
  simp only [List.take_succ_cons, List.take_zero, List.drop_succ_cons, List.drop_zero, List.filterMap_cons, List.filterMap_nil, List.getElem?_toArray, List.getElem?_cons_zero, List.getElem?_cons_succ]
  repeat (first
    | go_big_quiet_skip
    | (go_big_quiet_want; go_big_quiet_op; go_big_quiet_on)
    | (refine id (?_ : wpQuiet _ _ _ _ (_ :: _) _); first | go_big_quiet_skip | (go_big_quiet_want; go_big_quiet_op; go_big_quiet_on)))
  refine wpQuiet_nil ?_
  refine wpPl_e _ (by rfl) (by kernel_rfl) (fun K hK => ?_)
  go_simp
  refine (kc.out _ hr2).mono ?_
  rintro e w2 ⟨t, rfl, ht, hb⟩
  replace ht : SlO w2 w.heap.size t G := SlO.lower ht up0.size
  replace bx := bx.bel hb
  replace hM : HisM w2 base gh (now + 1) (.slice (some ⟨g, 0, none⟩) n c) l := ⟨hM.obj.bel hb, hM.row.below hb⟩
  have up2 : Upd (fun k => k = gh ∨ (Value.slice (some ⟨g, 0, none⟩) n c).ownBlock = some k) w w2 := (up0.mono (fun _ _ h => .inl h)).trans (Upd.of_below hb _)
  clear hb kc hr2 up0
  refine hK _ _ ⟨hM.obj.cell 0, bx.cell 0, bx.cell 1⟩ ?_
  clear hK K
  refine wpPl_qs 3 _ _ _ (by kernel_rfl) (by kernel_rfl) (by simp) ?_
  unfold clsS
  simp only [List.take_succ_cons, List.take_zero, List.drop_succ_cons, List.drop_zero, List.filterMap_cons, List.filterMap_nil, List.getElem?_toArray, List.getElem?_cons_zero, List.getElem?_cons_succ]
  repeat (first
    | go_big_quiet_skip
    | (go_big_quiet_want; go_big_quiet_op; go_big_quiet_on)
    | (refine id (?_ : wpQuiet _ _ _ _ (_ :: _) _); first | go_big_quiet_skip | (go_big_quiet_want; go_big_quiet_op; go_big_quiet_on)))
  refine wpQuiet_nil ?_
  refine wpPl_e _ (by rfl) (by kernel_rfl) (fun K hK => ?_)
  have f1 := hM.row.frozen hn.out (i * 11 + 1)
  have c1 := hM.row.at_ En.cs_len hx.out (f := 1) rfl
  go_simp
  have hbg : w.heap.size ≠ g := by omega
  have hgv : (Value.slice (some ⟨g, 0, none⟩) n c).ownBlock = some g := rfl
  have hlt1 := (List.getElem?_eq_some_iff.1 hx.out).1
  replace ht := ht.grownT hM.row (grown_set w2 g (i * 11 + 1) (.int .i64 (now + 1)))
  replace bx := bx.far (p := ⟨g, i * 11 + 1, none⟩) hbg (.int .i64 (now + 1))
  replace up2 := up2.setCell (p := ⟨g, i * 11 + 1, none⟩) (fun _ => .inr hgv) (.int .i64 (now + 1))
  replace hM := hM.setF hn.out hx.out (x' := { x with e := now + 1 }) (f := 1) (u := .int .i64 (now + 1)) (by decide) rfl
  have hn2 : (l.set i { x with e := now + 1 }).length = n := by rw [List.length_set]; exact hn.out
  have hx2 : (l.set i { x with e := now + 1 })[i]? = some { x with e := now + 1 } := List.getElem?_set_self hlt1
  refine hK _ _ ⟨hM.obj.cell 0, bx.cell 0, bx.cell 1⟩ ?_
  clear hK K f1 c1
  generalize w2.setCell ⟨g, i * 11 + 1, none⟩ (.int .i64 (now + 1)) = w3 at *
  replace hn2 := Lib.hid hn2
  replace hx2 := Lib.hid hx2
  refine wpPl_qs 2 _ _ _ (by kernel_rfl) (by kernel_rfl) (by simp) ?_
  unfold clsS
  simp only [List.take_succ_cons, List.take_zero, List.drop_succ_cons, List.drop_zero, List.filterMap_cons, List.filterMap_nil, List.getElem?_toArray, List.getElem?_cons_zero, List.getElem?_cons_succ]
  repeat (first
    | go_big_quiet_skip
    | (go_big_quiet_want; go_big_quiet_op; go_big_quiet_on)
    | (refine id (?_ : wpQuiet _ _ _ _ (_ :: _) _); first | go_big_quiet_skip | (go_big_quiet_want; go_big_quiet_op; go_big_quiet_on)))
  refine wpQuiet_nil ?_
  refine wpPl_e _ (by rfl) (by kernel_rfl) (fun K hK => ?_)
  have f7 := hM.row.frozen hn2.out (i * 11 + 7)
  have c7 := hM.row.at_ En.cs_len hx2.out (f := 7) rfl
  have f8 := hM.row.frozen hn2.out (i * 11 + 7 + 1)
  have c8 := hM.row.at_ En.cs_len hx2.out (f := 8) rfl
  have e8 : i * 11 + 8 = i * 11 + 7 + 1 := by omega
  rw [e8] at c8
  go_simp
  replace ht := (ht.grownT hM.row (grown_set w3 g (i * 11 + 7) (.slice t.A t.n t.c)))
  replace bx := (bx.far (p := ⟨g, i * 11 + 7, none⟩) hbg (.slice t.A t.n t.c)).far (p := ⟨g, i * 11 + 7 + 1, none⟩) hbg (.int .i64 er)
  replace up2 := (up2.setCell (p := ⟨g, i * 11 + 7, none⟩) (fun _ => .inr hgv) (.slice t.A t.n t.c)).setCell (p := ⟨g, i * 11 + 7 + 1, none⟩) (fun _ => .inr hgv) (.int .i64 er)
  replace hM := hM.setF hn2.out hx2.out (x' := { x with e := now + 1, g := t }) (f := 7) (u := .slice t.A t.n t.c) (by decide) rfl
  rw [List.set_set] at hM
  have hn3 : (l.set i { x with e := now + 1, g := t }).length = n := by rw [List.length_set]; exact hn.out
  have hx3 : (l.set i { x with e := now + 1, g := t })[i]? = some { x with e := now + 1, g := t } := List.getElem?_set_self hlt1
  replace ht := (ht.grownT hM.row (grown_set _ g (i * 11 + 7 + 1) (.int .i64 er)))
  replace hM := hM.setF hn3 hx3 (x' := endE x (now + 1) er t) (f := 8) (u := .int .i64 er) (by decide) rfl
  rw [List.set_set, e8] at hM
  have hn4 : (l.set i (endE x (now + 1) er t)).length = n := by rw [List.length_set]; exact hn.out
  have hx4 : (l.set i (endE x (now + 1) er t))[i]? = some (endE x (now + 1) er t) := List.getElem?_set_self hlt1
  refine hK _ _ ⟨hM.obj.cell 0, bx.cell 0, bx.cell 1⟩ ?_
  clear hK K f7 f8 c7 c8 e8 z1 z2 z3 zz hn2 hx2 hn3 hx3
  generalize (w3.setCell ⟨g, i * 11 + 7, none⟩ (.slice t.A t.n t.c)).setCell ⟨g, i * 11 + 7 + 1, none⟩ (.int .i64 er) = w4 at *
  unfold wpPl
  refine NoPanic.normal ?_
  have c3 := hM.row.at_ En.cs_len hx4 (f := 3) rfl
  have p1 := bx.cell 1
  replace hn4 := Lib.hid hn4
  replace hx4 := Lib.hid hx4
  cases hz : (er == 0) with
  | true =>
    have e0 : (endE x (now + 1) er t).out = false := h0.out hz
    rw [e0] at c3
    replace e0 := Lib.hid e0
    go_wp2
    go_ret
    exact ⟨t, rfl, hM, ht, up2⟩
  | false =>
    go_wp2
    go_ret
    exact ⟨t, rfl, hM, ht, up2⟩
/- The law's notes. -/
theorem SlR.nil_any {w w' : World} {s : Sl} (h : SlR w s []) : SlR w' s [] := by
  have hn := h.1.len
  exact ⟨⟨hn, by simp, fun h0 => by simp at hn; omega⟩, h.2⟩
theorem SlR.none (w : World) : SlR w ⟨.none, 0, 0⟩ [] := ⟨Rd.nil _ _ _ _, by simp, by simp⟩
theorem HisM.bel {W W' : World} {base gh : Nat} {now : Int} {v : Value} {l : List En} (h : HisM W base gh now v l) (hb : Below W.heap.size W W') : HisM W' base gh now v l := ⟨h.obj.bel hb, h.row.below hb⟩
theorem up_bel {w w0 w' : World} {base gh : Nat} {v : Value} {now : Int} {l : List En} (bel : Below base w0 w) (hm : HisM w base gh now v l) (hg : base ≤ gh) (hb : base ≤ w.heap.size) (hu : Upd (fun k => k = gh ∨ v.ownBlock = some k) w w') : Below base w0 w' :=
  bel.trans (hu.below hb (fun k hk e => by
    rcases e with e | e
    · omega
    · have := (hm.row.lt k e).1; omega))
set_option maxRecDepth 100000 in
set_option maxHeartbeats 4000000 in
theorem hnotes_any (w : World) : Calls Try.prog 7 #[] w fun e w' => e = .returned (.bool true) ∧ Below w.heap.size w w' := by
  go_enter Try.func7, Try.ntmps7
  go_wp2_with fail
  refine (hNew_any w).mono ?_
  rintro e w1 ⟨rfl, hM, bel⟩
  generalize hgh : w.heap.size = gh at *
  have hb0 : gh ≤ w1.heap.size := by have := hM.obj.lt; omega
  replace hgh := Lib.hid hgh
  go_wp2_with fail
  refine (hBegin_any false .none 0 0 0 0 [] gh gh 0 (.slice .none 0 0) [] w1 hM hb0 (by simp) (by omega) (SlR.none _) (by simp)).mono ?_
  rintro e w2 ⟨v2, s1, t1, rfl, hM2, hs1, ht1, up2⟩
  replace bel := up_bel bel hM (Nat.le_refl _) hb0 up2
  replace hs1 := hs1.rd
  replace ht1 := ht1.rd
  have hb2 : gh ≤ w2.heap.size := by have := up2.size; omega
  clear hM up2 hb0
  go_wp2_with fail
  refine (hBegin_any false .none 0 0 0 0 [] gh gh (0 + 1) v2 _ w2 hM2 hb2 (by simp) (by omega) (SlR.none _) (by simp)).mono ?_
  rintro e w3 ⟨v3, s2, t2, rfl, hM3, hs2, ht2, up3⟩
  replace bel := up_bel bel hM2 (Nat.le_refl _) hb2 up3
  replace hs2 := hs2.rd
  replace ht2 := ht2.rd
  have hb3 : gh ≤ w3.heap.size := by have := up3.size; omega
  clear hM2 up3 hb2
  simp only [List.nil_append, List.cons_append, List.length_nil, List.length_cons, Nat.zero_add, Int.zero_add] at hM3 ⊢
  go_wp2_with fail
  have ke := hEnd_any 0 .none 0 0 0 [] gh gh (1 + 1) v3 _ w3 hM3 hb3 (by simp) (by omega) (SlR.none _) (by simp) (x := ⟨1, -1, false, false, s1, 0, 0, t1, 0, 0, 0⟩) rfl rfl rfl rfl rfl (fun _ => rfl)
  refine ke.mono ?_
  rintro e w4 ⟨t3, rfl, hM4, ht3, up4⟩
  replace bel := up_bel bel hM3 (Nat.le_refl _) hb3 up4
  replace ht3 := ht3.rd
  have hb4 : gh ≤ w4.heap.size := by have := up4.size; omega
  clear hM3 up4 hb3 ke
  simp only [List.set_cons_zero] at hM4
  go_wp2_with fail
  refine (hBegin_any false .none 0 0 0 0 [] gh gh (1 + 1 + 1) v3 _ w4 hM4 hb4 (by simp) (by omega) (SlR.none _) (by simp)).mono ?_
  rintro e w5 ⟨v5, s4, t4, rfl, hM5, hs4, ht4, up5⟩
  replace bel := up_bel bel hM4 (Nat.le_refl _) hb4 up5
  replace hs4 := hs4.rd
  replace ht4 := ht4.rd
  have hb5 : gh ≤ w5.heap.size := by have := up5.size; omega
  clear hM4 up5 hb4
  simp only [List.nil_append, List.cons_append, List.length_nil, List.length_cons, Nat.zero_add, Int.zero_add] at hM5 ⊢
  have hall := hAll_any gh gh _ v5 _ (fun _ => []) (fun _ => []) w5 hM5 (by simp) (fun j x hx => by
    match j with
    | 0 => simp at hx; subst hx; exact ⟨hs1.nil_any, ht3.nil_any⟩
    | 1 => simp at hx; subst hx; exact ⟨hs2.nil_any, ht2.nil_any⟩
    | 2 => simp at hx; subst hx; exact ⟨hs4.nil_any, ht4.nil_any⟩
    | k + 3 => simp at hx) (by simp) (by simp)
  replace hall := Lib.hid hall
  go_wp2_with fail
  refine hall.out.mono ?_
  rintro e w6 ⟨v6, l', rfl, own, ⟨hl', hens⟩, hb6⟩
  have hl3 : l'.length = 3 := hl'
  obtain ⟨sa, ta, x0, _⟩ := hens 0 _ (by simp) rfl
  obtain ⟨sb', tb, x1, _⟩ := hens 1 _ (by simp) rfl
  obtain ⟨sc, tc, x2, _⟩ := hens 2 _ (by simp) rfl
  obtain ⟨g, c, rfl, hnc, hcm, hg1, hg2, _⟩ := own.formG hl3 (by omega)
  unfold maxLen at hcm
  replace hM5 := hM5.bel hb6
  replace bel := bel.trans (hb6.mono hb5)
  clear hall hb6 hens
  have hrd := own.rd En.cs_len rfl hl3
  have y0 : ∀ w', (∃ t : Tw (Up w6), w' = t.w) → ∀ j u, ([.int .i64 { endE ⟨1, -1, false, false, s1, 0, 0, t1, 0, 0, 0⟩ (1 + 1 + 1) 0 t3 with f := sa, g := ta }.b, .int .i64 { endE ⟨1, -1, false, false, s1, 0, 0, t1, 0, 0, 0⟩ (1 + 1 + 1) 0 t3 with f := sa, g := ta }.e, .bool { endE ⟨1, -1, false, false, s1, 0, 0, t1, 0, 0, 0⟩ (1 + 1 + 1) 0 t3 with f := sa, g := ta }.ends, .bool { endE ⟨1, -1, false, false, s1, 0, 0, t1, 0, 0, 0⟩ (1 + 1 + 1) 0 t3 with f := sa, g := ta }.out, .slice { endE ⟨1, -1, false, false, s1, 0, 0, t1, 0, 0, 0⟩ (1 + 1 + 1) 0 t3 with f := sa, g := ta }.f.A { endE ⟨1, -1, false, false, s1, 0, 0, t1, 0, 0, 0⟩ (1 + 1 + 1) 0 t3 with f := sa, g := ta }.f.n { endE ⟨1, -1, false, false, s1, 0, 0, t1, 0, 0, 0⟩ (1 + 1 + 1) 0 t3 with f := sa, g := ta }.f.c, .int .i64 { endE ⟨1, -1, false, false, s1, 0, 0, t1, 0, 0, 0⟩ (1 + 1 + 1) 0 t3 with f := sa, g := ta }.tick, .int .i64 { endE ⟨1, -1, false, false, s1, 0, 0, t1, 0, 0, 0⟩ (1 + 1 + 1) 0 t3 with f := sa, g := ta }.port, .slice { endE ⟨1, -1, false, false, s1, 0, 0, t1, 0, 0, 0⟩ (1 + 1 + 1) 0 t3 with f := sa, g := ta }.g.A { endE ⟨1, -1, false, false, s1, 0, 0, t1, 0, 0, 0⟩ (1 + 1 + 1) 0 t3 with f := sa, g := ta }.g.n { endE ⟨1, -1, false, false, s1, 0, 0, t1, 0, 0, 0⟩ (1 + 1 + 1) 0 t3 with f := sa, g := ta }.g.c, .int .i64 { endE ⟨1, -1, false, false, s1, 0, 0, t1, 0, 0, 0⟩ (1 + 1 + 1) 0 t3 with f := sa, g := ta }.err, .int .i64 { endE ⟨1, -1, false, false, s1, 0, 0, t1, 0, 0, 0⟩ (1 + 1 + 1) 0 t3 with f := sa, g := ta }.proto, .int .i64 { endE ⟨1, -1, false, false, s1, 0, 0, t1, 0, 0, 0⟩ (1 + 1 + 1) 0 t3 with f := sa, g := ta }.pt] : List Value)[j]? = some u → w'.cell? ⟨g, 0 + j, none⟩ = some u := fun w' ⟨t, ht⟩ j u hu => ht ▸ ((t.h.cell (p := ⟨g, 0 + j, none⟩) hg2).trans (by have := own.at_ En.cs_len x0 hu; simpa using this))
  have y1 : ∀ w', (∃ t : Tw (Up w6), w' = t.w) → ∀ j u, ([.int .i64 { (⟨1 + 1, -1, false, false, s2, 0, 0, t2, 0, 0, 0⟩ : En) with f := sb', g := tb }.b, .int .i64 { (⟨1 + 1, -1, false, false, s2, 0, 0, t2, 0, 0, 0⟩ : En) with f := sb', g := tb }.e, .bool { (⟨1 + 1, -1, false, false, s2, 0, 0, t2, 0, 0, 0⟩ : En) with f := sb', g := tb }.ends, .bool { (⟨1 + 1, -1, false, false, s2, 0, 0, t2, 0, 0, 0⟩ : En) with f := sb', g := tb }.out, .slice { (⟨1 + 1, -1, false, false, s2, 0, 0, t2, 0, 0, 0⟩ : En) with f := sb', g := tb }.f.A { (⟨1 + 1, -1, false, false, s2, 0, 0, t2, 0, 0, 0⟩ : En) with f := sb', g := tb }.f.n { (⟨1 + 1, -1, false, false, s2, 0, 0, t2, 0, 0, 0⟩ : En) with f := sb', g := tb }.f.c, .int .i64 { (⟨1 + 1, -1, false, false, s2, 0, 0, t2, 0, 0, 0⟩ : En) with f := sb', g := tb }.tick, .int .i64 { (⟨1 + 1, -1, false, false, s2, 0, 0, t2, 0, 0, 0⟩ : En) with f := sb', g := tb }.port, .slice { (⟨1 + 1, -1, false, false, s2, 0, 0, t2, 0, 0, 0⟩ : En) with f := sb', g := tb }.g.A { (⟨1 + 1, -1, false, false, s2, 0, 0, t2, 0, 0, 0⟩ : En) with f := sb', g := tb }.g.n { (⟨1 + 1, -1, false, false, s2, 0, 0, t2, 0, 0, 0⟩ : En) with f := sb', g := tb }.g.c, .int .i64 { (⟨1 + 1, -1, false, false, s2, 0, 0, t2, 0, 0, 0⟩ : En) with f := sb', g := tb }.err, .int .i64 { (⟨1 + 1, -1, false, false, s2, 0, 0, t2, 0, 0, 0⟩ : En) with f := sb', g := tb }.proto, .int .i64 { (⟨1 + 1, -1, false, false, s2, 0, 0, t2, 0, 0, 0⟩ : En) with f := sb', g := tb }.pt] : List Value)[j]? = some u → w'.cell? ⟨g, 11 + j, none⟩ = some u := fun w' ⟨t, ht⟩ j u hu => ht ▸ ((t.h.cell (p := ⟨g, 11 + j, none⟩) hg2).trans (by have := own.at_ En.cs_len x1 hu; simpa using this))
  have y2 : ∀ w', (∃ t : Tw (Up w6), w' = t.w) → ∀ j u, ([.int .i64 { (⟨1 + 1 + 1 + 1, -1, false, false, s4, 0, 0, t4, 0, 0, 0⟩ : En) with f := sc, g := tc }.b, .int .i64 { (⟨1 + 1 + 1 + 1, -1, false, false, s4, 0, 0, t4, 0, 0, 0⟩ : En) with f := sc, g := tc }.e, .bool { (⟨1 + 1 + 1 + 1, -1, false, false, s4, 0, 0, t4, 0, 0, 0⟩ : En) with f := sc, g := tc }.ends, .bool { (⟨1 + 1 + 1 + 1, -1, false, false, s4, 0, 0, t4, 0, 0, 0⟩ : En) with f := sc, g := tc }.out, .slice { (⟨1 + 1 + 1 + 1, -1, false, false, s4, 0, 0, t4, 0, 0, 0⟩ : En) with f := sc, g := tc }.f.A { (⟨1 + 1 + 1 + 1, -1, false, false, s4, 0, 0, t4, 0, 0, 0⟩ : En) with f := sc, g := tc }.f.n { (⟨1 + 1 + 1 + 1, -1, false, false, s4, 0, 0, t4, 0, 0, 0⟩ : En) with f := sc, g := tc }.f.c, .int .i64 { (⟨1 + 1 + 1 + 1, -1, false, false, s4, 0, 0, t4, 0, 0, 0⟩ : En) with f := sc, g := tc }.tick, .int .i64 { (⟨1 + 1 + 1 + 1, -1, false, false, s4, 0, 0, t4, 0, 0, 0⟩ : En) with f := sc, g := tc }.port, .slice { (⟨1 + 1 + 1 + 1, -1, false, false, s4, 0, 0, t4, 0, 0, 0⟩ : En) with f := sc, g := tc }.g.A { (⟨1 + 1 + 1 + 1, -1, false, false, s4, 0, 0, t4, 0, 0, 0⟩ : En) with f := sc, g := tc }.g.n { (⟨1 + 1 + 1 + 1, -1, false, false, s4, 0, 0, t4, 0, 0, 0⟩ : En) with f := sc, g := tc }.g.c, .int .i64 { (⟨1 + 1 + 1 + 1, -1, false, false, s4, 0, 0, t4, 0, 0, 0⟩ : En) with f := sc, g := tc }.err, .int .i64 { (⟨1 + 1 + 1 + 1, -1, false, false, s4, 0, 0, t4, 0, 0, 0⟩ : En) with f := sc, g := tc }.proto, .int .i64 { (⟨1 + 1 + 1 + 1, -1, false, false, s4, 0, 0, t4, 0, 0, 0⟩ : En) with f := sc, g := tc }.pt] : List Value)[j]? = some u → w'.cell? ⟨g, 22 + j, none⟩ = some u := fun w' ⟨t, ht⟩ j u hu => ht ▸ ((t.h.cell (p := ⟨g, 22 + j, none⟩) hg2).trans (by have := own.at_ En.cs_len x2 hu; simpa using this))
  have kn := fun t : Tw (Up w6) => hNow_any gh gh _ v5 _ t.w (hM5.bel t.h)
  have ka1 := fun t : Tw (Up w6) => Ahead_any { endE ⟨1, -1, false, false, s1, 0, 0, t1, 0, 0, 0⟩ (1 + 1 + 1) 0 t3 with f := sa, g := ta } { (⟨1 + 1 + 1 + 1, -1, false, false, s4, 0, 0, t4, 0, 0, 0⟩ : En) with f := sc, g := tc } t.w
  have ka2 := fun t : Tw (Up w6) => Ahead_any { endE ⟨1, -1, false, false, s1, 0, 0, t1, 0, 0, 0⟩ (1 + 1 + 1) 0 t3 with f := sa, g := ta } { (⟨1 + 1, -1, false, false, s2, 0, 0, t2, 0, 0, 0⟩ : En) with f := sb', g := tb } t.w
  simp only [endE, aheadB] at ka1 ka2 y0 y1 y2
  have zz := Up.one w6
  clear own x0 x1 x2 hrd hM5 hl' hl3
  replace kn := Lib.hid kn
  replace ka1 := Lib.hid ka1
  replace ka2 := Lib.hid ka2
  replace y0 := Lib.hid y0
  replace y1 := Lib.hid y1
  replace y2 := Lib.hid y2
  go_upto_region 6 with fail
  refine region_tw (Up w6) (by kernel_rfl) (by kernel_rfl) (Up.rfl_ w6).drew ?_
  unfold clsS
  repeat (first
    | go_big_quiet_skip
    | (go_big_quiet_want; go_big_quiet_op; first | go_big_quiet_on | go_big_quiet_call ((go_at_call 17; exact q_tw_same (kn.out _)))))
  go_big_quiet_want
  refine quiet_ldAt rfl rfl y0.out Try.underlying31 en_size ?_
  go_simp
  go_big_quiet_on
  repeat (first
    | go_big_quiet_skip
    | (go_big_quiet_want; go_big_quiet_op; first | go_big_quiet_on | go_big_quiet_call (fail)))
  go_big_quiet_want
  refine quiet_ldAt rfl rfl y2.out Try.underlying31 en_size ?_
  go_simp
  go_big_quiet_on
  repeat (first
    | go_big_quiet_skip
    | (go_big_quiet_want; go_big_quiet_op; first | go_big_quiet_on | go_big_quiet_call (exact q_tw (Nat.le_refl _) (ka1.out _))))
  go_big_quiet_want
  refine quiet_ldAt rfl rfl y0.out Try.underlying31 en_size ?_
  go_simp
  go_big_quiet_on
  repeat (first
    | go_big_quiet_skip
    | (go_big_quiet_want; go_big_quiet_op; first | go_big_quiet_on | go_big_quiet_call (fail)))
  go_big_quiet_want
  refine quiet_ldAt rfl rfl y1.out Try.underlying31 en_size ?_
  go_simp
  go_big_quiet_on
  repeat (first
    | go_big_quiet_skip
    | (go_big_quiet_want; go_big_quiet_op; first | go_big_quiet_on | go_big_quiet_call (exact q_tw (Nat.le_refl _) (ka2.out _))))
  refine wpQuiet_nil ?_
  intro tq
  go_wp2
  go_ret
  have hb6 : gh ≤ w6.heap.size := by have := bel.size; have := hgh.out; omega
  have hend := bel.trans (tq.h.mono hb6)
  rw [← hgh.out] at hend
  exact ⟨rfl, hend⟩
/- The walks of package history: Ended; what nil tells. -/
theorem none_any (w : World) : Calls Try.prog 13 #[] w fun e w' => e = .returned (.pointer none) ∧ w = w' := by
  go_enter Try.func13, Try.ntmps13
  go_wp2
  go_ret
  exact ⟨rfl, rfl⟩
theorem nNow_any (w : World) : Calls Try.prog 17 #[.pointer none] w fun e w' => e = .returned (.int .i64 0) ∧ w = w' := by
  go_enter Try.func17, Try.ntmps17
  go_wp2
  go_ret
  exact ⟨rfl, rfl⟩
theorem nAll_any (w : World) : Calls Try.prog 18 #[.pointer none] w fun e w' => e = .returned (.slice none 0 0) ∧ w = w' := by
  go_enter Try.func18, Try.ntmps18
  go_wp2
  go_ret
  exact ⟨rfl, rfl⟩
theorem nBegin_any (ou : Bool) (fA : Option Addr) (fn fc : Nat) (ti po : Int) (w : World) : Calls Try.prog 14 #[.pointer none, .agg #[.bool ou, .slice fA fn fc, .int .i64 ti, .int .i64 po]] w fun e w' => e = .returned (.int .i64 (-1)) ∧ Below w.heap.size w w' := by
  go_enter Try.func14, Try.ntmps14
  have bel := bel_alloc w (.cells #[.bool ou, .slice fA fn fc, .int .i64 ti, .int .i64 po] 26)
  go_wp2
  go_ret
  exact ⟨rfl, bel⟩
theorem nEnd_any (i : Int) (fA : Option Addr) (fn fc : Nat) (er : Int) (w : World) : Calls Try.prog 15 #[.pointer none, .int .i64 i, .agg #[.slice fA fn fc, .int .i64 er]] w fun e w' => e = .returned (.int .i64 1) ∧ Below w.heap.size w w' := by
  go_enter Try.func15, Try.ntmps15
  have bel := bel_alloc w (.cells #[.slice fA fn fc, .int .i64 er] 29)
  go_wp2
  go_ret
  exact ⟨rfl, bel⟩
theorem nEnded_any (a b c d : Int) (w : World) : Calls Try.prog 16 #[.pointer none, .int .i64 a, .int .i64 b, .int .i64 c, .int .i64 d] w fun e w' => e = .returned (.int .i64 (-1)) ∧ w = w' := by
  go_enter Try.func16, Try.ntmps16
  go_wp2
  go_ret
  exact ⟨rfl, rfl⟩
/-- Ended refuses a beginning that isn't yet -/
theorem hEnded_no (since ti pr pt : Int) (base gh : Nat) (now : Int) (v : Value) (l : List En) (w : World) (hm : HisM w base gh now v l) (h : since < 1 ∨ now < since) :
    Calls Try.prog 16 #[.pointer (some ⟨gh, 0, none⟩), .int .i64 since, .int .i64 ti, .int .i64 pr, .int .i64 pt] w fun e w' => e = .returned (.int .i64 (-1)) ∧ w = w' := by
  have q0 := hm.obj.cell 0
  rcases Int.lt_or_le since 1 with h1 | h1
  · go_enter Try.func16, Try.ntmps16
    go_wp2
    go_ret
    exact ⟨rfl, rfl⟩
  · have h2 : now < since := by omega
    go_enter Try.func16, Try.ntmps16
    go_wp2
    go_ret
    exact ⟨rfl, rfl⟩
/-- what Ended leaves -/
def EdR (w : World) (base gh : Nat) (now since ti pr pt : Int) (v : Value) (l : List En) (e : Ending) (w' : World) : Prop :=
  ∃ v' s t, e = .returned (.int .i64 l.length) ∧ HisM w' base gh (now + 1) v' (l ++ [⟨since, now + 1, true, false, s, ti, 0, t, 0, pr, pt⟩]) ∧ SlO w' w.heap.size s [] ∧ SlO w' w.heap.size t [] ∧ Upd (fun k => k = gh ∨ v.ownBlock = some k) w w'
set_option maxRecDepth 100000 in
set_option maxHeartbeats 4000000 in
theorem hEnded_any (since ti pr pt : Int) (base gh : Nat) (now : Int) (v : Value) (l : List En) (w : World) (hm : HisM w base gh now v l) (hbase : base ≤ w.heap.size) (hl : l.length ≤ 100) (h1 : 1 ≤ since) (h2 : since ≤ now) (hnow : now ≤ 1000) :
    Calls Try.prog 16 #[.pointer (some ⟨gh, 0, none⟩), .int .i64 since, .int .i64 ti, .int .i64 pr, .int .i64 pt] w (EdR w base gh now since ti pr pt v l) := by
  have hne := hm.row_ne
  have ka := fun W (hb : Upd (fun k => k = gh) w W) (hM : HisM W base gh (now + 1) v l) => hadd_any ⟨since, now + 1, true, false, ⟨none, 0, 0⟩, ti, 0, ⟨none, 0, 0⟩, 0, pr, pt⟩ [] [] base gh (now + 1) v l W hM (by have := hb.size; omega) hl ⟨⟨Rd.nil _ _ _ _, by simp, by simp⟩, Rd.nil _ _ _ _, by simp, by simp⟩ (by simp) (by simp)
  simp only at ka
  have q0 := hm.obj.cell 0
  have q0f := hm.obj.frozen 0
  obtain ⟨i0, hi, hz0, hz1, hz2⟩ := info_parts en_info
  replace ka := Lib.hid ka
  go_enter Try.func16, Try.ntmps16
  go_upto_region 4 with fail
  have up0 : Upd (fun k => k = gh) w (w.setCell ⟨gh, 0, none⟩ (.int .i64 (now + 1))) := Upd.one w gh 0 _
  have hM : HisM (w.setCell ⟨gh, 0, none⟩ (.int .i64 (now + 1))) base gh (now + 1) v l :=
    ⟨hm.obj.set_ 0 _, hm.row.upd (Upd.one _ gh 0 _) (fun g e e2 => by rw [e2] at e; exact hne e)⟩
  generalize w.setCell ⟨gh, 0, none⟩ (.int .i64 (now + 1)) = W at *
  clear q0 q0f
  have q0 := hM.obj.cell 0
  go_wp2_with fail
  refine (ka.out _ up0 hM).mono ?_
  rintro e w1 ⟨v', s, t, rfl, hM', hs, ht, up⟩
  go_wp2
  go_ret
  exact ⟨v', s, t, rfl, hM', SlO.lower hs up0.size, SlO.lower ht up0.size, (up0.mono (fun _ _ h => .inl h)).trans up⟩
/- The walks of package history: End refuses. -/
set_option maxRecDepth 100000 in
set_option maxHeartbeats 4000000 in
/-- End refuses what is no entry, or is done -/
theorem hEnd_no (i : Int) (fA : Option Addr) (fn fc : Nat) (er : Int) (base gh : Nat) (now : Int) (v : Value) (l : List En) (w : World) (hm : HisM w base gh now v l) (hl : l.length ≤ 100)
    (h : i < 0 ∨ (l.length : Int) ≤ i ∨ ∃ (k : Nat) (x : En), i = k ∧ l[k]? = some x ∧ (x.ends = true ∨ x.ends = false ∧ (x.e != -1) = true)) :
    Calls Try.prog 15 #[.pointer (some ⟨gh, 0, none⟩), .int .i64 i, .agg #[.slice fA fn fc, .int .i64 er]] w fun e w' => e = .returned (.int .i64 1) ∧ Below w.heap.size w w' := by
  obtain ⟨n, hn⟩ : ∃ n, l.length = n := ⟨_, rfl⟩
  have hgl := hm.obj.lt
  have bel := bel_alloc w (.cells #[.slice fA fn fc, .int .i64 er] 29)
  have hM : HisM (w.alloc (.cells #[.slice fA fn fc, .int .i64 er] 29)) base gh now v l := ⟨hm.obj.alloc _, hm.row.alloc _⟩
  have q1 := hM.obj.cell 1
  rw [hn] at h
  rcases h with h | h | ⟨k, x, rfl, hx, h⟩
  · obtain ⟨A, c, rfl, _⟩ := hM.row.form hn
    replace hn := Lib.hid hn
    go_enter Try.func15, Try.ntmps15
    go_upto_region 1 with fail
    generalize w.alloc (.cells #[.slice fA fn fc, .int .i64 er] 29) = W at *
    go_wp2
    go_ret
    exact ⟨rfl, bel⟩
  · obtain ⟨A, c, rfl, _⟩ := hM.row.form hn
    have h0 : (0 : Int) ≤ i := by omega
    replace hn := Lib.hid hn
    go_enter Try.func15, Try.ntmps15
    go_upto_region 1 with fail
    generalize w.alloc (.cells #[.slice fA fn fc, .int .i64 er] 29) = W at *
    go_wp2
    go_ret
    exact ⟨rfl, bel⟩
  · have hk : k < n := by have := (List.getElem?_eq_some_iff.1 hx).1; omega
    obtain ⟨g, c, rfl, hnc, hcm, hgb, hglt, _⟩ := hM.row.formG hn (by omega)
    unfold maxLen at hcm
    have c1 := hM.row.at_ En.cs_len hx (f := 1) rfl
    have c2 := hM.row.at_ En.cs_len hx (f := 2) rfl
    have i0 : (0 : Int) ≤ (k : Int) := by omega
    have i1 : (k : Int) < (n : Int) := by omega
    have d1 : decide ((n : Int) ≤ (k : Int)) = false := by simp; omega
    have d2 : decide (n ≤ k) = false := by simp; omega
    replace hn := Lib.hid hn
    replace hx := Lib.hid hx
    rcases h with h | ⟨h, h'⟩
    · rw [h] at c2
      replace h := Lib.hid h
      go_enter Try.func15, Try.ntmps15
      go_upto_region 1 with fail
      generalize w.alloc (.cells #[.slice fA fn fc, .int .i64 er] 29) = W at *
      go_wp2
      go_ret
      exact ⟨rfl, bel⟩
    · rw [h] at c2
      replace h := Lib.hid h
      generalize x.e = xe at *
      go_enter Try.func15, Try.ntmps15
      go_upto_region 1 with fail
      generalize w.alloc (.cells #[.slice fA fn fc, .int .i64 er] 29) = W at *
      go_wp2
      go_ret
      exact ⟨rfl, bel⟩
/- The walks of package history: End, where no port was free, or no room. -/
/-- what End leaves of an entry that got no port -/
def EndP (w : World) (base gh : Nat) (now er : Int) (v : Value) (l : List En) (i : Nat) (x : En) (G : List Int) (po : Int) (e : Ending) (w' : World) : Prop :=
  ∃ t, e = .returned (.int .i64 0) ∧ HisM w' base gh (now + 1) v (l.set i { endE x (now + 1) er t with port := po }) ∧ SlO w' w.heap.size t G ∧ Upd (fun k => k = gh ∨ v.ownBlock = some k) w w'
set_option maxRecDepth 100000 in
set_option maxHeartbeats 4000000 in
theorem hEnd8_any (i : Nat) (fA : Option Addr) (fn fc : Nat) (er : Int) (G : List Int) (base gh : Nat) (now : Int) (v : Value) (l : List En) (x : En) (w : World) (hm : HisM w base gh now v l) (hbase : base ≤ w.heap.size) (hl : l.length ≤ 100) (hnow : 0 ≤ now ∧ now ≤ 1000) (hr : SlR w ⟨fA, fn, fc⟩ G) (hG : G.length ≤ 60000)
    (hx : l[i]? = some x) (he1 : x.ends = false) (he2 : x.e = -1) (h8 : (er == 8) = true) :
    Calls Try.prog 15 #[.pointer (some ⟨gh, 0, none⟩), .int .i64 i, .agg #[.slice fA fn fc, .int .i64 er]] w (EndP w base gh now er v l i x G (-1)) := by
  obtain ⟨n, hn⟩ : ∃ n, l.length = n := ⟨_, rfl⟩
  have hi : i < n := by have := (List.getElem?_eq_some_iff.1 hx).1; omega
  obtain ⟨g, c, rfl, hnc, hcm, hgb, hglt, _⟩ := hm.row.formG hn (by omega)
  unfold maxLen at hcm
  have hne : g ≠ gh := fun e => hm.row_ne (by rw [e]; rfl)
  have hgl := hm.obj.lt
  have q0 := hm.obj.cell 0
  have q1 := hm.obj.cell 1
  have f0 := hm.obj.frozen 0
  have c1 := hm.row.at_ En.cs_len hx (f := 1) rfl
  have c2 := hm.row.at_ En.cs_len hx (f := 2) rfl
  rw [he1] at c2
  rw [he2] at c1
  have i0 : (0 : Int) ≤ (i : Int) := by omega
  have i1 : (i : Int) < (n : Int) := by omega
  have d1 : decide ((n : Int) ≤ (i : Int)) = false := by simp; omega
  have d2 : decide (n ≤ i) = false := by simp; omega
  have kc := fun W (hW : SlR W ⟨fA, fn, fc⟩ G) => SClone_any G ⟨fA, fn, fc⟩ W hW hG
  simp only at kc
  replace kc := Lib.hid kc
  replace hn := Lib.hid hn
  replace hx := Lib.hid hx
  replace he1 := Lib.hid he1
  replace he2 := Lib.hid he2
  go_enter Try.func15, Try.ntmps15
  go_upto_region 5 with fail
  have up0 : Upd (fun k => k = gh) w ((w.setCell ⟨gh, 0, none⟩ (.int .i64 (now + 1))).alloc (.cells #[.slice fA fn fc, .int .i64 er] 29)) := (Upd.one w gh 0 _).alloc _
  have bx := Blk.new (w.setCell ⟨gh, 0, none⟩ (.int .i64 (now + 1))) 29 #[.slice fA fn fc, .int .i64 er]
  rw [show (w.setCell ⟨gh, 0, none⟩ (.int .i64 (now + 1))).heap.size = w.heap.size by simp [World.setCell]] at bx
  have hM : HisM ((w.setCell ⟨gh, 0, none⟩ (.int .i64 (now + 1))).alloc (.cells #[.slice fA fn fc, .int .i64 er] 29)) base gh (now + 1) (.slice (some ⟨g, 0, none⟩) n c) l :=
    ⟨(hm.obj.set_ 0 _).alloc _, (hm.row.upd (Upd.one _ gh 0 _) (fun k e e2 => by simp [Value.ownBlock] at e; omega)).alloc _⟩
  have hr2 : SlR ((w.setCell ⟨gh, 0, none⟩ (.int .i64 (now + 1))).alloc (.cells #[.slice fA fn fc, .int .i64 er] 29)) ⟨fA, fn, fc⟩ G := by
    refine ⟨⟨hr.1.len, hr.1.rng, fun hn => ?_⟩, hr.2⟩
    obtain ⟨b, o, e, hlt, hc⟩ := hr.1.cel hn
    have hbg : b ≠ gh := fun e => by
      have h0 := hc 0 hn
      rw [e, hm.obj.cell] at h0
      have h1 : ∀ j : Nat, (#[Value.int .i64 now, .slice (some ⟨g, 0, none⟩) n c] : Array Value)[j]? ≠ some (Value.int .u8 (G.getD 0 0)) := by
        intro j h
        match j with
        | 0 => simp at h
        | 1 => simp at h
        | k + 2 => simp at h
      exact h1 _ h0
    exact ⟨b, o, e, by have := up0.size; omega, fun j hj => (World.cell?_of_block (up0.block b (by omega) hbg)).trans (hc j hj)⟩
  generalize (w.setCell ⟨gh, 0, none⟩ (.int .i64 (now + 1))).alloc (.cells #[.slice fA fn fc, .int .i64 er] 29) = W at *
  clear q0 q1 f0 c1 c2 d1 d2 hm hr
  have z1 : ∀ t : Tw (fun w' => w'.cell? ⟨gh, 0, none⟩ = some (.int .i64 (now + 1)) ∧ w'.cell? ⟨w.heap.size, 0, none⟩ = some (.slice fA fn fc) ∧ w'.cell? ⟨w.heap.size, 1, none⟩ = some (.int .i64 er)), t.w.cell? ⟨gh, 0, none⟩ = some (.int .i64 (now + 1)) := fun t => t.h.1
  have z2 : ∀ t : Tw (fun w' => w'.cell? ⟨gh, 0, none⟩ = some (.int .i64 (now + 1)) ∧ w'.cell? ⟨w.heap.size, 0, none⟩ = some (.slice fA fn fc) ∧ w'.cell? ⟨w.heap.size, 1, none⟩ = some (.int .i64 er)), t.w.cell? ⟨w.heap.size, 0, none⟩ = some (.slice fA fn fc) := fun t => t.h.2.1
  have z3 : ∀ t : Tw (fun w' => w'.cell? ⟨gh, 0, none⟩ = some (.int .i64 (now + 1)) ∧ w'.cell? ⟨w.heap.size, 0, none⟩ = some (.slice fA fn fc) ∧ w'.cell? ⟨w.heap.size, 1, none⟩ = some (.int .i64 er)), t.w.cell? ⟨w.heap.size, 1, none⟩ = some (.int .i64 er) := fun t => t.h.2.2
  have zz : Nonempty (Tw (fun w' => w'.cell? ⟨gh, 0, none⟩ = some (.int .i64 (now + 1)) ∧ w'.cell? ⟨w.heap.size, 0, none⟩ = some (.slice fA fn fc) ∧ w'.cell? ⟨w.heap.size, 1, none⟩ = some (.int .i64 er))) := ⟨⟨_, hM.obj.cell 0, bx.cell 0, bx.cell 1⟩⟩
  replace bx := bx.drew
  replace up0 := up0.drew
  replace hM : HisM W.drew base gh (now + 1) (.slice (some ⟨g, 0, none⟩) n c) l := ⟨hM.obj.drew, hM.row.drew⟩
  replace hr2 : SlR W.drew ⟨fA, fn, fc⟩ G := ⟨hr2.1.drew, hr2.2⟩
  refine wp_region_plan (fun w' => w'.cell? ⟨gh, 0, none⟩ = some (.int .i64 (now + 1)) ∧ w'.cell? ⟨w.heap.size, 0, none⟩ = some (.slice fA fn fc) ∧ w'.cell? ⟨w.heap.size, 1, none⟩ = some (.int .i64 er)) [(0, true), (1, true), (2, true), (3, true), (4, true), (5, true), (6, true), (7, true), (9, true), (10, true), (8, false), (11, true), (12, true), (13, true), (14, false), (15, true), (16, true), (17, false)] (by kernel_rfl) (by kernel_rfl) (by kernel_rfl) (by kernel_rfl) ⟨hM.obj.cell 0, bx.cell 0, bx.cell 1⟩ ?_
  generalize W.drew = W1 at *
  refine wpPl_qs 10 _ _ _ (by kernel_rfl) (by kernel_rfl) (by simp) ?_
  unfold clsS
  simp only [List.take_succ_cons, List.take_zero, List.drop_succ_cons, List.drop_zero, List.filterMap_cons, List.filterMap_nil, List.getElem?_toArray, List.getElem?_cons_zero, List.getElem?_cons_succ]
  repeat (first
    | go_big_quiet_skip
    | (go_big_quiet_want; go_big_quiet_op; go_big_quiet_on)
    | (refine id (?_ : wpQuiet _ _ _ _ (_ :: _) _); first | go_big_quiet_skip | (go_big_quiet_want; go_big_quiet_op; go_big_quiet_on)))
  refine wpQuiet_nil ?_
  refine wpPl_e _ (by rfl) (by kernel_rfl) (fun K hK => ?_)
  go_simp
  refine (kc.out _ hr2).mono ?_
  rintro e w2 ⟨t, rfl, ht, hb⟩
  replace ht : SlO w2 w.heap.size t G := SlO.lower ht up0.size
  replace bx := bx.bel hb
  replace hM : HisM w2 base gh (now + 1) (.slice (some ⟨g, 0, none⟩) n c) l := ⟨hM.obj.bel hb, hM.row.below hb⟩
  have up2 : Upd (fun k => k = gh ∨ (Value.slice (some ⟨g, 0, none⟩) n c).ownBlock = some k) w w2 := (up0.mono (fun _ _ h => .inl h)).trans (Upd.of_below hb _)
  clear hb kc hr2 up0
  refine hK _ _ ⟨hM.obj.cell 0, bx.cell 0, bx.cell 1⟩ ?_
  clear hK K
  refine wpPl_qs 3 _ _ _ (by kernel_rfl) (by kernel_rfl) (by simp) ?_
  unfold clsS
  simp only [List.take_succ_cons, List.take_zero, List.drop_succ_cons, List.drop_zero, List.filterMap_cons, List.filterMap_nil, List.getElem?_toArray, List.getElem?_cons_zero, List.getElem?_cons_succ]
  repeat (first
    | go_big_quiet_skip
    | (go_big_quiet_want; go_big_quiet_op; go_big_quiet_on)
    | (refine id (?_ : wpQuiet _ _ _ _ (_ :: _) _); first | go_big_quiet_skip | (go_big_quiet_want; go_big_quiet_op; go_big_quiet_on)))
  refine wpQuiet_nil ?_
  refine wpPl_e _ (by rfl) (by kernel_rfl) (fun K hK => ?_)
  have f1 := hM.row.frozen hn.out (i * 11 + 1)
  have c1 := hM.row.at_ En.cs_len hx.out (f := 1) rfl
  go_simp
  have hbg : w.heap.size ≠ g := by omega
  have hgv : (Value.slice (some ⟨g, 0, none⟩) n c).ownBlock = some g := rfl
  have hlt1 := (List.getElem?_eq_some_iff.1 hx.out).1
  replace ht := ht.grownT hM.row (grown_set w2 g (i * 11 + 1) (.int .i64 (now + 1)))
  replace bx := bx.far (p := ⟨g, i * 11 + 1, none⟩) hbg (.int .i64 (now + 1))
  replace up2 := up2.setCell (p := ⟨g, i * 11 + 1, none⟩) (fun _ => .inr hgv) (.int .i64 (now + 1))
  replace hM := hM.setF hn.out hx.out (x' := { x with e := now + 1 }) (f := 1) (u := .int .i64 (now + 1)) (by decide) rfl
  have hn2 : (l.set i { x with e := now + 1 }).length = n := by rw [List.length_set]; exact hn.out
  have hx2 : (l.set i { x with e := now + 1 })[i]? = some { x with e := now + 1 } := List.getElem?_set_self hlt1
  refine hK _ _ ⟨hM.obj.cell 0, bx.cell 0, bx.cell 1⟩ ?_
  clear hK K f1 c1
  generalize w2.setCell ⟨g, i * 11 + 1, none⟩ (.int .i64 (now + 1)) = w3 at *
  replace hn2 := Lib.hid hn2
  replace hx2 := Lib.hid hx2
  refine wpPl_qs 2 _ _ _ (by kernel_rfl) (by kernel_rfl) (by simp) ?_
  unfold clsS
  simp only [List.take_succ_cons, List.take_zero, List.drop_succ_cons, List.drop_zero, List.filterMap_cons, List.filterMap_nil, List.getElem?_toArray, List.getElem?_cons_zero, List.getElem?_cons_succ]
  repeat (first
    | go_big_quiet_skip
    | (go_big_quiet_want; go_big_quiet_op; go_big_quiet_on)
    | (refine id (?_ : wpQuiet _ _ _ _ (_ :: _) _); first | go_big_quiet_skip | (go_big_quiet_want; go_big_quiet_op; go_big_quiet_on)))
  refine wpQuiet_nil ?_
  refine wpPl_e _ (by rfl) (by kernel_rfl) (fun K hK => ?_)
  have f7 := hM.row.frozen hn2.out (i * 11 + 7)
  have c7 := hM.row.at_ En.cs_len hx2.out (f := 7) rfl
  have f8 := hM.row.frozen hn2.out (i * 11 + 7 + 1)
  have c8 := hM.row.at_ En.cs_len hx2.out (f := 8) rfl
  have e8 : i * 11 + 8 = i * 11 + 7 + 1 := by omega
  rw [e8] at c8
  go_simp
  replace ht := (ht.grownT hM.row (grown_set w3 g (i * 11 + 7) (.slice t.A t.n t.c)))
  replace bx := (bx.far (p := ⟨g, i * 11 + 7, none⟩) hbg (.slice t.A t.n t.c)).far (p := ⟨g, i * 11 + 7 + 1, none⟩) hbg (.int .i64 er)
  replace up2 := (up2.setCell (p := ⟨g, i * 11 + 7, none⟩) (fun _ => .inr hgv) (.slice t.A t.n t.c)).setCell (p := ⟨g, i * 11 + 7 + 1, none⟩) (fun _ => .inr hgv) (.int .i64 er)
  replace hM := hM.setF hn2.out hx2.out (x' := { x with e := now + 1, g := t }) (f := 7) (u := .slice t.A t.n t.c) (by decide) rfl
  rw [List.set_set] at hM
  have hn3 : (l.set i { x with e := now + 1, g := t }).length = n := by rw [List.length_set]; exact hn.out
  have hx3 : (l.set i { x with e := now + 1, g := t })[i]? = some { x with e := now + 1, g := t } := List.getElem?_set_self hlt1
  replace ht := (ht.grownT hM.row (grown_set _ g (i * 11 + 7 + 1) (.int .i64 er)))
  replace hM := hM.setF hn3 hx3 (x' := endE x (now + 1) er t) (f := 8) (u := .int .i64 er) (by decide) rfl
  rw [List.set_set, e8] at hM
  have hn4 : (l.set i (endE x (now + 1) er t)).length = n := by rw [List.length_set]; exact hn.out
  have hx4 : (l.set i (endE x (now + 1) er t))[i]? = some (endE x (now + 1) er t) := List.getElem?_set_self hlt1
  refine hK _ _ ⟨hM.obj.cell 0, bx.cell 0, bx.cell 1⟩ ?_
  clear hK K f7 f8 c7 c8 e8 z1 z2 z3 zz hn2 hx2 hn3 hx3
  generalize (w3.setCell ⟨g, i * 11 + 7, none⟩ (.slice t.A t.n t.c)).setCell ⟨g, i * 11 + 7 + 1, none⟩ (.int .i64 er) = w4 at *
  unfold wpPl
  refine NoPanic.normal ?_
  have p1 := bx.cell 1
  have f6 := hM.row.frozen hn4 (i * 11 + 6)
  have c6 := hM.row.at_ En.cs_len hx4 (f := 6) rfl
  have hM6 := hM.setF hn4 hx4 (x' := { endE x (now + 1) er t with port := -1 }) (f := 6) (u := .int .i64 (-1)) (by decide) rfl
  rw [List.set_set] at hM6
  replace hM6 := Lib.hid hM6
  have ht6 := ht.grownT hM.row (grown_set w4 g (i * 11 + 6) (.int .i64 (-1)))
  have up6 := up2.setCell (p := ⟨g, i * 11 + 6, none⟩) (fun _ => .inr hgv) (.int .i64 (-1))
  replace hn4 := Lib.hid hn4
  replace hx4 := Lib.hid hx4
  go_wp2
  go_ret
  exact ⟨t, rfl, hM6.out, ht6, up6⟩
set_option maxRecDepth 100000 in
set_option maxHeartbeats 4000000 in
theorem hEnd9_any (i : Nat) (fA : Option Addr) (fn fc : Nat) (er : Int) (G : List Int) (base gh : Nat) (now : Int) (v : Value) (l : List En) (x : En) (w : World) (hm : HisM w base gh now v l) (hbase : base ≤ w.heap.size) (hl : l.length ≤ 100) (hnow : 0 ≤ now ∧ now ≤ 1000) (hr : SlR w ⟨fA, fn, fc⟩ G) (hG : G.length ≤ 60000)
    (hx : l[i]? = some x) (he1 : x.ends = false) (he2 : x.e = -1) (h8 : (er == 8) = false) (h9 : (er == 9) = true) :
    Calls Try.prog 15 #[.pointer (some ⟨gh, 0, none⟩), .int .i64 i, .agg #[.slice fA fn fc, .int .i64 er]] w (EndP w base gh now er v l i x G (-2)) := by
  obtain ⟨n, hn⟩ : ∃ n, l.length = n := ⟨_, rfl⟩
  have hi : i < n := by have := (List.getElem?_eq_some_iff.1 hx).1; omega
  obtain ⟨g, c, rfl, hnc, hcm, hgb, hglt, _⟩ := hm.row.formG hn (by omega)
  unfold maxLen at hcm
  have hne : g ≠ gh := fun e => hm.row_ne (by rw [e]; rfl)
  have hgl := hm.obj.lt
  have q0 := hm.obj.cell 0
  have q1 := hm.obj.cell 1
  have f0 := hm.obj.frozen 0
  have c1 := hm.row.at_ En.cs_len hx (f := 1) rfl
  have c2 := hm.row.at_ En.cs_len hx (f := 2) rfl
  rw [he1] at c2
  rw [he2] at c1
  have i0 : (0 : Int) ≤ (i : Int) := by omega
  have i1 : (i : Int) < (n : Int) := by omega
  have d1 : decide ((n : Int) ≤ (i : Int)) = false := by simp; omega
  have d2 : decide (n ≤ i) = false := by simp; omega
  have kc := fun W (hW : SlR W ⟨fA, fn, fc⟩ G) => SClone_any G ⟨fA, fn, fc⟩ W hW hG
  simp only at kc
  replace kc := Lib.hid kc
  replace hn := Lib.hid hn
  replace hx := Lib.hid hx
  replace he1 := Lib.hid he1
  replace he2 := Lib.hid he2
  go_enter Try.func15, Try.ntmps15
  go_upto_region 5 with fail
  have up0 : Upd (fun k => k = gh) w ((w.setCell ⟨gh, 0, none⟩ (.int .i64 (now + 1))).alloc (.cells #[.slice fA fn fc, .int .i64 er] 29)) := (Upd.one w gh 0 _).alloc _
  have bx := Blk.new (w.setCell ⟨gh, 0, none⟩ (.int .i64 (now + 1))) 29 #[.slice fA fn fc, .int .i64 er]
  rw [show (w.setCell ⟨gh, 0, none⟩ (.int .i64 (now + 1))).heap.size = w.heap.size by simp [World.setCell]] at bx
  have hM : HisM ((w.setCell ⟨gh, 0, none⟩ (.int .i64 (now + 1))).alloc (.cells #[.slice fA fn fc, .int .i64 er] 29)) base gh (now + 1) (.slice (some ⟨g, 0, none⟩) n c) l :=
    ⟨(hm.obj.set_ 0 _).alloc _, (hm.row.upd (Upd.one _ gh 0 _) (fun k e e2 => by simp [Value.ownBlock] at e; omega)).alloc _⟩
  have hr2 : SlR ((w.setCell ⟨gh, 0, none⟩ (.int .i64 (now + 1))).alloc (.cells #[.slice fA fn fc, .int .i64 er] 29)) ⟨fA, fn, fc⟩ G := by
    refine ⟨⟨hr.1.len, hr.1.rng, fun hn => ?_⟩, hr.2⟩
    obtain ⟨b, o, e, hlt, hc⟩ := hr.1.cel hn
    have hbg : b ≠ gh := fun e => by
      have h0 := hc 0 hn
      rw [e, hm.obj.cell] at h0
      have h1 : ∀ j : Nat, (#[Value.int .i64 now, .slice (some ⟨g, 0, none⟩) n c] : Array Value)[j]? ≠ some (Value.int .u8 (G.getD 0 0)) := by
        intro j h
        match j with
        | 0 => simp at h
        | 1 => simp at h
        | k + 2 => simp at h
      exact h1 _ h0
    exact ⟨b, o, e, by have := up0.size; omega, fun j hj => (World.cell?_of_block (up0.block b (by omega) hbg)).trans (hc j hj)⟩
  generalize (w.setCell ⟨gh, 0, none⟩ (.int .i64 (now + 1))).alloc (.cells #[.slice fA fn fc, .int .i64 er] 29) = W at *
  clear q0 q1 f0 c1 c2 d1 d2 hm hr
  have z1 : ∀ t : Tw (fun w' => w'.cell? ⟨gh, 0, none⟩ = some (.int .i64 (now + 1)) ∧ w'.cell? ⟨w.heap.size, 0, none⟩ = some (.slice fA fn fc) ∧ w'.cell? ⟨w.heap.size, 1, none⟩ = some (.int .i64 er)), t.w.cell? ⟨gh, 0, none⟩ = some (.int .i64 (now + 1)) := fun t => t.h.1
  have z2 : ∀ t : Tw (fun w' => w'.cell? ⟨gh, 0, none⟩ = some (.int .i64 (now + 1)) ∧ w'.cell? ⟨w.heap.size, 0, none⟩ = some (.slice fA fn fc) ∧ w'.cell? ⟨w.heap.size, 1, none⟩ = some (.int .i64 er)), t.w.cell? ⟨w.heap.size, 0, none⟩ = some (.slice fA fn fc) := fun t => t.h.2.1
  have z3 : ∀ t : Tw (fun w' => w'.cell? ⟨gh, 0, none⟩ = some (.int .i64 (now + 1)) ∧ w'.cell? ⟨w.heap.size, 0, none⟩ = some (.slice fA fn fc) ∧ w'.cell? ⟨w.heap.size, 1, none⟩ = some (.int .i64 er)), t.w.cell? ⟨w.heap.size, 1, none⟩ = some (.int .i64 er) := fun t => t.h.2.2
  have zz : Nonempty (Tw (fun w' => w'.cell? ⟨gh, 0, none⟩ = some (.int .i64 (now + 1)) ∧ w'.cell? ⟨w.heap.size, 0, none⟩ = some (.slice fA fn fc) ∧ w'.cell? ⟨w.heap.size, 1, none⟩ = some (.int .i64 er))) := ⟨⟨_, hM.obj.cell 0, bx.cell 0, bx.cell 1⟩⟩
  replace bx := bx.drew
  replace up0 := up0.drew
  replace hM : HisM W.drew base gh (now + 1) (.slice (some ⟨g, 0, none⟩) n c) l := ⟨hM.obj.drew, hM.row.drew⟩
  replace hr2 : SlR W.drew ⟨fA, fn, fc⟩ G := ⟨hr2.1.drew, hr2.2⟩
  refine wp_region_plan (fun w' => w'.cell? ⟨gh, 0, none⟩ = some (.int .i64 (now + 1)) ∧ w'.cell? ⟨w.heap.size, 0, none⟩ = some (.slice fA fn fc) ∧ w'.cell? ⟨w.heap.size, 1, none⟩ = some (.int .i64 er)) [(0, true), (1, true), (2, true), (3, true), (4, true), (5, true), (6, true), (7, true), (9, true), (10, true), (8, false), (11, true), (12, true), (13, true), (14, false), (15, true), (16, true), (17, false)] (by kernel_rfl) (by kernel_rfl) (by kernel_rfl) (by kernel_rfl) ⟨hM.obj.cell 0, bx.cell 0, bx.cell 1⟩ ?_
  generalize W.drew = W1 at *
  refine wpPl_qs 10 _ _ _ (by kernel_rfl) (by kernel_rfl) (by simp) ?_
  unfold clsS
  simp only [List.take_succ_cons, List.take_zero, List.drop_succ_cons, List.drop_zero, List.filterMap_cons, List.filterMap_nil, List.getElem?_toArray, List.getElem?_cons_zero, List.getElem?_cons_succ]
  repeat (first
    | go_big_quiet_skip
    | (go_big_quiet_want; go_big_quiet_op; go_big_quiet_on)
    | (refine id (?_ : wpQuiet _ _ _ _ (_ :: _) _); first | go_big_quiet_skip | (go_big_quiet_want; go_big_quiet_op; go_big_quiet_on)))
  refine wpQuiet_nil ?_
  refine wpPl_e _ (by rfl) (by kernel_rfl) (fun K hK => ?_)
  go_simp
  refine (kc.out _ hr2).mono ?_
  rintro e w2 ⟨t, rfl, ht, hb⟩
  replace ht : SlO w2 w.heap.size t G := SlO.lower ht up0.size
  replace bx := bx.bel hb
  replace hM : HisM w2 base gh (now + 1) (.slice (some ⟨g, 0, none⟩) n c) l := ⟨hM.obj.bel hb, hM.row.below hb⟩
  have up2 : Upd (fun k => k = gh ∨ (Value.slice (some ⟨g, 0, none⟩) n c).ownBlock = some k) w w2 := (up0.mono (fun _ _ h => .inl h)).trans (Upd.of_below hb _)
  clear hb kc hr2 up0
  refine hK _ _ ⟨hM.obj.cell 0, bx.cell 0, bx.cell 1⟩ ?_
  clear hK K
  refine wpPl_qs 3 _ _ _ (by kernel_rfl) (by kernel_rfl) (by simp) ?_
  unfold clsS
  simp only [List.take_succ_cons, List.take_zero, List.drop_succ_cons, List.drop_zero, List.filterMap_cons, List.filterMap_nil, List.getElem?_toArray, List.getElem?_cons_zero, List.getElem?_cons_succ]
  repeat (first
    | go_big_quiet_skip
    | (go_big_quiet_want; go_big_quiet_op; go_big_quiet_on)
    | (refine id (?_ : wpQuiet _ _ _ _ (_ :: _) _); first | go_big_quiet_skip | (go_big_quiet_want; go_big_quiet_op; go_big_quiet_on)))
  refine wpQuiet_nil ?_
  refine wpPl_e _ (by rfl) (by kernel_rfl) (fun K hK => ?_)
  have f1 := hM.row.frozen hn.out (i * 11 + 1)
  have c1 := hM.row.at_ En.cs_len hx.out (f := 1) rfl
  go_simp
  have hbg : w.heap.size ≠ g := by omega
  have hgv : (Value.slice (some ⟨g, 0, none⟩) n c).ownBlock = some g := rfl
  have hlt1 := (List.getElem?_eq_some_iff.1 hx.out).1
  replace ht := ht.grownT hM.row (grown_set w2 g (i * 11 + 1) (.int .i64 (now + 1)))
  replace bx := bx.far (p := ⟨g, i * 11 + 1, none⟩) hbg (.int .i64 (now + 1))
  replace up2 := up2.setCell (p := ⟨g, i * 11 + 1, none⟩) (fun _ => .inr hgv) (.int .i64 (now + 1))
  replace hM := hM.setF hn.out hx.out (x' := { x with e := now + 1 }) (f := 1) (u := .int .i64 (now + 1)) (by decide) rfl
  have hn2 : (l.set i { x with e := now + 1 }).length = n := by rw [List.length_set]; exact hn.out
  have hx2 : (l.set i { x with e := now + 1 })[i]? = some { x with e := now + 1 } := List.getElem?_set_self hlt1
  refine hK _ _ ⟨hM.obj.cell 0, bx.cell 0, bx.cell 1⟩ ?_
  clear hK K f1 c1
  generalize w2.setCell ⟨g, i * 11 + 1, none⟩ (.int .i64 (now + 1)) = w3 at *
  replace hn2 := Lib.hid hn2
  replace hx2 := Lib.hid hx2
  refine wpPl_qs 2 _ _ _ (by kernel_rfl) (by kernel_rfl) (by simp) ?_
  unfold clsS
  simp only [List.take_succ_cons, List.take_zero, List.drop_succ_cons, List.drop_zero, List.filterMap_cons, List.filterMap_nil, List.getElem?_toArray, List.getElem?_cons_zero, List.getElem?_cons_succ]
  repeat (first
    | go_big_quiet_skip
    | (go_big_quiet_want; go_big_quiet_op; go_big_quiet_on)
    | (refine id (?_ : wpQuiet _ _ _ _ (_ :: _) _); first | go_big_quiet_skip | (go_big_quiet_want; go_big_quiet_op; go_big_quiet_on)))
  refine wpQuiet_nil ?_
  refine wpPl_e _ (by rfl) (by kernel_rfl) (fun K hK => ?_)
  have f7 := hM.row.frozen hn2.out (i * 11 + 7)
  have c7 := hM.row.at_ En.cs_len hx2.out (f := 7) rfl
  have f8 := hM.row.frozen hn2.out (i * 11 + 7 + 1)
  have c8 := hM.row.at_ En.cs_len hx2.out (f := 8) rfl
  have e8 : i * 11 + 8 = i * 11 + 7 + 1 := by omega
  rw [e8] at c8
  go_simp
  replace ht := (ht.grownT hM.row (grown_set w3 g (i * 11 + 7) (.slice t.A t.n t.c)))
  replace bx := (bx.far (p := ⟨g, i * 11 + 7, none⟩) hbg (.slice t.A t.n t.c)).far (p := ⟨g, i * 11 + 7 + 1, none⟩) hbg (.int .i64 er)
  replace up2 := (up2.setCell (p := ⟨g, i * 11 + 7, none⟩) (fun _ => .inr hgv) (.slice t.A t.n t.c)).setCell (p := ⟨g, i * 11 + 7 + 1, none⟩) (fun _ => .inr hgv) (.int .i64 er)
  replace hM := hM.setF hn2.out hx2.out (x' := { x with e := now + 1, g := t }) (f := 7) (u := .slice t.A t.n t.c) (by decide) rfl
  rw [List.set_set] at hM
  have hn3 : (l.set i { x with e := now + 1, g := t }).length = n := by rw [List.length_set]; exact hn.out
  have hx3 : (l.set i { x with e := now + 1, g := t })[i]? = some { x with e := now + 1, g := t } := List.getElem?_set_self hlt1
  replace ht := (ht.grownT hM.row (grown_set _ g (i * 11 + 7 + 1) (.int .i64 er)))
  replace hM := hM.setF hn3 hx3 (x' := endE x (now + 1) er t) (f := 8) (u := .int .i64 er) (by decide) rfl
  rw [List.set_set, e8] at hM
  have hn4 : (l.set i (endE x (now + 1) er t)).length = n := by rw [List.length_set]; exact hn.out
  have hx4 : (l.set i (endE x (now + 1) er t))[i]? = some (endE x (now + 1) er t) := List.getElem?_set_self hlt1
  refine hK _ _ ⟨hM.obj.cell 0, bx.cell 0, bx.cell 1⟩ ?_
  clear hK K f7 f8 c7 c8 e8 z1 z2 z3 zz hn2 hx2 hn3 hx3
  generalize (w3.setCell ⟨g, i * 11 + 7, none⟩ (.slice t.A t.n t.c)).setCell ⟨g, i * 11 + 7 + 1, none⟩ (.int .i64 er) = w4 at *
  unfold wpPl
  refine NoPanic.normal ?_
  have p1 := bx.cell 1
  have f6 := hM.row.frozen hn4 (i * 11 + 6)
  have c6 := hM.row.at_ En.cs_len hx4 (f := 6) rfl
  have hM6 := hM.setF hn4 hx4 (x' := { endE x (now + 1) er t with port := -2 }) (f := 6) (u := .int .i64 (-2)) (by decide) rfl
  rw [List.set_set] at hM6
  replace hM6 := Lib.hid hM6
  have ht6 := ht.grownT hM.row (grown_set w4 g (i * 11 + 6) (.int .i64 (-2)))
  have up6 := up2.setCell (p := ⟨g, i * 11 + 6, none⟩) (fun _ => .inr hgv) (.int .i64 (-2))
  replace hn4 := Lib.hid hn4
  replace hx4 := Lib.hid hx4
  go_wp2
  go_ret
  exact ⟨t, rfl, hM6.out, ht6, up6⟩
end Go.Proofs.Ytjaacmecniijgaa
