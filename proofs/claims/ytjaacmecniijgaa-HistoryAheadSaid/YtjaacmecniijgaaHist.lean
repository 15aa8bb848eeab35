/- The walks of package history: clones, own. -/
import Derived.Test.YtjaacmecniijgaaProg
import Derived.Test.YtjaacmecniijgaaRowT2
import Derived.Test.YtjaacmecniijgaaQuiet
import Derived.Test.YtjaacmecniijgaaPlanT
import Derived.Test.YtjaacmecniijgaaBytes
import Derived.Test.YtjaacmecniijgaaRowW
import Derived.RegionTactic
import Derived.Deep.DeepCutAuto
import Derived.Deep.CutBlock
import Derived.Lib.LazyBuf
namespace Go.Proofs.Ytjaacmecniijgaa
set_option linter.unusedVariables false
set_option linter.unusedSimpArgs false
open Go.RowKit
structure Sl where
  A : Option Addr
  n : Nat
  c : Nat
structure En where
  b : Int
  e : Int
  ends : Bool
  out : Bool
  f : Sl
  tick : Int
  port : Int
  g : Sl
  err : Int
  proto : Int
  pt : Int
def En.cs (x : En) : List Value := [.int .i64 x.b, .int .i64 x.e, .bool x.ends, .bool x.out, .slice x.f.A x.f.n x.f.c, .int .i64 x.tick, .int .i64 x.port, .slice x.g.A x.g.n x.g.c, .int .i64 x.err, .int .i64 x.proto, .int .i64 x.pt]
theorem En.cs_len (x : En) : x.cs.length = 11 := rfl
theorem En.cs_one (x : En) : ∀ u ∈ x.cs, u.oneCell' = true := by intro u hu; simp [En.cs] at hu; rcases hu with rfl | rfl | rfl | rfl | rfl | rfl | rfl | rfl | rfl | rfl | rfl <;> rfl
theorem en_size : (Try.prog.info? 31).map (·.size) = some 11 := by kernel_rfl
theorem en_info : (Try.prog.info? 31).map (fun i => (i.zero, i.size, i.bytes)) = some (some (.agg #[.int .i64 0, .int .i64 0, .bool false, .bool false, .slice none 0 0, .int .i64 0, .int .i64 0, .slice none 0 0, .int .i64 0, .int .i64 0, .int .i64 0]), 11, 120) := by kernel_rfl
/-- a slice that reads as bytes -/
def SlR (w : World) (s : Sl) (l : List Int) : Prop := Rd .u8 w w.heap.size s.A s.n l ∧ s.n ≤ s.c ∧ s.c ≤ maxLen
theorem SlR.bel {w w' : World} {s : Sl} {l : List Int} (h : SlR w s l) (hb : Below w.heap.size w w') : SlR w' s l := ⟨(h.1.below hb).more hb.size, h.2⟩
def SlO (w : World) (base : Nat) (s : Sl) (l : List Int) : Prop := Own .u8 5 w base (.slice s.A s.n s.c) l
theorem SlO.rd {w : World} {base : Nat} {s : Sl} {l : List Int} (h : SlO w base s l) : SlR w s l := by
  obtain ⟨A, n, c⟩ := s
  obtain ⟨A', c', e, h1, h2, h3⟩ := Own.form h rfl
  simp only [Value.slice.injEq] at e
  obtain ⟨rfl, rfl, rfl⟩ := e
  exact ⟨h3, h1, h2⟩
theorem SlO.bel {w w' : World} {base : Nat} {s : Sl} {l : List Int} (h : SlO w base s l) (hb : Below w.heap.size w w') : SlO w' base s l := Own.below h hb
theorem SlO.far {w w' : World} {base : Nat} {s : Sl} {l : List Int} (h : SlO w base s l) {g : Nat} {t : TypeId} {cs : Array Value} (hb : Blk w g t cs) (hne : 5 ≠ t) (hu : Upd (· = g) w w') : SlO w' base s l := Own.updne h hb hne hu
theorem SlO.lower {w : World} {base base' : Nat} {s : Sl} {l : List Int} (h : SlO w base s l) (hb : base' ≤ base) : SlO w base' s l := by
  refine ⟨⟨h.row.1, ?_⟩, h.rng⟩
  rcases h.row.2 with hn | ⟨g, cap, cur, hv, hg, rest⟩
  · exact .inl hn
  · exact .inr ⟨g, cap, cur, hv, by omega, rest⟩
def ClR (w : World) (l : List Int) (e : Ending) (w' : World) : Prop := ∃ s : Sl, e = .returned (.slice s.A s.n s.c) ∧ SlO w' w.heap.size s l ∧ Below w.heap.size w w'
set_option maxRecDepth 100000 in
set_option maxHeartbeats 1000000 in
theorem SClone_any (l : List Int) (s : Sl) (w : World) (hr : SlR w s l) (hl : l.length ≤ 60000) :
    Calls Try.prog 26 #[.slice s.A s.n s.c] w (ClR w l) := by
  obtain ⟨A, n, c⟩ := s
  obtain ⟨hr, h1, h2⟩ := hr
  simp only at hr h1 h2 ⊢
  have hn := hr.len
  have hnil := fun A => run_eql_slice_nil (P := Try.prog) w 24 5 A n c Try.underlying24
  unfold maxLen at h2
  cases A with
  | none =>
    have h0 : n = 0 := by
      rcases Nat.eq_zero_or_pos n with h | h
      · exact h
      · obtain ⟨b, o, e, _⟩ := hr.cel h; cases e
    subst h0
    have hnil0 := hnil none
    have el : l = [] := List.length_eq_zero_iff.mp hn
    replace hn := Lib.hid hn
    clear hnil
    go_enter Try.func26, Try.ntmps26
    go_wp2
    go_ret
    subst el
    exact ⟨⟨none, 0, 0⟩, rfl, Own.nil _ _ _ _, Below.refl _ _⟩
  | some ad =>
    have hnil0 := hnil (some ad)
    clear hnil
    obtain ⟨i0, hi, hz0, hz1, hz2⟩ := info_parts info_u8_
    have own0 := Own.new .u8 w 5 w.heap.size (Nat.le_refl _) [] (by simp) #[] rfl 0 rfl (by simp)
    have hr2 := hr.alloc (Nat.le_refl _) (.cells #[] 5)
    have bel0 := bel_alloc w (.cells #[] 5)
    replace hn := Lib.hid hn
    go_enter Try.func26, Try.ntmps26
    go_wp2_with (at_builtin; refine wpList_app _ rfl (.tmp 5) (.tmp 6) 24 rfl .u8 w.heap.size 5 i0 (.int .u8 0) 1 Try.underlying24 hi hz0 hz1 hz2 rfl (.slice (some ⟨w.heap.size, 0, none⟩) 0 0) rfl [] own0 w.heap.size _ n c rfl l hr2 (by rw [← hn.out]; simp; omega) (by decide) (by simp) ?_; intro v1 w1 own1 hg1 hv1; rw [List.nil_append] at own1; have bel1 : Below w.heap.size w w1 := bel0.grown hg1 (by simp) (fun k h => by simp [Value.ownBlock] at h; omega))
    obtain ⟨A', c', rfl, e1, e2, e3⟩ := own1.form hn.out
    go_ret
    exact ⟨⟨A', n, c'⟩, rfl, own1, bel1⟩
/-- an entry with frames that read as F and G -/
def EnR (w : World) (x : En) (F G : List Int) : Prop := SlR w x.f F ∧ SlR w x.g G
def OwnR (w : World) (x : En) (F G : List Int) (e : Ending) (w' : World) : Prop := ∃ s t : Sl, e = .returned (.agg #[.int .i64 { x with f := s, g := t }.b, .int .i64 { x with f := s, g := t }.e, .bool { x with f := s, g := t }.ends, .bool { x with f := s, g := t }.out, .slice { x with f := s, g := t }.f.A { x with f := s, g := t }.f.n { x with f := s, g := t }.f.c, .int .i64 { x with f := s, g := t }.tick, .int .i64 { x with f := s, g := t }.port, .slice { x with f := s, g := t }.g.A { x with f := s, g := t }.g.n { x with f := s, g := t }.g.c, .int .i64 { x with f := s, g := t }.err, .int .i64 { x with f := s, g := t }.proto, .int .i64 { x with f := s, g := t }.pt]) ∧ SlO w' w.heap.size s F ∧ SlO w' w.heap.size t G ∧ Below w.heap.size w w'
set_option maxRecDepth 100000 in
set_option maxHeartbeats 2000000 in
theorem hown_any (x : En) (F G : List Int) (w : World) (hr : EnR w x F G) (hF : F.length ≤ 60000) (hG : G.length ≤ 60000) :
    Calls Try.prog 28 #[.agg #[.int .i64 x.b, .int .i64 x.e, .bool x.ends, .bool x.out, .slice x.f.A x.f.n x.f.c, .int .i64 x.tick, .int .i64 x.port, .slice x.g.A x.g.n x.g.c, .int .i64 x.err, .int .i64 x.proto, .int .i64 x.pt]] w (OwnR w x F G) := by
  obtain ⟨b, e, en, ou, ⟨fA, fn, fc⟩, ti, po, ⟨gA, gn, gc⟩, er, pr, pt⟩ := x
  obtain ⟨hf, hg⟩ := hr
  simp only at hf hg ⊢
  have k1 := fun W (hb : Below w.heap.size w W) => SClone_any F ⟨fA, fn, fc⟩ W (hf.bel hb) hF
  have k2 := fun W (hb : Below w.heap.size w W) => SClone_any G ⟨gA, gn, gc⟩ W (hg.bel hb) hG
  simp only at k1 k2
  clear hf hg
  replace k1 := Lib.hid k1
  replace k2 := Lib.hid k2
  go_enter Try.func28, Try.ntmps28
  go_upto_region 1 with fail
  have bx := (Blk.new w 31 #[.int .i64 b, .int .i64 e, .bool en, .bool ou, .slice fA fn fc, .int .i64 ti, .int .i64 po, .slice gA gn gc, .int .i64 er, .int .i64 pr, .int .i64 pt]).alloc (.cells #[.int .i64 0, .int .i64 0, .bool false, .bool false, .slice none 0 0, .int .i64 0, .int .i64 0, .slice none 0 0, .int .i64 0, .int .i64 0, .int .i64 0] 31)
  have br := Blk.new (w.alloc (.cells #[.int .i64 b, .int .i64 e, .bool en, .bool ou, .slice fA fn fc, .int .i64 ti, .int .i64 po, .slice gA gn gc, .int .i64 er, .int .i64 pr, .int .i64 pt] 31)) 31 #[.int .i64 0, .int .i64 0, .bool false, .bool false, .slice none 0 0, .int .i64 0, .int .i64 0, .slice none 0 0, .int .i64 0, .int .i64 0, .int .i64 0]
  rw [show (w.alloc (.cells #[.int .i64 b, .int .i64 e, .bool en, .bool ou, .slice fA fn fc, .int .i64 ti, .int .i64 po, .slice gA gn gc, .int .i64 er, .int .i64 pr, .int .i64 pt] 31)).heap.size = w.heap.size + 1 by simp] at br
  have bel : Below w.heap.size w ((w.alloc (.cells #[.int .i64 b, .int .i64 e, .bool en, .bool ou, .slice fA fn fc, .int .i64 ti, .int .i64 po, .slice gA gn gc, .int .i64 er, .int .i64 pr, .int .i64 pt] 31)).alloc (.cells #[.int .i64 0, .int .i64 0, .bool false, .bool false, .slice none 0 0, .int .i64 0, .int .i64 0, .slice none 0 0, .int .i64 0, .int .i64 0, .int .i64 0] 31)) := (bel_alloc _ _).alloc (by simp) _
  generalize (w.alloc (.cells #[.int .i64 b, .int .i64 e, .bool en, .bool ou, .slice fA fn fc, .int .i64 ti, .int .i64 po, .slice gA gn gc, .int .i64 er, .int .i64 pr, .int .i64 pt] 31)).alloc (.cells #[.int .i64 0, .int .i64 0, .bool false, .bool false, .slice none 0 0, .int .i64 0, .int .i64 0, .slice none 0 0, .int .i64 0, .int .i64 0, .int .i64 0] 31) = W at *
  have z1 : ∀ t : Tw (fun w' => w'.cell? ⟨w.heap.size, 4, none⟩ = some (.slice fA fn fc) ∧ w'.cell? ⟨w.heap.size, 7, none⟩ = some (.slice gA gn gc)), t.w.cell? ⟨w.heap.size, 4, none⟩ = some (.slice fA fn fc) := fun t => t.h.1
  have z2 : ∀ t : Tw (fun w' => w'.cell? ⟨w.heap.size, 4, none⟩ = some (.slice fA fn fc) ∧ w'.cell? ⟨w.heap.size, 7, none⟩ = some (.slice gA gn gc)), t.w.cell? ⟨w.heap.size, 7, none⟩ = some (.slice gA gn gc) := fun t => t.h.2
  have zz : Nonempty (Tw (fun w' => w'.cell? ⟨w.heap.size, 4, none⟩ = some (.slice fA fn fc) ∧ w'.cell? ⟨w.heap.size, 7, none⟩ = some (.slice gA gn gc))) := ⟨⟨_, bx.cell 4, bx.cell 7⟩⟩
  replace bx := bx.drew
  replace br := br.drew
  replace bel := bel.drew
  refine wp_region_planT (fun w' => w'.cell? ⟨w.heap.size, 4, none⟩ = some (.slice fA fn fc) ∧ w'.cell? ⟨w.heap.size, 7, none⟩ = some (.slice gA gn gc)) [(0, true), (1, true), (2, true), (4, true), (5, true), (6, true), (3, false), (8, true), (9, true), (7, false)] [10, 11, 12, 13] (by kernel_rfl) (by kernel_rfl) (by kernel_rfl) (by kernel_rfl) ⟨bx.cell 4, bx.cell 7⟩ ?_
  generalize W.drew = W1 at *
  refine wpPh_qs 6 _ _ _ (by kernel_rfl) (by kernel_rfl) (by simp) ?_
  unfold clsS
  simp only [List.take_succ_cons, List.take_zero, List.drop_succ_cons, List.drop_zero, List.filterMap_cons, List.filterMap_nil, List.getElem?_toArray, List.getElem?_cons_zero, List.getElem?_cons_succ]
  repeat (first
    | go_big_quiet_skip
    | (go_big_quiet_want; go_big_quiet_op; go_big_quiet_on)
    | (refine id (?_ : wpQuiet _ _ _ _ (_ :: _) _); first | go_big_quiet_skip | (go_big_quiet_want; go_big_quiet_op; go_big_quiet_on)))
  refine wpQuiet_nil ?_
  refine wpPh_e _ (by rfl) (by kernel_rfl) (fun K hK => ?_)
  go_simp
  refine (k1.out _ bel).mono ?_
  rintro e w1 ⟨s, rfl, hs, hb⟩
  replace hs : SlO w1 w.heap.size s F := SlO.lower hs bel.size
  replace bx := bx.bel hb
  replace br := br.bel hb
  replace bel := bel_after bel hb
  clear hb
  refine hK _ _ ⟨bx.cell 4, bx.cell 7⟩ ?_
  clear hK K
  refine wpPh_qs 2 _ _ _ (by kernel_rfl) (by kernel_rfl) (by simp) ?_
  unfold clsS
  simp only [List.take_succ_cons, List.take_zero, List.drop_succ_cons, List.drop_zero, List.filterMap_cons, List.filterMap_nil, List.getElem?_toArray, List.getElem?_cons_zero, List.getElem?_cons_succ]
  repeat (first
    | go_big_quiet_skip
    | (go_big_quiet_want; go_big_quiet_op; go_big_quiet_on)
    | (refine id (?_ : wpQuiet _ _ _ _ (_ :: _) _); first | go_big_quiet_skip | (go_big_quiet_want; go_big_quiet_op; go_big_quiet_on)))
  refine wpQuiet_nil ?_
  refine wpPh_e _ (by rfl) (by kernel_rfl) (fun K hK => ?_)
  go_simp
  refine (k2.out _ bel).mono ?_
  rintro e w2 ⟨t, rfl, ht, hb⟩
  replace ht : SlO w2 w.heap.size t G := SlO.lower ht bel.size
  replace bx := bx.bel hb
  replace br := br.bel hb
  replace hs := hs.bel hb
  replace bel := bel_after bel hb
  clear hb z1 z2 zz k1 k2
  refine hK _ _ ⟨bx.cell 4, bx.cell 7⟩ ?_
  clear hK K
  unfold wpPh
  refine wpPt_e _ (by rfl) (by kernel_rfl) (fun K hK => ?_)
  have q4 := bx.cell 4
  have q4f := bx.frozen 4
  go_simp
  replace hs := hs.far bx (by decide) (Upd.one _ w.heap.size 4 (.slice s.A s.n s.c))
  replace ht := ht.far bx (by decide) (Upd.one _ w.heap.size 4 (.slice s.A s.n s.c))
  replace bx := bx.set_ 4 (.slice s.A s.n s.c)
  replace br := br.far (p := ⟨w.heap.size, 4, none⟩) (by simp) (.slice s.A s.n s.c)
  replace bel := bel.setCell (p := ⟨w.heap.size, 4, none⟩) (Nat.le_refl _) (.slice s.A s.n s.c)
  refine hK _ _ ?_
  clear hK K q4 q4f
  generalize w2.setCell ⟨w.heap.size, 4, none⟩ (.slice s.A s.n s.c) = W3 at *
  refine wpPt_e _ (by rfl) (by kernel_rfl) (fun K hK => ?_)
  go_simp
  refine hK _ _ ?_
  clear hK K
  refine wpPt_e _ (by rfl) (by kernel_rfl) (fun K hK => ?_)
  go_simp
  refine hK _ _ ?_
  clear hK K
  refine wpPt_e _ (by rfl) (by kernel_rfl) (fun K hK => ?_)
  have q7 := bx.cell 7
  have q7f := bx.frozen 7
  go_simp
  replace hs := hs.far bx (by decide) (Upd.one _ w.heap.size 7 (.slice t.A t.n t.c))
  replace ht := ht.far bx (by decide) (Upd.one _ w.heap.size 7 (.slice t.A t.n t.c))
  replace bx := bx.set_ 7 (.slice t.A t.n t.c)
  replace br := br.far (p := ⟨w.heap.size, 7, none⟩) (by simp) (.slice t.A t.n t.c)
  replace bel := bel.setCell (p := ⟨w.heap.size, 7, none⟩) (Nat.le_refl _) (.slice t.A t.n t.c)
  refine hK _ _ ?_
  clear hK K q7 q7f
  generalize W3.setCell ⟨w.heap.size, 7, none⟩ (.slice t.A t.n t.c) = W4 at *
  unfold wpPt
  refine NoPanic.normal ?_
  replace bx : Blk W4 w.heap.size 31 #[.int .i64 b, .int .i64 e, .bool en, .bool ou, .slice s.A s.n s.c, .int .i64 ti, .int .i64 po, .slice t.A t.n t.c, .int .i64 er, .int .i64 pr, .int .i64 pt] := bx
  have hss := hs.far br (by decide) (Upd.row' W4 (w.heap.size + 1) #[.int .i64 b, .int .i64 e, .bool en, .bool ou, .slice s.A s.n s.c, .int .i64 ti, .int .i64 po, .slice t.A t.n t.c, .int .i64 er, .int .i64 pr, .int .i64 pt])
  have htt := ht.far br (by decide) (Upd.row' W4 (w.heap.size + 1) #[.int .i64 b, .int .i64 e, .bool en, .bool ou, .slice s.A s.n s.c, .int .i64 ti, .int .i64 po, .slice t.A t.n t.c, .int .i64 er, .int .i64 pr, .int .i64 pt])
  go_wp2_with (first
    | (refine wpList_stRow rfl rfl rfl rfl rfl br en_size rfl (by simp [Value.oneCell']) ?_)
    | (refine wpList_ldRow rfl rfl rfl bx Try.underlying31 en_size ?_))
  exact bodyPost_ret (results_row rfl _ rfl (br.setRow _) Try.underlying31 en_size) rfl ⟨s, t, rfl, hss, htt, below_setRow bel (by omega) _⟩
end Go.Proofs.Ytjaacmecniijgaa
