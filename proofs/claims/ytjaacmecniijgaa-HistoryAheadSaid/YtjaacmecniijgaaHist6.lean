/- The walks of package history: All, End. -/
import Derived.Test.YtjaacmecniijgaaHist5
namespace Go.Proofs.Ytjaacmecniijgaa
set_option linter.unusedVariables false
set_option linter.unusedSimpArgs false
open Go.RowKit
theorem SlO.grownT {w w' : World} {base base' : Nat} {s : Sl} {l : List Int} {v : Value} {l2 : List En} (h : SlO w base s l) (ho : OwnT En.cs 11 31 w base' v l2) (hg : w.grownBy w' v.ownBlock) : SlO w' base s l := by
  refine Own.keep h hg ?_
  rcases ho.row.2 with ⟨rfl, _⟩ | ⟨g', cap', cur', rfl, hg', hh', _⟩
  · cases hv : (Value.slice s.A s.n s.c).ownBlock with
    | none => exact .inl rfl
    | some g => exact .inr (by simp [Value.ownBlock])
  · rcases h.row.2 with ⟨e, _⟩ | ⟨g, cap, cur, e, hb, hh, _⟩
    · rw [e]; exact .inl rfl
    · rw [e]
      refine .inr (fun e2 => ?_)
      have : g = g' := by simpa [Value.ownBlock] using e2
      exact Blk.ne_ (cs := cur) (cs' := cur') hh hh' (by decide) this
/-- entries with frames of their own, that read as F and G -/
def EnsR (w : World) (base : Nat) (l l' : List En) (F G : Nat → List Int) (k : Nat) : Prop :=
  l'.length = k ∧ ∀ j x, j < k → l[j]? = some x → ∃ s t, l'[j]? = some { x with f := s, g := t } ∧ SlO w base s (F j) ∧ SlO w base t (G j)
theorem EnsR.keep {w w' : World} {base : Nat} {l l' : List En} {F G : Nat → List Int} {k : Nat} (h : EnsR w base l l' F G k) (hk : ∀ s L, SlO w base s L → SlO w' base s L) : EnsR w' base l l' F G k :=
  ⟨h.1, fun j x hj hx => by
    obtain ⟨s, t, h1, h2, h3⟩ := h.2 j x hj hx
    exact ⟨s, t, h1, hk _ _ h2, hk _ _ h3⟩⟩
theorem EnsR.add {w : World} {base : Nat} {l l' : List En} {F G : Nat → List Int} {k : Nat} (h : EnsR w base l l' F G k) {x : En} {s t : Sl} (hx : l[k]? = some x) (hs : SlO w base s (F k)) (ht : SlO w base t (G k)) : EnsR w base l (l' ++ [{ x with f := s, g := t }]) F G (k + 1) := by
  refine ⟨by rw [List.length_append, h.1]; rfl, fun j y hj hy => ?_⟩
  rcases Nat.lt_or_ge j k with hlt | hge
  · obtain ⟨s', t', h1, h2, h3⟩ := h.2 j y hlt hy
    exact ⟨s', t', by rw [List.getElem?_append_left (by rw [h.1]; exact hlt)]; exact h1, h2, h3⟩
  · obtain rfl : j = k := by omega
    rw [hx] at hy
    injection hy with hy
    subst hy
    exact ⟨s, t, by rw [List.getElem?_append_right (by rw [h.1]; omega), h.1]; simp, hs, ht⟩
def AllR (w : World) (l : List En) (F G : Nat → List Int) (e : Ending) (w' : World) : Prop :=
  ∃ v' l', e = .returned v' ∧ OwnT En.cs 11 31 w' w.heap.size v' l' ∧ EnsR w' w.heap.size l l' F G l.length ∧ Below w.heap.size w w'
set_option maxRecDepth 100000 in
set_option maxHeartbeats 4000000 in
theorem hAll_any (base gh : Nat) (now : Int) (v : Value) (l : List En) (F G : Nat → List Int) (w : World) (hm : HisM w base gh now v l) (hl : l.length ≤ 100) (hr : ∀ j x, l[j]? = some x → EnR w x (F j) (G j)) (hF : ∀ j, (F j).length ≤ 60000) (hG : ∀ j, (G j).length ≤ 60000) :
    Calls Try.prog 18 #[.pointer (some ⟨gh, 0, none⟩)] w (AllR w l F G) := by
  obtain ⟨i0, hi, hz0, hz1, hz2⟩ := info_parts en_info
  obtain ⟨n, hn⟩ : ∃ n, l.length = n := ⟨_, rfl⟩
  obtain ⟨A, c, rfl, hnc, hcm⟩ := hm.row.form hn
  unfold maxLen at hcm
  have rd := hm.row.rd En.cs_len rfl hn
  have q1 := hm.obj.cell 1
  unfold AllR
  rw [hn] at hl ⊢
  replace hn := Lib.hid hn
  replace hr := Lib.hid hr
  go_enter Try.func18, Try.ntmps18
  go_wp2
  go_loopw [3, 13] (fun o i wr => ∃ k : Nat, k ≤ n ∧ i = .int .i64 k ∧ ∃ l', OwnT En.cs 11 31 wr w.heap.size o l' ∧ EnsR wr w.heap.size l l' F G k ∧ Below w.heap.size w wr) (fun _ i _ => n - (intOf i).toNat)
  case atStart => exact ⟨0, by omega, rfl, [], ⟨World.ownsRow_nil _ _ _ _⟩, ⟨rfl, fun j x hj => by omega⟩, Below.refl _ _⟩
  case round =>
    obtain ⟨k, hk, rfl, l', own, hens, bel⟩ := hrel
    rcases Nat.lt_or_ge k n with hkn | hkn
    · have d1 : decide ((k : Int) < (n : Int)) = true := by simpa using hkn
      have d2 : decide (k < n) = true := by simpa using hkn
      obtain ⟨g, o, rfl, hg, hcel⟩ := rd.cel (by omega)
      obtain ⟨x, hx⟩ : ∃ x, l[k]? = some x := ⟨_, List.getElem?_eq_getElem (by rw [hn.out]; omega)⟩
      have hc : ∀ j u, ([.int .i64 x.b, .int .i64 x.e, .bool x.ends, .bool x.out, .slice x.f.A x.f.n x.f.c, .int .i64 x.tick, .int .i64 x.port, .slice x.g.A x.g.n x.g.c, .int .i64 x.err, .int .i64 x.proto, .int .i64 x.pt] : List Value)[j]? = some u → wr.cell? ⟨g, o + k * 11 + j, none⟩ = some u := fun j u hu => (bel.cell (p := ⟨g, o + k * 11 + j, none⟩) hg).trans (hcel k x hx j u hu)
      have k0 : (0 : Int) ≤ (k : Int) := by omega
      have k1 : (k : Int) < (n : Int) := by omega
      have bx := (Blk.new wr 31 #[.int .i64 0, .int .i64 0, .bool false, .bool false, .slice none 0 0, .int .i64 0, .int .i64 0, .slice none 0 0, .int .i64 0, .int .i64 0, .int .i64 0]).setRow #[.int .i64 x.b, .int .i64 x.e, .bool x.ends, .bool x.out, .slice x.f.A x.f.n x.f.c, .int .i64 x.tick, .int .i64 x.port, .slice x.g.A x.g.n x.g.c, .int .i64 x.err, .int .i64 x.proto, .int .i64 x.pt]
      have belr : Below wr.heap.size wr ((wr.alloc (.cells #[.int .i64 0, .int .i64 0, .bool false, .bool false, .slice none 0 0, .int .i64 0, .int .i64 0, .slice none 0 0, .int .i64 0, .int .i64 0, .int .i64 0] 31)).setRow wr.heap.size #[.int .i64 x.b, .int .i64 x.e, .bool x.ends, .bool x.out, .slice x.f.A x.f.n x.f.c, .int .i64 x.tick, .int .i64 x.port, .slice x.g.A x.g.n x.g.c, .int .i64 x.err, .int .i64 x.proto, .int .i64 x.pt]) := below_setRow (bel_alloc _ _) (Nat.le_refl _) #[.int .i64 x.b, .int .i64 x.e, .bool x.ends, .bool x.out, .slice x.f.A x.f.n x.f.c, .int .i64 x.tick, .int .i64 x.port, .slice x.g.A x.g.n x.g.c, .int .i64 x.err, .int .i64 x.proto, .int .i64 x.pt]
      have hrx := hr.out k x hx
      replace hx := Lib.hid hx
      go_upto_region 7 with (first
        | (refine wpList_ldAt rfl rfl rfl hc Try.underlying31 en_size ?_)
        | (refine wpList_stRow rfl rfl rfl rfl rfl (Blk.new wr _ _) en_size rfl (by simp [Value.oneCell']) ?_; generalize (wr.alloc (.cells #[.int .i64 0, .int .i64 0, .bool false, .bool false, .slice none 0 0, .int .i64 0, .int .i64 0, .slice none 0 0, .int .i64 0, .int .i64 0, .int .i64 0] 31)).setRow wr.heap.size #[.int .i64 x.b, .int .i64 x.e, .bool x.ends, .bool x.out, .slice x.f.A x.f.n x.f.c, .int .i64 x.tick, .int .i64 x.port, .slice x.g.A x.g.n x.g.c, .int .i64 x.err, .int .i64 x.proto, .int .i64 x.pt] = W1 at *))
      clear hc
      replace own := own.below belr
      replace hens := hens.keep (fun s L h => SlO.bel h belr)
      replace bel := bel_after bel belr
      have ko := hown_any x (F k) (G k) W1 ⟨hrx.1.bel bel, hrx.2.bel bel⟩ (hF k) (hG k)
      clear hrx belr
      replace ko := Lib.hid ko
      generalize wr.heap.size = g1 at *
      go_wp2_with (refine wpList_ldRow rfl rfl rfl bx Try.underlying31 en_size ?_)
      refine ko.out.mono ?_
      rintro e w2 ⟨s, t, rfl, hs, ht, hb⟩
      replace own := own.below hb
      replace hens := hens.keep (fun s L h => SlO.bel h hb)
      replace hs : SlO w2 w.heap.size s (F k) := SlO.lower hs bel.size
      replace ht : SlO w2 w.heap.size t (G k) := SlO.lower ht bel.size
      replace bel := bel_after bel hb
      clear hb ko bx
      have hla := bel_alloc w2 (.cells #[.int .i64 { x with f := s, g := t }.b, .int .i64 { x with f := s, g := t }.e, .bool { x with f := s, g := t }.ends, .bool { x with f := s, g := t }.out, .slice { x with f := s, g := t }.f.A { x with f := s, g := t }.f.n { x with f := s, g := t }.f.c, .int .i64 { x with f := s, g := t }.tick, .int .i64 { x with f := s, g := t }.port, .slice { x with f := s, g := t }.g.A { x with f := s, g := t }.g.n { x with f := s, g := t }.g.c, .int .i64 { x with f := s, g := t }.err, .int .i64 { x with f := s, g := t }.proto, .int .i64 { x with f := s, g := t }.pt] 31)
      have hxr := RdT.new (cs := En.cs) (sz := 11) En.cs_len w2 31 [{ x with f := s, g := t }] #[.int .i64 { x with f := s, g := t }.b, .int .i64 { x with f := s, g := t }.e, .bool { x with f := s, g := t }.ends, .bool { x with f := s, g := t }.out, .slice { x with f := s, g := t }.f.A { x with f := s, g := t }.f.n { x with f := s, g := t }.f.c, .int .i64 { x with f := s, g := t }.tick, .int .i64 { x with f := s, g := t }.port, .slice { x with f := s, g := t }.g.A { x with f := s, g := t }.g.n { x with f := s, g := t }.g.c, .int .i64 { x with f := s, g := t }.err, .int .i64 { x with f := s, g := t }.proto, .int .i64 { x with f := s, g := t }.pt] rfl 1 rfl
      replace own := own.below hla
      replace hens := hens.keep (fun s L h => SlO.bel h hla)
      replace hs := hs.bel hla
      replace ht := ht.bel hla
      replace bel := bel_after bel hla
      clear hla
      have hlk := hens.1
      go_wp2_with (at_builtin; generalize w2.alloc (.cells #[.int .i64 { x with f := s, g := t }.b, .int .i64 { x with f := s, g := t }.e, .bool { x with f := s, g := t }.ends, .bool { x with f := s, g := t }.out, .slice { x with f := s, g := t }.f.A { x with f := s, g := t }.f.n { x with f := s, g := t }.f.c, .int .i64 { x with f := s, g := t }.tick, .int .i64 { x with f := s, g := t }.port, .slice { x with f := s, g := t }.g.A { x with f := s, g := t }.g.n { x with f := s, g := t }.g.c, .int .i64 { x with f := s, g := t }.err, .int .i64 { x with f := s, g := t }.proto, .int .i64 { x with f := s, g := t }.pt] 31) = W3 at *; refine wpList_appT En.cs_len En.cs_one (by decide) _ rfl (.tmp 17) (.tmp 20) 23 rfl w.heap.size 31 i0 (.agg #[.int .i64 0, .int .i64 0, .bool false, .bool false, .slice none 0 0, .int .i64 0, .int .i64 0, .slice none 0 0, .int .i64 0, .int .i64 0, .int .i64 0]) 120 Try.underlying23 hi hz0 hz1 hz2 rfl _ rfl l' own _ _ 1 1 rfl [{ x with f := s, g := t }] hxr (by omega) (by decide) (by have := bel.size; omega) ?_; intro v4 w4 own4 hg4 hv4)
      have bel4 : Below w.heap.size w w4 := bel.trans ((Upd.of_grown (S := fun k => w.heap.size ≤ k) hg4 (fun g e => (own.lt g e).1)).below bel.size (fun k hk => by omega))
      replace hens := hens.keep (fun s L h => SlO.grownT h own hg4)
      replace hs := hs.grownT own hg4
      replace ht := ht.grownT own hg4
      replace hens := hens.add hx.out hs ht
      go_roundw
      case rel => exact ⟨k + 1, by omega, by go_num, _, own4, hens, bel4⟩
      case measure => simp [intOf]; omega
    · obtain rfl : k = n := by omega
      have d1 : decide ((k : Int) < (k : Int)) = false := by simp
      have d2 : decide (k < k) = false := by simp
      go_wp2
      go_ret
      exact ⟨_, l', rfl, own, hens, bel⟩
end Go.Proofs.Ytjaacmecniijgaa
