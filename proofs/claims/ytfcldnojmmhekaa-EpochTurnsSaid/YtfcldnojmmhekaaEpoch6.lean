/- Epochs: what was given up, in memory; New. -/
import Derived.Test.YtfcldnojmmhekaaEpoch5
import Derived.Test.YtfcldnojmmhekaaRowT2
import Derived.Test.YtfcldnojmmhekaaPlanL
namespace Go.Proofs.Ytfcldnojmmhekaa
set_option linter.unusedVariables false
set_option linter.unusedSimpArgs false
open Go.RowKit
/-- a thing that was given up -/
structure Th where
  what : Int
  when : Int
def Th.cs (x : Th) : List Value := [.int .u64 x.what, .int .u64 x.when]
theorem Th.cs_len : ∀ x : Th, x.cs.length = 2 := fun _ => rfl
theorem Th.cs_one : ∀ x : Th, ∀ u ∈ x.cs, u.oneCell' = true := by
  intro x u hu
  simp only [Th.cs, List.mem_cons, List.not_mem_nil, or_false] at hu
  rcases hu with rfl | rfl <;> rfl
theorem info_thing : (Try.prog.info? 74).map (fun i => (i.zero, i.size, i.bytes)) = some (some (.agg #[.int .u64 0, .int .u64 0]), 2, 16) := by kernel_rfl
theorem info_things : (Try.prog.info? 72).map (fun i => (i.zero, i.size, i.bytes)) = some (some (.slice none 0 0), 1, 24) := by kernel_rfl
theorem info_u64e : (Try.prog.info? 23).map (fun i => (i.zero, i.size, i.bytes)) = some (some (.int .u64 0), 1, 8) := by kernel_rfl
/-- what the workers gave up, in memory: the headers' block, and each row -/
structure GvAt (w : World) (base gr : Nat) (hs : List Value) (G : List (List Th)) : Prop where
  blk : Blk w gr 72 hs.toArray
  len : hs.length = G.length
  own : ∀ (k : Nat) v l, hs[k]? = some v → G[k]? = some l → OwnT Th.cs 2 74 w base v l
  far : ∀ (i j : Nat) v u, i ≠ j → hs[i]? = some v → hs[j]? = some u → Far v u
/-- the blocks that may turn -/
def GvS (gr : Nat) (hs : List Value) (x : Nat) : Prop := x = gr ∨ ∃ v ∈ hs, v.ownBlock = some x
section
variable {w w' : World} {base gr : Nat} {hs : List Value} {G : List (List Th)}
theorem OwnT.blk_ {α : Type} {cs : α → List Value} {sz : Nat} {e : TypeId} {v : Value} {l : List α} (h : OwnT cs sz e w base v l) {x : Nat} (hx : v.ownBlock = some x) : ∃ cur, Blk w x e cur := by
  rcases h.row.2 with ⟨rfl, h1⟩ | ⟨g, cap, cur, rfl, hg, hh, _⟩
  · simp [Value.ownBlock] at hx
  · simp only [Value.ownBlock, Option.some.injEq] at hx
    subst hx
    exact ⟨cur, hh⟩
theorem GvAt.at_ (k : GvAt w base gr hs G) {i : Nat} (hi : i < G.length) : ∃ v l, hs[i]? = some v ∧ G[i]? = some l ∧ OwnT Th.cs 2 74 w base v l := by
  have h1 : i < hs.length := by rw [k.len]; exact hi
  exact ⟨_, _, List.getElem?_eq_getElem h1, List.getElem?_eq_getElem hi, k.own i _ _ (List.getElem?_eq_getElem h1) (List.getElem?_eq_getElem hi)⟩
theorem GvAt.ty (k : GvAt w base gr hs G) {x : Nat} (hx : GvS gr hs x) : ∃ t cs, Blk w x t cs ∧ (t = 72 ∨ t = 74) := by
  rcases hx with rfl | ⟨v, hv, hx⟩
  · exact ⟨_, _, k.blk, .inl rfl⟩
  · obtain ⟨i, hi, he⟩ := List.getElem_of_mem hv
    have h2 : i < G.length := by rw [← k.len]; exact hi
    obtain ⟨cur, hb⟩ := (k.own i v _ (by rw [List.getElem?_eq_getElem hi, he]) (List.getElem?_eq_getElem h2)).blk_ hx
    exact ⟨_, _, hb, .inr rfl⟩
theorem GvAt.notS (k : GvAt w base gr hs G) {x : Nat} {t : TypeId} {cs : Array Value} (b : Blk w x t cs) (h1 : t ≠ 72) (h2 : t ≠ 74) : ¬ GvS gr hs x := fun hx => by
  obtain ⟨t', cs', b', ht⟩ := k.ty hx
  have : t = t' := Classical.byContradiction fun hne => b.ne_ b' hne rfl
  rcases ht with ht | ht
  · exact h1 (this.trans ht)
  · exact h2 (this.trans ht)
theorem GvAt.lt (k : GvAt w base gr hs G) {x : Nat} (hg : base ≤ gr) (hx : GvS gr hs x) : base ≤ x := by
  rcases hx with rfl | ⟨v, hv, hx⟩
  · exact hg
  · obtain ⟨i, hi, he⟩ := List.getElem_of_mem hv
    have h2 : i < G.length := by rw [← k.len]; exact hi
    exact ((k.own i v _ (by rw [List.getElem?_eq_getElem hi, he]) (List.getElem?_eq_getElem h2)).lt x hx).1
theorem GvAt.upd {S : Nat → Prop} (k : GvAt w base gr hs G) (hu : Upd S w w') (hS : ∀ x, S x → ¬ GvS gr hs x) : GvAt w' base gr hs G :=
  ⟨k.blk.upd hu (fun h => hS _ h (.inl rfl)), k.len, fun i v l hv hl => (k.own i v l hv hl).upd hu (fun x hx h => hS x h (.inr ⟨v, List.mem_of_getElem? hv, hx⟩)), k.far⟩
theorem GvAt.bel (k : GvAt w base gr hs G) (hb : Below w.heap.size w w') : GvAt w' base gr hs G :=
  ⟨k.blk.bel hb, k.len, fun i v l hv hl => (k.own i v l hv hl).below hb, k.far⟩
theorem GvAt.drew (k : GvAt w base gr hs G) : GvAt w.drew base gr hs G := ⟨k.blk.drew, k.len, fun i v l hv hl => (k.own i v l hv hl).drew, k.far⟩
/-- a row takes the place of one -/
theorem GvAt.put (k : GvAt w base gr hs G) {i : Nat} {v v' : Value} {l' : List Th} (hv : hs[i]? = some v) {w1 : World} (hb : Blk w1 gr 72 hs.toArray) (hu : Upd (fun x => v.ownBlock = some x) w w1)
    (ho : OwnT Th.cs 2 74 w1 base v' l') (hnew : v'.ownBlock = v.ownBlock ∨ ∀ x, v'.ownBlock = some x → w.heap.size ≤ x) :
    GvAt (w1.setCell ⟨gr, i, none⟩ v') base gr (hs.set i v') (G.set i l') ∧ Upd (GvS gr hs) w (w1.setCell ⟨gr, i, none⟩ v') := by
  have hgr := k.blk.lt
  have hfar : ∀ (j : Nat) u, j ≠ i → hs[j]? = some u → Far v' u := fun j u hj hu => by
    rcases hnew with hn | hn
    · intro x hx
      exact k.far i j v u (Ne.symm hj) hv hu x (hn ▸ hx)
    · intro x hx hux
      have h1 := hn x hx
      have hjl : j < G.length := by rw [← k.len]; exact (List.getElem?_eq_some_iff.1 hu).1
      have := (k.own j u _ hu (List.getElem?_eq_getElem hjl)).lt x hux
      omega
  have hrow : ∀ (u : Value) (l : List Th), OwnT Th.cs 2 74 w1 base u l → OwnT Th.cs 2 74 (w1.setCell ⟨gr, i, none⟩ v') base u l := fun u l h =>
    h.upd (Upd.one w1 gr i v') (fun x hx he => by
      obtain ⟨cur, hc⟩ := h.blk_ hx
      exact hb.ne_ hc (by decide) he.symm)
  refine ⟨⟨?_, by simp [k.len], ?_, ?_⟩, ?_⟩
  · have := hb.set_ i v'
    simpa using this
  · intro j u l hj hl
    by_cases hji : j = i
    · subst hji
      have hjl : j < hs.length := (List.getElem?_eq_some_iff.1 hv).1
      rw [List.getElem?_set_self hjl] at hj
      rw [List.getElem?_set_self (by rw [← k.len]; exact hjl)] at hl
      simp only [Option.some.injEq] at hj hl
      subst hj; subst hl
      exact hrow _ _ ho
    · rw [List.getElem?_set_ne (Ne.symm hji)] at hj hl
      exact hrow _ _ ((k.own j u l hj hl).upd hu (fun x hx he => k.far i j v u (Ne.symm hji) hv hj x he hx))
  · intro a b u x hab ha hb'
    by_cases hai : a = i
    · subst hai
      rw [List.getElem?_set_self (List.getElem?_eq_some_iff.1 hv).1] at ha
      rw [List.getElem?_set_ne hab] at hb'
      simp only [Option.some.injEq] at ha
      subst ha
      exact hfar b x (Ne.symm hab) hb'
    · rw [List.getElem?_set_ne (Ne.symm hai)] at ha
      by_cases hbi : b = i
      · subst hbi
        rw [List.getElem?_set_self (List.getElem?_eq_some_iff.1 hv).1] at hb'
        simp only [Option.some.injEq] at hb'
        subst hb'
        exact (hfar a u hai ha).symm
      · rw [List.getElem?_set_ne (Ne.symm hbi)] at hb'
        exact k.far a b u x hab ha hb'
  · refine (hu.mono fun x _ hx => .inr ⟨v, List.mem_of_getElem? hv, hx⟩).setCell (p := ⟨gr, i, none⟩) (fun _ => .inl rfl) v'
end
theorem EpNew_yes (n : Nat) (w : World) (h1 : 1 ≤ n) (h2 : n ≤ 64) :
    Calls Try.prog 8 #[.int .i64 n] w fun e w' => ∃ b g h gr, e = .returned (.tuple #[.pointer (some ⟨b, 0, none⟩), .int .i64 0]) ∧ Below w.heap.size w w' ∧ w.heap.size ≤ b ∧ w.heap.size ≤ h ∧ w.heap.size ≤ gr ∧
      EpAt w' b g h gr n (List.replicate (n + 1) 0) ∧ GvAt w' w.heap.size gr (List.replicate n (.slice none 0 0)) (List.replicate n []) := by
  obtain ⟨i0, hi, hz0, hz1, hz2⟩ := info_parts info_things
  have hmk := fun W => make_one (P := Try.prog) 64 72 i0 _ Try.underlying64 hi hz0 hz1 rfl .i64 .i64 n (by rw [hz2]; omega) (by omega) W
  have hd : decide ((n : Int) < 1) = false := by simp; omega
  have hd2 : decide (64 < (n : Int)) = false := by simp; omega
  have hd3 : decide (64 < n) = false := by simp; omega
  have hw : wrap64 ((n : Int) + 1) = ((n + 1 : Nat) : Int) := by rw [IntWalk.wrap64_in _ (by omega)]; omega
  clear hz0 hz1 hz2
  go_enter Try.func8, Try.ntmps8
  go_wp2_with fail
  refine (CellsNew_yes (n + 1) _ (by omega) (by omega)).mono ?_
  rintro e w1 ⟨g, h, rfl, bel, hg, hh, cel, hg2, hh2⟩
  clear hw
  go_wp2_with fail
  go_ret2
  have bl := Blk.new w1 72 (Array.replicate n (.slice none 0 0))
  have hsz := bel.size
  refine ⟨w1.heap.size + 1, g, h, w1.heap.size, rfl, ?_, by omega, hh, by omega, ⟨?_, (cel.alloc _).alloc _, by simp, h1, h2⟩, ⟨?_, by simp, ?_, ?_⟩⟩
  · exact (bel.alloc hsz _).alloc (by simp; omega) _
  · have := Blk.new (w1.alloc (.cells (Array.replicate n (.slice none 0 0)) 72)) 66 #[.pointer (some ⟨g, 0, none⟩), .slice (some ⟨w1.heap.size, 0, none⟩) n n]
    simpa using this
  · rw [List.toArray_replicate]; exact bl.alloc _
  · intro k v l hv hl
    obtain rfl : v = .slice none 0 0 := (List.mem_replicate.1 (List.mem_of_getElem? hv)).2
    obtain rfl : l = [] := (List.mem_replicate.1 (List.mem_of_getElem? hl)).2
    exact OwnT.nil _ _ _ _ _
  · intro i j v u _ hv hu
    obtain rfl : v = .slice none 0 0 := (List.mem_replicate.1 (List.mem_of_getElem? hv)).2
    exact Far.nil _
theorem EpNew_no (n : Int) (w : World) (h : n < 1 ∨ 64 < n) :
    Calls Try.prog 8 #[.int .i64 n] w fun e w' => e = .returned (.tuple #[.pointer none, .int .i64 1]) ∧ w = w' := by
  rcases h with h | h
  · have hd : decide (n < 1) = true := by simpa using h
    go_enter Try.func8, Try.ntmps8
    go_wp2
    go_ret2
    exact ⟨rfl, rfl⟩
  · have hd : decide (n < 1) = false := by simp; omega
    have hd2 : decide (64 < n) = true := by simpa using h
    go_enter Try.func8, Try.ntmps8
    go_wp2
    go_ret2
    exact ⟨rfl, rfl⟩
end Go.Proofs.Ytfcldnojmmhekaa
