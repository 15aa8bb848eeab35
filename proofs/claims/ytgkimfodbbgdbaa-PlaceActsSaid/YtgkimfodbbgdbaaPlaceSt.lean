/- The places and the document's lists beside them, in memory. -/
import Derived.Test.YtgkimfodbbgdbaaPlaceKeys2
import Derived.Test.YtgkimfodbbgdbaaRowAt
namespace Go.Proofs.Ytgkimfodbbgdbaa
set_option linter.unusedVariables false
set_option linter.unusedSimpArgs false
open Go.RowKit
theorem make_rowT {α : Type} {cs : α → List Value} {sz : Nat} (hs : ∀ x, (cs x).length = sz) (h0 : 0 < sz) {P : Program} (x0 : α) (t e : TypeId) (i : TypeInfo) (z : Value) (ht : P.underlying t = some (.slice e)) (hi : P.info? e = some i) (hz : i.zero = some z) (hsz : i.size = sz) (hc : z.cells = (cs x0).toArray)
    (kl kc : IntKind) (n : Nat) (hb : i.bytes * n ≤ 281474976710656) (h63 : n ≤ 9223372036854775807) (w : World) :
    (Instr.makeSlice t (.int kl (n : Int)) (.int kc (n : Int))).run P w = .ok (.slice (some ⟨w.heap.size, 0, none⟩) n n) (w.alloc (.cells ((List.replicate n x0).flatMap cs).toArray e)) := by
  have hb' : (i.bytes : Int) * (n : Int) ≤ 281474976710656 := by
    have h : ((i.bytes * n : Nat) : Int) ≤ 281474976710656 := by omega
    rwa [Int.natCast_mul] at h
  have hr := run_make (P := P) w t e i z ht hi hz kl kc n n (by omega) (by omega) hb' (by omega)
  simp only [Int.toNat_natCast, hsz, hc] at hr
  have : madeCells (cs x0).toArray (n * sz) = ((List.replicate n x0).flatMap cs).toArray := by
    apply Array.ext
    · simp [madeCells, flat_len hs]
    · intro j h1 h2
      have hj : j < n * sz := by simpa [madeCells] using h1
      have hd : j / sz < n := Nat.div_lt_of_lt_mul (by rw [Nat.mul_comm]; exact hj)
      have hm : j % sz < sz := Nat.mod_lt _ h0
      have hf := flat_at hs (List.replicate n x0) (j / sz) (j % sz) x0 (by rw [List.getElem?_replicate, if_pos hd]) hm
      rw [show j / sz * sz + j % sz = j by rw [Nat.mul_comm]; exact Nat.div_add_mod j sz] at hf
      have h3 : ((List.replicate n x0).flatMap cs)[j]? = some (((List.replicate n x0).flatMap cs)[j]'(by simpa using h2)) := List.getElem?_eq_getElem _
      rw [h3, List.getElem?_eq_getElem (by rw [hs]; exact hm)] at hf
      simp only [Option.some.injEq] at hf
      have hsz0 : (cs x0).length = sz := hs x0
      simp only [madeCells, Array.getElem_map, Array.getElem_range, List.size_toArray, hsz0, List.getElem_toArray]
      rw [hf]
      simp [hsz0, hm]
  rw [this] at hr
  exact hr
def Wd.cs (x : Wd) : List Value := [.int .i64 x.st, .int .i64 x.gen, .int .i64 x.tr, .int .i64 x.seen]
def Ky.cs (x : Ky) : List Value := [.int .i64 x.p, .int .u32 x.a, .int .u16 x.r]
theorem wd_len (x : Wd) : x.cs.length = 4 := rfl
theorem ky_len (x : Ky) : x.cs.length = 3 := rfl
theorem celAt_set (l : List Int) (i v j : Int) (hi : 0 ≤ i ∧ i < l.length) : celAt (celSet l i v) j = if j = i then v else celAt l j := by
  unfold celSet
  rw [if_pos hi]
  unfold celAt
  rw [List.length_set]
  by_cases hj : 0 ≤ j ∧ j < l.length
  · rw [if_pos hj, if_pos hj]
    by_cases he : j = i
    · rw [if_pos he, he, List.getD_eq_getElem?_getD, List.getElem?_set_self (by omega)]; rfl
    · rw [if_neg he, List.getD_eq_getElem?_getD, List.getElem?_set_ne (by omega), List.getD_eq_getElem?_getD]
  · rw [if_neg hj, if_neg hj, if_neg (by intro e; exact hj (e ▸ hi))]
/-- the cells are the words and the keys -/
structure PRel (n : Nat) (L : List Int) (ws : List Wd) (ks : List Ky) : Prop where
  ll : L.length = 2 * n
  lw : ws.length = n
  lk : ks.length = n
  at_ : ∀ (i : Nat) x y, ws[i]? = some x → ks[i]? = some y → x.ok ∧ y.ok ∧ celAt L (2 * (i : Int)) = x.num ∧ celAt L (2 * (i : Int) + 1) = y.num
section
variable {n : Nat} {L : List Int} {ws : List Wd} {ks : List Ky}
theorem PRel.get (h : PRel n L ws ks) {i : Nat} (hi : i < n) : ∃ x y, ws[i]? = some x ∧ ks[i]? = some y ∧ x.ok ∧ y.ok ∧ celAt L (2 * (i : Int)) = x.num ∧ celAt L (2 * (i : Int) + 1) = y.num := by
  have h1 := List.getElem?_eq_getElem (l := ws) (i := i) (by rw [h.lw]; exact hi)
  have h2 := List.getElem?_eq_getElem (l := ks) (i := i) (by rw [h.lk]; exact hi)
  exact ⟨_, _, h1, h2, h.at_ i _ _ h1 h2⟩
theorem PRel.setW (h : PRel n L ws ks) {i : Nat} (hi : i < n) {x' : Wd} (hx : x'.ok) : PRel n (celSet L (2 * (i : Int)) x'.num) (ws.set i x') ks := by
  refine ⟨by rw [celSet_length]; exact h.ll, by rw [List.length_set]; exact h.lw, h.lk, fun j x y h1 h2 => ?_⟩
  have hr : 0 ≤ 2 * (i : Int) ∧ 2 * (i : Int) < L.length := by rw [h.ll]; omega
  rw [celAt_set _ _ _ _ hr, celAt_set _ _ _ _ hr]
  by_cases hj : j = i
  · subst hj
    rw [List.getElem?_set_self (by rw [h.lw]; exact hi)] at h1
    simp only [Option.some.injEq] at h1
    subst h1
    obtain ⟨x0, y0, e1, e2, _, k2, _, k4⟩ := h.get hi
    obtain rfl : y0 = y := by rw [e2] at h2; exact Option.some.inj h2
    rw [if_pos rfl, if_neg (by omega)]
    exact ⟨hx, k2, rfl, k4⟩
  · rw [List.getElem?_set_ne (Ne.symm hj)] at h1
    rw [if_neg (by omega), if_neg (by omega)]
    exact h.at_ j x y h1 h2
theorem PRel.setK (h : PRel n L ws ks) {i : Nat} (hi : i < n) {y' : Ky} (hy : y'.ok) : PRel n (celSet L (2 * (i : Int) + 1) y'.num) ws (ks.set i y') := by
  refine ⟨by rw [celSet_length]; exact h.ll, h.lw, by rw [List.length_set]; exact h.lk, fun j x y h1 h2 => ?_⟩
  have hr : 0 ≤ 2 * (i : Int) + 1 ∧ 2 * (i : Int) + 1 < L.length := by rw [h.ll]; omega
  rw [celAt_set _ _ _ _ hr, celAt_set _ _ _ _ hr]
  by_cases hj : j = i
  · subst hj
    rw [List.getElem?_set_self (by rw [h.lk]; exact hi)] at h2
    simp only [Option.some.injEq] at h2
    subst h2
    obtain ⟨x0, y0, e1, e2, k1, _, k3, _⟩ := h.get hi
    obtain rfl : x0 = x := by rw [e1] at h1; exact Option.some.inj h1
    rw [if_pos rfl, if_neg (by omega)]
    exact ⟨k1, hy, k3, rfl⟩
  · rw [List.getElem?_set_ne (Ne.symm hj)] at h2
    rw [if_neg (by omega), if_neg (by omega)]
    exact h.at_ j x y h1 h2
end
theorem row4 {ws : List Wd} {i : Nat} {x : Wd} (h : ws[i]? = some x) (y0 y1 y2 y3 : Int) : ((((ws.flatMap Wd.cs).set (i * 4) (.int .i64 y0)).set (i * 4 + 1) (.int .i64 y1)).set (i * 4 + 2) (.int .i64 y2)).set (i * 4 + 3) (.int .i64 y3) = (ws.set i ⟨y0, y1, y2, y3⟩).flatMap Wd.cs := by
  obtain ⟨hl, _⟩ := List.getElem?_eq_some_iff.1 h
  have g : ∀ z : Wd, (ws.set i z)[i]? = some z := fun z => List.getElem?_set_self hl
  have e0 := flat_set wd_len ws i 0 x ⟨y0, x.gen, x.tr, x.seen⟩ (.int .i64 y0) h (by omega) rfl
  have e1 := flat_set wd_len (ws.set i ⟨y0, x.gen, x.tr, x.seen⟩) i 1 _ ⟨y0, y1, x.tr, x.seen⟩ (.int .i64 y1) (g _) (by omega) rfl
  have e2 := flat_set wd_len (ws.set i ⟨y0, y1, x.tr, x.seen⟩) i 2 _ ⟨y0, y1, y2, x.seen⟩ (.int .i64 y2) (g _) (by omega) rfl
  have e3 := flat_set wd_len (ws.set i ⟨y0, y1, y2, x.seen⟩) i 3 _ ⟨y0, y1, y2, y3⟩ (.int .i64 y3) (g _) (by omega) rfl
  rw [List.set_set] at e1 e2 e3
  rw [e3, e2, e1, e0]; rfl
theorem row3 {ks : List Ky} {i : Nat} {x : Ky} (h : ks[i]? = some x) (y0 y1 y2 : Int) : (((ks.flatMap Ky.cs).set (i * 3) (.int .i64 y0)).set (i * 3 + 1) (.int .u32 y1)).set (i * 3 + 2) (.int .u16 y2) = (ks.set i ⟨y0, y1, y2⟩).flatMap Ky.cs := by
  obtain ⟨hl, _⟩ := List.getElem?_eq_some_iff.1 h
  have g : ∀ z : Ky, (ks.set i z)[i]? = some z := fun z => List.getElem?_set_self hl
  have e0 := flat_set ky_len ks i 0 x ⟨y0, x.a, x.r⟩ (.int .i64 y0) h (by omega) rfl
  have e1 := flat_set ky_len (ks.set i ⟨y0, x.a, x.r⟩) i 1 _ ⟨y0, y1, x.r⟩ (.int .u32 y1) (g _) (by omega) rfl
  have e2 := flat_set ky_len (ks.set i ⟨y0, y1, x.r⟩) i 2 _ ⟨y0, y1, y2⟩ (.int .u16 y2) (g _) (by omega) rfl
  rw [List.set_set] at e1 e2
  rw [e2, e1, e0]; rfl
/-- the places at p, g, h; the document's words at lb, its keys at kb -/
structure PA (w0 : World) (p g h lb kb n : Nat) (L : List Int) (ws : List Wd) (ks : List Ky) (W : World) : Prop where
  pl : Pl W p g h n L
  bw : Blk W lb 23 (ws.flatMap Wd.cs).toArray
  bk : Blk W kb 47 (ks.flatMap Ky.cs).toArray
  rel : PRel n L ws ks
  hh : w0.heap.size ≤ h
  hlb : w0.heap.size ≤ lb
  hkb : w0.heap.size ≤ kb
  bel : Below w0.heap.size w0 W
theorem pa_cel {W : World} {lb : Nat} {t : TypeId} {ws : List Wd} (bw : Blk W lb t (ws.flatMap Wd.cs).toArray) {i : Nat} {x : Wd} (hx : ws[i]? = some x) : W.cell? ⟨lb, i * 4, none⟩ = some (.int .i64 x.st) ∧ W.cell? ⟨lb, i * 4 + 1, none⟩ = some (.int .i64 x.gen) ∧ W.cell? ⟨lb, i * 4 + 2, none⟩ = some (.int .i64 x.tr) ∧ W.cell? ⟨lb, i * 4 + 3, none⟩ = some (.int .i64 x.seen) := by
  have f := fun f hf => flat_at wd_len ws i f x hx hf
  rw [bw.cell, bw.cell, bw.cell, bw.cell]
  simp only [List.getElem?_toArray]
  exact ⟨f 0 (by omega), f 1 (by omega), f 2 (by omega), f 3 (by omega)⟩
theorem pa_kel {W : World} {kb : Nat} {t : TypeId} {ks : List Ky} (bk : Blk W kb t (ks.flatMap Ky.cs).toArray) {i : Nat} {x : Ky} (hx : ks[i]? = some x) : W.cell? ⟨kb, i * 3, none⟩ = some (.int .i64 x.p) ∧ W.cell? ⟨kb, i * 3 + 1, none⟩ = some (.int .u32 x.a) ∧ W.cell? ⟨kb, i * 3 + 2, none⟩ = some (.int .u16 x.r) := by
  have f := fun f hf => flat_at ky_len ks i f x hx hf
  rw [bk.cell, bk.cell, bk.cell]
  simp only [List.getElem?_toArray]
  exact ⟨f 0 (by omega), f 1 (by omega), f 2 (by omega)⟩
section
variable {w0 W W' : World} {p g h lb kb n : Nat} {L : List Int} {ws : List Wd} {ks : List Ky}
theorem PA.bel' (k : PA w0 p g h lb kb n L ws ks W) (hb : Below W.heap.size W W') : PA w0 p g h lb kb n L ws ks W' := ⟨k.pl.bel hb, k.bw.bel hb, k.bk.bel hb, k.rel, k.hh, k.hlb, k.hkb, bel_after k.bel hb⟩
theorem PA.drew (k : PA w0 p g h lb kb n L ws ks W) : PA w0 p g h lb kb n L ws ks W.drew := ⟨k.pl.drewN 1, k.bw.drew, k.bk.drew, k.rel, k.hh, k.hlb, k.hkb, k.bel.drew⟩
theorem PA.alloc (k : PA w0 p g h lb kb n L ws ks W) (o : Obj) : PA w0 p g h lb kb n L ws ks (W.alloc o) := ⟨k.pl.alloc o, k.bw.alloc o, k.bk.alloc o, k.rel, k.hh, k.hlb, k.hkb, k.bel.alloc k.bel.size o⟩
theorem PA.box (k : PA w0 p g h lb kb n L ws ks W) {x : Nat} (hx : lb < x ∧ w0.heap.size ≤ x) {cs : Array Value} (b : Blk W x 23 cs) (i : Nat) (v : Value) : PA w0 p g h lb kb n L ws ks (W.setCell ⟨x, i, none⟩ v) := by
  have up := Upd.one W x i v
  obtain ⟨_, _, _, ho⟩ := k.pl.cel.obj
  exact ⟨Pl.upd (S := (· = x)) k.pl up (k.pl.obj.ne_ b (by decide)) (ho.ne_ b (by decide)) (k.pl.cel.row.ne_ b (by decide)), k.bw.upd up (by omega), k.bk.upd up (k.bk.ne_ b (by decide)), k.rel, k.hh, k.hlb, k.hkb, k.bel.trans (up.below k.bel.size (fun i hi e => by subst e; omega))⟩
theorem PA.cel {i : Nat} {x : Wd} (k : PA w0 p g h lb kb n L ws ks W) (hx : ws[i]? = some x) : W.cell? ⟨lb, i * 4, none⟩ = some (.int .i64 x.st) ∧ W.cell? ⟨lb, i * 4 + 1, none⟩ = some (.int .i64 x.gen) ∧ W.cell? ⟨lb, i * 4 + 2, none⟩ = some (.int .i64 x.tr) ∧ W.cell? ⟨lb, i * 4 + 3, none⟩ = some (.int .i64 x.seen) := by
  have f := fun f hf => flat_at wd_len ws i f x hx hf
  rw [k.bw.cell, k.bw.cell, k.bw.cell, k.bw.cell]
  simp only [List.getElem?_toArray]
  exact ⟨f 0 (by omega), f 1 (by omega), f 2 (by omega), f 3 (by omega)⟩
theorem PA.kel {i : Nat} {x : Ky} (k : PA w0 p g h lb kb n L ws ks W) (hx : ks[i]? = some x) : W.cell? ⟨kb, i * 3, none⟩ = some (.int .i64 x.p) ∧ W.cell? ⟨kb, i * 3 + 1, none⟩ = some (.int .u32 x.a) ∧ W.cell? ⟨kb, i * 3 + 2, none⟩ = some (.int .u16 x.r) := by
  have f := fun f hf => flat_at ky_len ks i f x hx hf
  rw [k.bk.cell, k.bk.cell, k.bk.cell]
  simp only [List.getElem?_toArray]
  exact ⟨f 0 (by omega), f 1 (by omega), f 2 (by omega)⟩
/-- behind a Cas and the store beside it -/
theorem PA.cas {u : World} {i : Nat} {y0 y1 y2 y3 : Int} (k : PA w0 p g h lb kb n L ws ks W) (hi : i < n) (hx : (Wd.mk y0 y1 y2 y3).ok) (pl : Pl u p g h n (celSet L (2 * (i : Int)) (Wd.mk y0 y1 y2 y3).num)) (up : Upd (· = h) W u) :
    PA w0 p g h lb kb n (celSet L (2 * (i : Int)) (Wd.mk y0 y1 y2 y3).num) (ws.set i ⟨y0, y1, y2, y3⟩) ks ((((u.setCell ⟨lb, i * 4, none⟩ (.int .i64 y0)).setCell ⟨lb, i * 4 + 1, none⟩ (.int .i64 y1)).setCell ⟨lb, i * 4 + 2, none⟩ (.int .i64 y2)).setCell ⟨lb, i * 4 + 3, none⟩ (.int .i64 y3)) := by
  obtain ⟨x, y, h1, h2, _⟩ := k.rel.get hi
  have hlh : lb ≠ h := Ne.symm (k.pl.cel.row.ne_ k.bw (by decide))
  have hkh : kb ≠ h := Ne.symm (k.pl.cel.row.ne_ k.bk (by decide))
  have bw := k.bw.upd up hlh
  have bk := k.bk.upd up hkh
  have u4 := (((Upd.one u lb (i * 4) (.int .i64 y0)).setCell (p := ⟨lb, i * 4 + 1, none⟩) (fun _ => rfl) (.int .i64 y1)).setCell (p := ⟨lb, i * 4 + 2, none⟩) (fun _ => rfl) (.int .i64 y2)).setCell (p := ⟨lb, i * 4 + 3, none⟩) (fun _ => rfl) (.int .i64 y3)
  obtain ⟨_, _, _, ho⟩ := pl.cel.obj
  have b4 := (((bw.set_ (i * 4) (.int .i64 y0)).set_ (i * 4 + 1) (.int .i64 y1)).set_ (i * 4 + 2) (.int .i64 y2)).set_ (i * 4 + 3) (.int .i64 y3)
  simp only [List.setIfInBounds_toArray, row4 h1] at b4
  refine ⟨Pl.upd (S := (· = lb)) pl u4 (pl.obj.ne_ bw (by decide)) (ho.ne_ bw (by decide)) (Ne.symm hlh), b4, bk.upd u4 (bk.ne_ bw (by decide)), k.rel.setW hi hx, k.hh, k.hlb, k.hkb, ?_⟩
  have b1 : Below w0.heap.size w0 u := k.bel.trans (up.below k.bel.size (fun k' hk' e => by have := k.hh; omega))
  exact b1.trans (u4.below b1.size (fun k' hk' e => by have := k.hlb; omega))
theorem PA.key {u : World} {i : Nat} {y0 y1 y2 : Int} (k : PA w0 p g h lb kb n L ws ks W) (hi : i < n) (hx : (Ky.mk y0 y1 y2).ok) (pl : Pl u p g h n (celSet L (2 * (i : Int) + 1) (Ky.mk y0 y1 y2).num)) (up : Upd (· = h) W u) :
    PA w0 p g h lb kb n (celSet L (2 * (i : Int) + 1) (Ky.mk y0 y1 y2).num) ws (ks.set i ⟨y0, y1, y2⟩) (((u.setCell ⟨kb, i * 3, none⟩ (.int .i64 y0)).setCell ⟨kb, i * 3 + 1, none⟩ (.int .u32 y1)).setCell ⟨kb, i * 3 + 2, none⟩ (.int .u16 y2)) := by
  obtain ⟨x, y, h1, h2, _⟩ := k.rel.get hi
  have hlh : lb ≠ h := Ne.symm (k.pl.cel.row.ne_ k.bw (by decide))
  have hkh : kb ≠ h := Ne.symm (k.pl.cel.row.ne_ k.bk (by decide))
  have bw := k.bw.upd up hlh
  have bk := k.bk.upd up hkh
  have u4 := ((Upd.one u kb (i * 3) (.int .i64 y0)).setCell (p := ⟨kb, i * 3 + 1, none⟩) (fun _ => rfl) (.int .u32 y1)).setCell (p := ⟨kb, i * 3 + 2, none⟩) (fun _ => rfl) (.int .u16 y2)
  obtain ⟨_, _, _, ho⟩ := pl.cel.obj
  have b4 := ((bk.set_ (i * 3) (.int .i64 y0)).set_ (i * 3 + 1) (.int .u32 y1)).set_ (i * 3 + 2) (.int .u16 y2)
  simp only [List.setIfInBounds_toArray, row3 h2] at b4
  refine ⟨Pl.upd (S := (· = kb)) pl u4 (pl.obj.ne_ bk (by decide)) (ho.ne_ bk (by decide)) (Ne.symm hkh), bw.upd u4 (bw.ne_ bk (by decide)), b4, k.rel.setK hi hx, k.hh, k.hlb, k.hkb, ?_⟩
  have b1 : Below w0.heap.size w0 u := k.bel.trans (up.below k.bel.size (fun k' hk' e => by have := k.hh; omega))
  exact b1.trans (u4.below b1.size (fun k' hk' e => by have := k.hkb; omega))
theorem wd_eta (x : Wd) : (⟨x.st, x.gen, x.tr, x.seen⟩ : Wd) = x := rfl
end
theorem info_wd : (Try.prog.info? 23).map (fun i => (i.zero, i.size, i.bytes)) = some (some (.agg #[.int .i64 0, .int .i64 0, .int .i64 0, .int .i64 0]), 4, 32) := by kernel_rfl
theorem info_ky : (Try.prog.info? 47).map (fun i => (i.zero, i.size, i.bytes)) = some (some (.agg #[.int .i64 0, .int .u32 0, .int .u16 0]), 3, 16) := by kernel_rfl
theorem celAt_rep (m : Nat) (i : Int) : celAt (List.replicate m 0) i = 0 := by
  unfold celAt
  split
  · rename_i h
    rw [List.length_replicate] at h
    rw [List.getD_eq_getElem?_getD, List.getElem?_replicate, if_pos (by omega)]; rfl
  · rfl
theorem prel_new (n : Nat) : PRel n (List.replicate (2 * n) 0) (List.replicate n ⟨0, 0, 0, 0⟩) (List.replicate n ⟨0, 0, 0⟩) := by
  refine ⟨by simp, by simp, by simp, fun i x y h1 h2 => ?_⟩
  obtain rfl := (List.mem_replicate.1 (List.mem_of_getElem? h1)).2
  obtain rfl := (List.mem_replicate.1 (List.mem_of_getElem? h2)).2
  rw [celAt_rep, celAt_rep]
  exact ⟨by decide +kernel, by simp [Ky.ok], rfl, rfl⟩
end Go.Proofs.Ytgkimfodbbgdbaa
