import Derived.Test.YtgfjdnbejmmckaaRewSameO
import Derived.Test.YtgfjdnbejmmckaaRewSameI
import Derived.Test.YtgfjdnbejmmckaaRewAll3
import Derived.Test.YtgfjdnbejmmckaaPart22
import Derived.Test.YtgfjdnbejmmckaaRewAll2
import Derived.Lib.SlBytesConst
namespace Go.Proofs.Ytgfjdnbejmmckaa
set_option linter.unusedVariables false
set_option linter.unusedSimpArgs false
open Go.RowKit
/- The walk of law 4's same. -/
theorem same_go (X Y : List Int) (A1 A2 : Option Addr) (n1 c1 m c2 : Nat) (w : World) (hrX : Rd .u8 w w.heap.size A1 n1 X) (hrY : Rd .u8 w w.heap.size A2 m Y) (hc1 : n1 ≤ c1) (hc1m : c1 ≤ 9223372036854775807) (hc2 : m ≤ c2) (hc2m : c2 ≤ 9223372036854775807) (hn1 : n1 ≤ 60000)
    (sz isz pat : Nat) (h2 h3 h4 h5 x4 x5 sr ds ys yd fl ki co i1 i2 i3 i4 i5 z4 z5 addr port : Int) (out er ba : Bool) (hm : m ≤ n1) (hm2 : m ≤ 1500) (hsz : 20 ≤ sz ∧ sz ≤ 60) (hszm : sz + 8 ≤ m) (hisz : isz ≤ 60) (hpi : er = true → pat + isz + 8 ≤ m ∧ 28 ≤ pat) (hpat : pat ≤ 1500)
    (hE : getE X = 0) (hE2 : getE Y = 0) (hH : hdOf X = ⟨sz, m, h2, h3, h4, h5⟩) (hH2 : hdOf Y = ⟨sz, m, h2, h3, x4, x5⟩) (hR : getR (hdOf X) X = (0, ⟨h3, sr, ds, fl, ki, co, er, ⟨isz, i1, i2, i3, i4, i5⟩, pat, ba⟩)) (hR2 : getR (hdOf Y) Y = (0, ⟨h3, ys, yd, fl, ki, co, er, ⟨isz, i1, i2, i3, z4, z5⟩, pat, ba⟩))
    (hfar : ∀ k : Nat, k < m → freeF ⟨sz, m, h2, h3, h4, h5⟩ ⟨h3, sr, ds, fl, ki, co, er, ⟨isz, i1, i2, i3, i4, i5⟩, pat, ba⟩ out k = 0 → Y.getD k 0 = X.getD k 0)
    (hsum : er = true → sumOf (seg Y pat isz) % 65535 = sumOf (seg X pat isz) % 65535)
    (hx4 : out = true → addr = x4 ∧ h5 = x5) (hx5 : out = false → h4 = x4 ∧ addr = x5)
    (hp1 : er = false → h3 = 1 → port = ys ∧ port = yd) (hp2 : er = false → h3 ≠ 1 → out = true → port = ys ∧ ds = yd) (hp3 : er = false → h3 ≠ 1 → out = false → sr = ys ∧ port = yd)
    (he1 : er = true → out = true → addr = z5 ∧ i4 = z4) (he2 : er = true → out = false → addr = z4 ∧ i5 = z5)
    (he3 : er = true → i3 = 1 → port = ys ∧ port = yd) (he4 : er = true → i3 ≠ 1 → out = true → sr = ys ∧ port = yd) (he5 : er = true → i3 ≠ 1 → out = false → port = ys ∧ ds = yd) :
    Calls Try.prog 16 #[.slice A1 n1 c1, .slice A2 m c2, .bool out, .int .u32 addr, .int .u16 port] w fun e w' => e = .returned (.bool true) ∧ Below w.heap.size w w' := by
  cases out
  · exact same_in X Y A1 A2 n1 c1 m c2 w hrX hrY hc1 hc1m hc2 hc2m hn1 sz isz pat h2 h3 h4 h5 x4 x5 sr ds ys yd fl ki co i1 i2 i3 i4 i5 z4 z5 addr port er ba hm hm2 hsz hszm hisz hpi hpat hE hE2 hH hH2 hR hR2 hfar hsum hx4 hx5 hp1 hp2 hp3 he1 he2 he3 he4 he5
  · exact same_out X Y A1 A2 n1 c1 m c2 w hrX hrY hc1 hc1m hc2 hc2m hn1 sz isz pat h2 h3 h4 h5 x4 x5 sr ds ys yd fl ki co i1 i2 i3 i4 i5 z4 z5 addr port er ba hm hm2 hsz hszm hisz hpi hpat hE hE2 hH hH2 hR hR2 hfar hsum hx4 hx5 hp1 hp2 hp3 he1 he2 he3 he4 he5
/- Rewrites told for all bytes; same at what a rewrite tells. -/
section
variable (out : Bool) (l : List Int) (A : Option Addr) (len c B : Nat) (addr port : Int) (w : World) (hr : Rd .u8 w B A len l) (hB : B ≤ w.heap.size) (hlc : len ≤ c) (hcm : c ≤ 9223372036854775807) (hl : len ≤ 60000) (ha : 0 ≤ addr ∧ addr ≤ 4294967295) (hport : 0 ≤ port ∧ port ≤ 65535)
include hr hB hlc hcm hl ha hport
theorem change_any : Calls Try.prog 13 #[.slice A len c, .bool out, .int .u32 addr, .int .u16 port] w (ChgR w (rwE l) (rwL l out addr port)) := by
  have h8 : Bytes8 l := fun x hx => inr_u8 (hr.rng x hx)
  by_cases h1 : getE l = 0
  · have eh : hdIf l 0 = hdOf l := rfl
    by_cases h2 : (getR (hdOf l) l).1 = 0
    · have e0 : rwE l = 0 := by unfold rwE; rw [if_neg (by simp [h1])]; exact h2
      obtain ⟨_, hR⟩ := rw_ok e0
      have hL : rwL l out addr port = chgW (l.take (hdOf l).len.toNat) (hdOf l) (getR (hdOf l) l).2 out addr port := by unfold rwL; rw [if_pos e0]
      rw [e0, hL]
      generalize (getR (hdOf l) l).2 = p at *
      obtain ⟨sz, m, s1, s2, s3, s4, s5, s6, s7, s8, s9, s10, _⟩ := got_pre h8 h1 hR
      rcases hH : hdOf l with ⟨H0, H1, H2, H3, H4, H5⟩
      simp only [hH] at s1 s2 s8 s9
      subst s1 s2
      obtain ⟨pr, sr, ds, fl, ki, co, er, ⟨i0, i1, i2, i3, i4, i5⟩, pa, ba⟩ := p
      refine change_ok out l A len c B addr port w hr hB hlc hcm hl sz m H2 H3 H4 H5 _ pr sr ds fl ki co i0 i1 i2 i3 i4 i5 pa er ba h1 (eh.trans hH) (by rw [eh]; rw [hH] at hR ⊢; exact hR) (by have := hr.len; omega) s6 s3 s5 (fun he => ?_) (Lib.hid rfl) ha hport
      obtain ⟨isz, pat, t1, t2, t3, t4, t5, t6, _⟩ := s10 he
      exact ⟨isz, pat, t1, t2, t3, t4, t6⟩
    · have e0 : rwE l = (getR (hdIf l 0) l).1 := by unfold rwE; rw [if_neg (by simp [h1]), eh]
      have hL : rwL l out addr port = [] := by unfold rwL; rw [if_neg (by rw [e0, eh]; exact h2)]
      rw [e0, hL]
      exact change_part out l A len c B addr port w hr hB hlc hcm hl h1 (by rw [eh]; exact h2)
  · have e0 : rwE l = getE l := by unfold rwE; rw [if_pos h1]
    have hL : rwL l out addr port = [] := by unfold rwL; rw [if_neg (by rw [e0]; exact h1)]
    rw [e0, hL]
    exact change_head out l A len c B addr port w hr hB hlc hcm hl h1
end
section
variable (l : List Int) (A : Option Addr) (len c B : Nat) (addr port : Int) (w : World) (hr : Rd .u8 w B A len l) (hB : B ≤ w.heap.size) (hlc : len ≤ c) (hcm : c ≤ 9223372036854775807) (hl : len ≤ 60000) (ha : 0 ≤ addr ∧ addr ≤ 4294967295) (hport : 0 ≤ port ∧ port ≤ 65535)
include hr hB hlc hcm hl ha hport
set_option maxRecDepth 100000 in
theorem RwOut_any : Calls Try.prog 5 #[.slice A len c, .int .u32 addr, .int .u16 port] w (ChgR w (rwE l) (rwL l true addr port)) := by
  have h := change_any true l A len c B addr port w hr hB hlc hcm hl ha hport
  generalize rwE l = E at *
  generalize rwL l true addr port = L at *
  replace h := Lib.hid h
  clear hr
  go_enter Try.func5, Try.ntmps5
  go_wp2_with fail
  refine h.out.mono ?_
  rintro e w1 ⟨⟨v, rfl, h1, h2⟩, hb⟩
  replace h1 := Lib.hid h1
  replace h2 := Lib.hid h2
  go_wp2
  go_ret2
  exact ⟨⟨_, rfl, h1.out, h2.out⟩, hb⟩
set_option maxRecDepth 100000 in
theorem RwIn_any : Calls Try.prog 10 #[.slice A len c, .int .u32 addr, .int .u16 port] w (ChgR w (rwE l) (rwL l false addr port)) := by
  have h := change_any false l A len c B addr port w hr hB hlc hcm hl ha hport
  generalize rwE l = E at *
  generalize rwL l false addr port = L at *
  replace h := Lib.hid h
  clear hr
  go_enter Try.func10, Try.ntmps10
  go_wp2_with fail
  refine h.out.mono ?_
  rintro e w1 ⟨⟨v, rfl, h1, h2⟩, hb⟩
  replace h1 := Lib.hid h1
  replace h2 := Lib.hid h2
  go_wp2
  go_ret2
  exact ⟨⟨_, rfl, h1.out, h2.out⟩, hb⟩
end
theorem same_yes (X Y : List Int) (A1 A2 : Option Addr) (n1 c1 m c2 : Nat) (w : World) (hrX : Rd .u8 w w.heap.size A1 n1 X) (hrY : Rd .u8 w w.heap.size A2 m Y) (hc1 : n1 ≤ c1) (hc1m : c1 ≤ 9223372036854775807) (hc2 : m ≤ c2) (hc2m : c2 ≤ 9223372036854775807) (hn1 : n1 ≤ 60000)
    (p : Pt) (out : Bool) (addr port : Int) (hE : getE X = 0) (hR : getR (hdOf X) X = (0, p)) (hA : Again X Y (hdOf X) p out addr port) :
    Calls Try.prog 16 #[.slice A1 n1 c1, .slice A2 m c2, .bool out, .int .u32 addr, .int .u16 port] w fun e w' => e = .returned (.bool true) ∧ Below w.heap.size w w' := by
  have h8 : Bytes8 X := fun x hx => inr_u8 (hrX.rng x hx)
  obtain ⟨sz, m', s1, s2, s3, s4, s5, s6, s7, s8, s9, s10, s11⟩ := got_pre h8 hE hR
  obtain ⟨hY8, hlen, hE2, hH2, hR2, hfar, hsum⟩ := hA
  obtain rfl : m = m' := by have := hrY.len; omega
  rw [hrY.len] at hfar
  rcases hH : hdOf X with ⟨H0, H1, H2, H3, H4, H5⟩
  rw [hH] at hH2 hfar
  rw [hH] at s1 s2 s8 s9
  simp only at s1 s2 s8 s9
  subst s1 s2
  have hn := hrX.len
  obtain ⟨pr, sr, ds, fl, ki, co, er, ⟨i0, i1, i2, i3, i4, i5⟩, pa, ba⟩ := p
  simp only at s8 s10 s11 hsum hfar
  subst s8
  obtain ⟨isz, pat, rfl, rfl, t⟩ : ∃ isz pat : Nat, i0 = isz ∧ pa = pat ∧ isz ≤ 60 ∧ pat ≤ 1500 ∧ (er = true → pat + isz + 8 ≤ m ∧ 28 ≤ pat) := by
    cases he : er with
    | true =>
      obtain ⟨isz, pat, t1, t2, t3, t4, t5, t6, _⟩ := s10 he
      exact ⟨isz, pat, t1, t2, t5, by omega, fun _ => ⟨t3, by omega⟩⟩
    | false =>
      obtain ⟨t1, t2⟩ := s11 he
      simp only [Hd.z, Hd.mk.injEq] at t1
      exact ⟨0, 0, t1.1, t2, by omega, by omega, fun h => by cases h⟩
  simp only [Int.toNat_natCast] at hsum
  have e2 : chP ⟨pr, sr, ds, fl, ki, co, er, ⟨isz, i1, i2, i3, i4, i5⟩, pat, ba⟩ out addr port =
      ⟨pr, if (if er = true then i3 == 1 else pr == 1) || (if er = true then !out else out) then port else sr, if (if er = true then i3 == 1 else pr == 1) || !(if er = true then !out else out) then port else ds, fl, ki, co, er,
        ⟨isz, i1, i2, i3, if er = true then (if out then i4 else addr) else i4, if er = true then (if out then addr else i5) else i5⟩, pat, ba⟩ := by
    unfold chP chPorts chH
    cases er <;> cases out <;> rfl
  rw [e2] at hR2
  refine same_go X Y A1 A2 n1 c1 m c2 w hrX hrY hc1 hc1m hc2 hc2m hn1 sz isz pat H2 pr H4 H5 (if out then addr else H4) (if out then H5 else addr) sr ds _ _ fl ki co i1 i2 i3 i4 i5 _ _ addr port out er ba (by omega) s6 ⟨s3, s4⟩ s5 t.1 t.2.2 t.2.1 hE hE2 hH ?_ (by rw [hH] at hR ⊢; exact hR) hR2 hfar hsum ?_ ?_ ?_ ?_ ?_ ?_ ?_ ?_ ?_ ?_
  · rw [hH2]; cases out <;> rfl
  · intro h; subst h; exact ⟨rfl, rfl⟩
  · intro h; subst h; exact ⟨rfl, rfl⟩
  · intro h h1; subst h h1; exact ⟨rfl, rfl⟩
  · intro h h1 h2; subst h h2; have : (pr == 1) = false := by simpa using h1
    simp [this]
  · intro h h1 h2; subst h h2; have : (pr == 1) = false := by simpa using h1
    simp [this]
  · intro h h1; subst h h1; exact ⟨rfl, rfl⟩
  · intro h h1; subst h h1; exact ⟨rfl, rfl⟩
  · intro h h1; subst h h1; simp
  · intro h h1 h2; subst h h2; have : (i3 == 1) = false := by simpa using h1
    simp [this]
  · intro h h1 h2; subst h h2; have : (i3 == 1) = false := by simpa using h1
    simp [this]
/- The walk of law 4's writes. -/
theorem Rd.newF (k : IntKind) (w : World) (t : TypeId) (fr : Nat × Nat) (l : List Int) (hr : ∀ x, x ∈ l → inr k x) (cs : Array Value) (hcs : cs = (l.map (Value.int k)).toArray) (n : Nat) (hn : l.length = n) :
    Rd k (w.alloc (.cells cs t fr)) (w.heap.size + 1) (some ⟨w.heap.size, 0, none⟩) n l := by
  subst hcs
  refine ⟨hn, hr, fun h0 => ⟨_, 0, rfl, by omega, fun j hj => ?_⟩⟩
  rw [cell_of_row _ _ _ _ _ _ (heap_alloc_new w _)]
  simp [List.getElem?_eq_getElem (show j < l.length by omega)]
theorem frame_rw {k : Nat} {s d a b f : Int} {l : List Int} (hs : 0 ≤ s ∧ s ≤ 4294967295) (hd : 0 ≤ d ∧ d ≤ 4294967295) (ha : 0 ≤ a ∧ a ≤ 65535) (hb : 0 ≤ b ∧ b ≤ 65535) (hl : Bytes8 l) (hn : l.length ≤ 40) :
    rwE (frameL k s d a b f l) = 0 ∧ getE (frameL k s d a b f l) = 0 ∧ hdOf (frameL k s d a b f l) = ⟨20, (frameL k s d a b f l).length, 64, carP k, s, d⟩ := by
  obtain ⟨h1, h2⟩ := frame_get (k := k) (s := s) (d := d) (a := a) (b := b) (f := f) (l := l) hs hd hn
  have e : hdIf (frameL k s d a b f l) 0 = hdOf (frameL k s d a b f l) := rfl
  rw [e] at h2
  refine ⟨?_, h1, h2⟩
  unfold rwE
  rw [if_neg (by simp [h1]), h2]
  exact frame_ok hs hd ha hb hl hn
end Go.Proofs.Ytgfjdnbejmmckaa
