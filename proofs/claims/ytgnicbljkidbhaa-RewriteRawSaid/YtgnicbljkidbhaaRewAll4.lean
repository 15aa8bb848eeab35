import Derived.Test.YtgnicbljkidbhaaRewSameO
import Derived.Test.YtgnicbljkidbhaaRewSameI
import Derived.Test.YtgnicbljkidbhaaRewAll3
import Derived.Test.YtgnicbljkidbhaaPart22
import Derived.Test.YtgnicbljkidbhaaRewAll2
import Derived.Lib.SlBytesConst
namespace Go.Proofs.Ytgnicbljkidbhaa
set_option linter.unusedVariables false
set_option linter.unusedSimpArgs false
open Go.RowKit
/- The walk of law 4's same. -/
theorem same_go (X Y : List Int) (A1 A2 : Option Addr) (n1 c1 m c2 : Nat) (w : World) (hrX : Rd .u8 w w.heap.size A1 n1 X) (hrY : Rd .u8 w w.heap.size A2 m Y) (hc1 : n1 ≤ c1) (hc1m : c1 ≤ 9223372036854775807) (hc2 : m ≤ c2) (hc2m : c2 ≤ 9223372036854775807) (hn1 : n1 ≤ 60000)
    (sz isz pat : Nat) (h2 h3 h4 h5 x4 x5 sr ds ys yd fl ki co i1 i2 i3 i4 i5 z4 z5 addr port : Int) (out er ba : Bool) (hm : m ≤ n1) (hm2 : m ≤ 1500) (hsz : 20 ≤ sz ∧ sz ≤ 60) (hszm : sz + 8 ≤ m) (hisz : isz ≤ 60) (hpi : er = true → pat + isz + 8 ≤ m ∧ 28 ≤ pat) (hpat : pat ≤ 1500)
    (hE : getE X = 0) (hE2 : getE Y = 0) (hH : hdOf X = ⟨sz, m, h2, h3, h4, h5⟩) (hH2 : hdOf Y = ⟨sz, m, h2, h3, x4, x5⟩) (hR : getR (hdOf X) X = (0, ⟨h3, sr, ds, fl, ki, co, er, ⟨isz, i1, i2, i3, i4, i5⟩, pat, ba⟩)) (hR2 : getR (hdOf Y) Y = (0, ⟨h3, ys, yd, fl, ki, co, er, ⟨isz, i1, i2, i3, z4, z5⟩, pat, ba⟩))
    (hfar : ∀ k : Nat, k < m → freeF ⟨sz, m, h2, h3, h4, h5⟩ ⟨h3, sr, ds, fl, ki, co, er, ⟨isz, i1, i2, i3, i4, i5⟩, pat, ba⟩ out k = 0 → Y.getD k 0 = X.getD k 0)
    (hsum : er = true → sumOf (seg Y pat isz) % 65535 = sumOf (seg X pat isz) % 65535)
    (hx4 : out = true → addr = x4 ∧ h5 = x5) (hx5 : out = false → h4 = x4 ∧ addr = x5)
    (hp1 : er = false → h3 = 1 → port = ys ∧ port = yd) (hp2 : er = false → h3 ≠ 1 → out = true → port = ys ∧ ds = yd) (hp3 : er = false → h3 ≠ 1 → out = false → sr = ys ∧ port = yd)
    (he1 : er = true → out = true → addr = z5 ∧ i4 = z4) (he2 : er = true → out = false → addr = z4 ∧ i5 = z5)
    (he3 : er = true → i3 = 1 → port = ys ∧ port = yd) (he4 : er = true → i3 ≠ 1 → out = true → sr = ys ∧ port = yd) (he5 : er = true → i3 ≠ 1 → out = false → port = ys ∧ ds = yd) :
    Calls Try.prog 13 #[.slice A1 n1 c1, .slice A2 m c2, .bool out, .int .u32 addr, .int .u16 port] w fun e w' => e = .returned (.bool true) ∧ Below w.heap.size w w' := by
  cases out
  · exact same_in X Y A1 A2 n1 c1 m c2 w hrX hrY hc1 hc1m hc2 hc2m hn1 sz isz pat h2 h3 h4 h5 x4 x5 sr ds ys yd fl ki co i1 i2 i3 i4 i5 z4 z5 addr port er ba hm hm2 hsz hszm hisz hpi hpat hE hE2 hH hH2 hR hR2 hfar hsum hx4 hx5 hp1 hp2 hp3 he1 he2 he3 he4 he5
  · exact same_out X Y A1 A2 n1 c1 m c2 w hrX hrY hc1 hc1m hc2 hc2m hn1 sz isz pat h2 h3 h4 h5 x4 x5 sr ds ys yd fl ki co i1 i2 i3 i4 i5 z4 z5 addr port er ba hm hm2 hsz hszm hisz hpi hpat hE hE2 hH hH2 hR hR2 hfar hsum hx4 hx5 hp1 hp2 hp3 he1 he2 he3 he4 he5
/- Rewrites told for all bytes; same at what a rewrite tells. -/
section
variable (out : Bool) (l : List Int) (A : Option Addr) (len c B : Nat) (addr port : Int) (w : World) (hr : Rd .u8 w B A len l) (hB : B ≤ w.heap.size) (hlc : len ≤ c) (hcm : c ≤ 9223372036854775807) (hl : len ≤ 60000) (ha : 0 ≤ addr ∧ addr ≤ 4294967295) (hport : 0 ≤ port ∧ port ≤ 65535)
include hr hB hlc hcm hl ha hport
theorem change_any : Calls Try.prog 20 #[.slice A len c, .bool out, .int .u32 addr, .int .u16 port] w (ChgR w (rwE l) (rwL l out addr port)) := by
  have h8 : Bytes8 l := fun x hx => inr_u8 (hr.rng x hx)
  by_cases h1 : getE l = 0
  · have eh : hdIf l 0 = hdOf l := rfl
    by_cases h2 : (getR (hdOf l) l).1 = 0
    · have e0 : rwE l = 0 := by unfold rwE; rw [if_neg (by simp [h1])]; exact h2
      obtain ⟨_, hR⟩ := rw_ok e0
      have hL : rwL l out addr port = chgW (l.take (hdOf l).len.toNat) (hdOf l) (getR (hdOf l) l).2 out addr port := by unfold rwL; rw [if_pos e0]
      rw [e0, hL]
      generalize (getR (hdOf l) l).2 = p at *
      obtain ⟨sz, m, s1, s2, s3, s4, s5, s6, s7, s8, s9, s10, _⟩ := got_pre h8 h1 hR
      rcases hH : hdOf l with ⟨H0, H1, H2, H3, H4, H5⟩
      simp only [hH] at s1 s2 s8 s9
      subst s1 s2
      obtain ⟨pr, sr, ds, fl, ki, co, er, ⟨i0, i1, i2, i3, i4, i5⟩, pa, ba⟩ := p
      refine change_ok out l A len c B addr port w hr hB hlc hcm hl sz m H2 H3 H4 H5 _ pr sr ds fl ki co i0 i1 i2 i3 i4 i5 pa er ba h1 (eh.trans hH) (by rw [eh]; rw [hH] at hR ⊢; exact hR) (by have := hr.len; omega) s6 s3 s5 (fun he => ?_) (Lib.hid rfl) ha hport
      obtain ⟨isz, pat, t1, t2, t3, t4, t5, t6, _⟩ := s10 he
      exact ⟨isz, pat, t1, t2, t3, t4, t6⟩
    · have e0 : rwE l = (getR (hdIf l 0) l).1 := by unfold rwE; rw [if_neg (by simp [h1]), eh]
      have hL : rwL l out addr port = [] := by unfold rwL; rw [if_neg (by rw [e0, eh]; exact h2)]
      rw [e0, hL]
      exact change_part out l A len c B addr port w hr hB hlc hcm hl h1 (by rw [eh]; exact h2)
  · have e0 : rwE l = getE l := by unfold rwE; rw [if_pos h1]
    have hL : rwL l out addr port = [] := by unfold rwL; rw [if_neg (by rw [e0]; exact h1)]
    rw [e0, hL]
    exact change_head out l A len c B addr port w hr hB hlc hcm hl h1
end
section
variable (l : List Int) (A : Option Addr) (len c B : Nat) (addr port : Int) (w : World) (hr : Rd .u8 w B A len l) (hB : B ≤ w.heap.size) (hlc : len ≤ c) (hcm : c ≤ 9223372036854775807) (hl : len ≤ 60000) (ha : 0 ≤ addr ∧ addr ≤ 4294967295) (hport : 0 ≤ port ∧ port ≤ 65535)
include hr hB hlc hcm hl ha hport
set_option maxRecDepth 100000 in
theorem RwOut_any : Calls Try.prog 9 #[.slice A len c, .int .u32 addr, .int .u16 port] w (ChgR w (rwE l) (rwL l true addr port)) := by
  have h := change_any true l A len c B addr port w hr hB hlc hcm hl ha hport
  generalize rwE l = E at *
  generalize rwL l true addr port = L at *
  replace h := Lib.hid h
  clear hr
  go_enter Try.func9, Try.ntmps9
  go_wp2_with fail
  refine h.out.mono ?_
  rintro e w1 ⟨⟨v, rfl, h1, h2⟩, hb⟩
  replace h1 := Lib.hid h1
  replace h2 := Lib.hid h2
  go_wp2
  go_ret2
  exact ⟨⟨_, rfl, h1.out, h2.out⟩, hb⟩
set_option maxRecDepth 100000 in
theorem RwIn_any : Calls Try.prog 12 #[.slice A len c, .int .u32 addr, .int .u16 port] w (ChgR w (rwE l) (rwL l false addr port)) := by
  have h := change_any false l A len c B addr port w hr hB hlc hcm hl ha hport
  generalize rwE l = E at *
  generalize rwL l false addr port = L at *
  replace h := Lib.hid h
  clear hr
  go_enter Try.func12, Try.ntmps12
  go_wp2_with fail
  refine h.out.mono ?_
  rintro e w1 ⟨⟨v, rfl, h1, h2⟩, hb⟩
  replace h1 := Lib.hid h1
  replace h2 := Lib.hid h2
  go_wp2
  go_ret2
  exact ⟨⟨_, rfl, h1.out, h2.out⟩, hb⟩
end
theorem same_yes (X Y : List Int) (A1 A2 : Option Addr) (n1 c1 m c2 : Nat) (w : World) (hrX : Rd .u8 w w.heap.size A1 n1 X) (hrY : Rd .u8 w w.heap.size A2 m Y) (hc1 : n1 ≤ c1) (hc1m : c1 ≤ 9223372036854775807) (hc2 : m ≤ c2) (hc2m : c2 ≤ 9223372036854775807) (hn1 : n1 ≤ 60000)
    (p : Pt) (out : Bool) (addr port : Int) (hE : getE X = 0) (hR : getR (hdOf X) X = (0, p)) (hA : Again X Y (hdOf X) p out addr port) :
    Calls Try.prog 13 #[.slice A1 n1 c1, .slice A2 m c2, .bool out, .int .u32 addr, .int .u16 port] w fun e w' => e = .returned (.bool true) ∧ Below w.heap.size w w' := by
  have h8 : Bytes8 X := fun x hx => inr_u8 (hrX.rng x hx)
  obtain ⟨sz, m', s1, s2, s3, s4, s5, s6, s7, s8, s9, s10, s11⟩ := got_pre h8 hE hR
  obtain ⟨hY8, hlen, hE2, hH2, hR2, hfar, hsum⟩ := hA
  obtain rfl : m = m' := by have := hrY.len; omega
  rw [hrY.len] at hfar
  rcases hH : hdOf X with ⟨H0, H1, H2, H3, H4, H5⟩
  rw [hH] at hH2 hfar
  rw [hH] at s1 s2 s8 s9
  simp only at s1 s2 s8 s9
  subst s1 s2
  have hn := hrX.len
  obtain ⟨pr, sr, ds, fl, ki, co, er, ⟨i0, i1, i2, i3, i4, i5⟩, pa, ba⟩ := p
  simp only at s8 s10 s11 hsum hfar
  subst s8
  obtain ⟨isz, pat, rfl, rfl, t⟩ : ∃ isz pat : Nat, i0 = isz ∧ pa = pat ∧ isz ≤ 60 ∧ pat ≤ 1500 ∧ (er = true → pat + isz + 8 ≤ m ∧ 28 ≤ pat) := by
    cases he : er with
    | true =>
      obtain ⟨isz, pat, t1, t2, t3, t4, t5, t6, _⟩ := s10 he
      exact ⟨isz, pat, t1, t2, t5, by omega, fun _ => ⟨t3, by omega⟩⟩
    | false =>
      obtain ⟨t1, t2⟩ := s11 he
      simp only [Hd.z, Hd.mk.injEq] at t1
      exact ⟨0, 0, t1.1, t2, by omega, by omega, fun h => by cases h⟩
  simp only [Int.toNat_natCast] at hsum
  have e2 : chP ⟨pr, sr, ds, fl, ki, co, er, ⟨isz, i1, i2, i3, i4, i5⟩, pat, ba⟩ out addr port =
      ⟨pr, if (if er = true then i3 == 1 else pr == 1) || (if er = true then !out else out) then port else sr, if (if er = true then i3 == 1 else pr == 1) || !(if er = true then !out else out) then port else ds, fl, ki, co, er,
        ⟨isz, i1, i2, i3, if er = true then (if out then i4 else addr) else i4, if er = true then (if out then addr else i5) else i5⟩, pat, ba⟩ := by
    unfold chP chPorts chH
    cases er <;> cases out <;> rfl
  rw [e2] at hR2
  refine same_go X Y A1 A2 n1 c1 m c2 w hrX hrY hc1 hc1m hc2 hc2m hn1 sz isz pat H2 pr H4 H5 (if out then addr else H4) (if out then H5 else addr) sr ds _ _ fl ki co i1 i2 i3 i4 i5 _ _ addr port out er ba (by omega) s6 ⟨s3, s4⟩ s5 t.1 t.2.2 t.2.1 hE hE2 hH ?_ (by rw [hH] at hR ⊢; exact hR) hR2 hfar hsum ?_ ?_ ?_ ?_ ?_ ?_ ?_ ?_ ?_ ?_
  · rw [hH2]; cases out <;> rfl
  · intro h; subst h; exact ⟨rfl, rfl⟩
  · intro h; subst h; exact ⟨rfl, rfl⟩
  · intro h h1; subst h h1; exact ⟨rfl, rfl⟩
  · intro h h1 h2; subst h h2; have : (pr == 1) = false := by simpa using h1
    simp [this]
  · intro h h1 h2; subst h h2; have : (pr == 1) = false := by simpa using h1
    simp [this]
  · intro h h1; subst h h1; exact ⟨rfl, rfl⟩
  · intro h h1; subst h h1; exact ⟨rfl, rfl⟩
  · intro h h1; subst h h1; simp
  · intro h h1 h2; subst h h2; have : (i3 == 1) = false := by simpa using h1
    simp [this]
  · intro h h1 h2; subst h h2; have : (i3 == 1) = false := by simpa using h1
    simp [this]
/- The walk of law 4's writes. -/
theorem Rd.newF (k : IntKind) (w : World) (t : TypeId) (fr : Nat × Nat) (l : List Int) (hr : ∀ x, x ∈ l → inr k x) (cs : Array Value) (hcs : cs = (l.map (Value.int k)).toArray) (n : Nat) (hn : l.length = n) :
    Rd k (w.alloc (.cells cs t fr)) (w.heap.size + 1) (some ⟨w.heap.size, 0, none⟩) n l := by
  subst hcs
  refine ⟨hn, hr, fun h0 => ⟨_, 0, rfl, by omega, fun j hj => ?_⟩⟩
  rw [cell_of_row _ _ _ _ _ _ (heap_alloc_new w _)]
  simp [List.getElem?_eq_getElem (show j < l.length by omega)]
theorem frame_rw {k : Nat} {s d a b f : Int} {l : List Int} (hs : 0 ≤ s ∧ s ≤ 4294967295) (hd : 0 ≤ d ∧ d ≤ 4294967295) (ha : 0 ≤ a ∧ a ≤ 65535) (hb : 0 ≤ b ∧ b ≤ 65535) (hl : Bytes8 l) (hn : l.length ≤ 40) :
    rwE (frameL k s d a b f l) = 0 ∧ getE (frameL k s d a b f l) = 0 ∧ hdOf (frameL k s d a b f l) = ⟨20, (frameL k s d a b f l).length, 64, carP k, s, d⟩ := by
  obtain ⟨h1, h2⟩ := frame_get (k := k) (s := s) (d := d) (a := a) (b := b) (f := f) (l := l) hs hd hn
  have e : hdIf (frameL k s d a b f l) 0 = hdOf (frameL k s d a b f l) := rfl
  rw [e] at h2
  refine ⟨?_, h1, h2⟩
  unfold rwE
  rw [if_neg (by simp [h1]), h2]
  exact frame_ok hs hd ha hb hl hn
set_option maxRecDepth 100000 in
set_option maxHeartbeats 4000000 in
theorem writes_any (w : World) : Calls Try.prog 10 #[] w fun e w' => e = .returned (.bool true) ∧ Below w.heap.size w w' := by
  have hl8 : Bytes8 ([104, 105] : List Int) := by intro x hx; simp at hx; omega
  obtain ⟨f1, f2, f3⟩ := frame_rw (k := 0) (s := 167772161) (d := 134744072) (a := 5) (b := 53) (f := 0) (l := [104, 105]) (by omega) (by omega) (by omega) (by omega) hl8 (by simp)
  have f4 := frame_got (k := 0) (s := 167772161) (d := 134744072) (a := 5) (b := 53) (f := 0) (l := [104, 105]) (by omega) (by omega) (by omega) (by omega) hl8 (by omega)
  obtain ⟨f5, f6⟩ := frame_bd (k := 0) (s := 167772161) (d := 134744072) (a := 5) (b := 53) (f := 0) (l := [104, 105]) (by simp)
  rw [← f3] at f4
  have hfr := fun W (hr : Rd .u8 W W.heap.size (some ⟨w.heap.size, 0, none⟩) 2 [104, 105]) => Frame_any 0 167772161 134744072 5 53 0 [104, 105] (some ⟨w.heap.size, 0, none⟩) 2 2 0 W hr (by omega) (by omega) (by omega) (by omega) (by omega) (by omega) (by decide) (by omega)
  have ht : ([104, 105] : List Int).take 40 = [104, 105] := rfl
  rw [ht] at hfr
  generalize frameL 0 167772161 134744072 5 53 0 [104, 105] = X at *
  obtain ⟨n, hn⟩ : ∃ n, X.length = n := ⟨_, rfl⟩
  rw [hn] at f3 f5 f6
  rw [show carP 0 = 17 from rfl] at f3
  have hY := fun (h8 : Bytes8 X) => rw_again h8 f1 true (a := 3221225985) (port := 4000) (by omega) (by omega)
  have hr2 : (getR (hdOf X) X).2 = gotP 0 5 53 0 := by rw [f4]
  rw [hr2] at hY
  rw [f3] at hY
  clear f4 hr2 ht hl8 f2 f3
  have hcv := Lib.run_convert_bytes_const (P := Try.prog) w 24 5 #[.int .u8 104, .int .u8 105] 2 2 Try.underlying24 Try.underlying5
  rw [show (#[Value.int .u8 104, Value.int .u8 105] : Array Value).size = 2 from rfl] at hcv
  have r1 := Rd.newF .u8 w 5 (2, 2 + 1) [104, 105] (fun x hx => by simp at hx; exact u8_inr (by omega)) #[.int .u8 104, .int .u8 105] rfl 2 rfl
  have bel := bel_alloc w (.cells #[.int .u8 104, .int .u8 105] 5 (2, 2 + 1))
  replace hfr := Lib.hid hfr
  replace hn := Lib.hid hn
  replace hY := Lib.hid hY
  replace f1 := Lib.hid f1
  go_enter Try.func10, Try.ntmps10
  go_wp2_with fail
  refine (hfr.out _ (r1.more (by simp))).mono ?_
  rintro e w1 ⟨v1, rfl, own1, bel1⟩
  replace own1 := own1.lower bel.size
  replace bel := bel_after bel bel1
  clear bel1 r1 hfr
  obtain ⟨g, c1, rfl, hc1, hc2, hg1, hg2⟩ := own1.formG hn.out (by omega)
  unfold maxLen at hc2
  have rd1 := own1.rd hn.out
  have h8 : Bytes8 X := fun x hx => inr_u8 (own1.rng x hx)
  obtain ⟨y8, ylen, yE, yH, yR, _, _⟩ := hY.out h8
  have hw := RwOut_any X (some ⟨g, 0, none⟩) n c1 _ 3221225985 4000 w1 rd1 (Nat.le_refl _) hc1 (by omega) (by omega) (by omega) (by omega)
  rw [f1.out] at hw
  generalize rwL X true 3221225985 4000 = Y at *
  have yl : Y.length = n := by simp only at ylen; omega
  have k1 := fun W (hr : Rd .u8 W W.heap.size (some ⟨g, 0, none⟩) n Y) => True.intro
  clear k1 hY h8 ylen
  replace yH : hdOf Y = ⟨20, n, 64, 17, 3221225985, 134744072⟩ := yH
  replace yR : getR (hdOf Y) Y = (0, ⟨17, 4000, 53, 0, 0, 0, false, ⟨0, 0, 0, 0, 0, 0⟩, 0, false⟩) := yR
  have k1 := fun (g2 c2 : Nat) W (hr : Rd .u8 W W.heap.size (some ⟨g2, 0, none⟩) n Y) (hc : n ≤ c2) (hm : c2 ≤ 9223372036854775807) => rGet_any Y false _ n c2 _ W hr (Nat.le_refl _) hc hm (by omega)
  have k2 := fun (g2 c2 : Nat) W (hr : Rd .u8 W W.heap.size (some ⟨g2, 0, none⟩) n Y) (hc : n ≤ c2) (hm : c2 ≤ 9223372036854775807) => rPGet_any (hdOf Y) Y _ n c2 _ W hr (Nat.le_refl _) hc hm (by omega) (by rw [yH]; simp) (by rw [yH]; simp)
  have e0 : getP Y false = 0 := yE
  have e1 : hdIf Y 0 = hdOf Y := rfl
  rw [e0, e1, yH] at k1
  rw [yR, yH] at k2
  simp only [Hd.val, Pt.val, Tells] at k1 k2
  clear e0 e1 yH yR yE
  replace k1 := Lib.hid k1
  replace k2 := Lib.hid k2
  replace hw := Lib.hid hw
  replace yl := Lib.hid yl
  go_wp2_with fail
  refine hw.out.mono ?_
  rintro e w2 ⟨⟨v2, rfl, o2, _⟩, bel2⟩
  replace o2 := o2 rfl
  obtain ⟨g2, c2, rfl, hd1, hd2, hg3, hg4⟩ := o2.formG yl.out (by omega)
  unfold maxLen at hd2
  replace bel := bel_after bel bel2
  clear hw bel2 own1 rd1
  go_wp2_with fail
  refine (k1.out _ _ _ (o2.rd yl.out) hd1 (by omega)).mono ?_
  rintro e w3 ⟨rfl, hb3⟩
  replace o2 := o2.below hb3
  replace bel := bel_after bel hb3
  clear hb3
  have hgl := (o2.lt g2 rfl).2
  have bh := (Blk.new w3 29 #[.int .i64 0, .int .i64 0, .int .i64 0, .int .i64 0, .int .u32 0, .int .u32 0]).setRow #[.int .i64 20, .int .i64 n, .int .i64 64, .int .i64 17, .int .u32 3221225985, .int .u32 134744072]
  replace o2 := (o2.alloc (.cells #[.int .i64 0, .int .i64 0, .int .i64 0, .int .i64 0, .int .u32 0, .int .u32 0] 29)).upd (Upd.row (w3.alloc (.cells #[.int .i64 0, .int .i64 0, .int .i64 0, .int .i64 0, .int .u32 0, .int .u32 0] 29)) w3.heap.size #[.int .i64 20, .int .i64 n, .int .i64 64, .int .i64 17, .int .u32 3221225985, .int .u32 134744072]) (by intro x hx e; simp [Value.ownBlock] at hx; omega)
  replace bel := below_setRow (bel.alloc bel.size (.cells #[.int .i64 0, .int .i64 0, .int .i64 0, .int .i64 0, .int .u32 0, .int .u32 0] 29)) bel.size #[.int .i64 20, .int .i64 n, .int .i64 64, .int .i64 17, .int .u32 3221225985, .int .u32 134744072]
  go_wp2_with (first
    | (refine wpList_stRow rfl rfl rfl rfl rfl (Blk.new w3 _ _) srhd_size rfl (by simp [Value.oneCell']) ?_; generalize (w3.alloc (.cells #[.int .i64 0, .int .i64 0, .int .i64 0, .int .i64 0, .int .u32 0, .int .u32 0] 29)).setRow w3.heap.size #[.int .i64 20, .int .i64 n, .int .i64 64, .int .i64 17, .int .u32 3221225985, .int .u32 134744072] = W3 at *; generalize w3.heap.size = gh at *)
    | (refine wpList_ldRow rfl rfl rfl bh Try.underlying29 srhd_size ?_))
  refine (k2.out _ _ _ (o2.rd yl.out) hd1 (by omega)).mono ?_
  rintro e w4 ⟨rfl, hb4⟩
  replace bh := bh.bel hb4
  replace bel := bel_after bel hb4
  clear hb4 o2
  have ll := bh.lt
  have bp := (Blk.new w4 33 #[.int .i64 0, .int .u16 0, .int .u16 0, .int .i64 0, .int .i64 0, .int .i64 0, .bool false, .int .i64 0, .int .i64 0, .int .i64 0, .int .i64 0, .int .u32 0, .int .u32 0, .int .i64 0, .bool false]).setRow #[.int .i64 17, .int .u16 4000, .int .u16 53, .int .i64 0, .int .i64 0, .int .i64 0, .bool false, .int .i64 0, .int .i64 0, .int .i64 0, .int .i64 0, .int .u32 0, .int .u32 0, .int .i64 0, .bool false]
  replace bh := (bh.alloc (.cells #[.int .i64 0, .int .u16 0, .int .u16 0, .int .i64 0, .int .i64 0, .int .i64 0, .bool false, .int .i64 0, .int .i64 0, .int .i64 0, .int .i64 0, .int .u32 0, .int .u32 0, .int .i64 0, .bool false] 33)).setRow_far (g' := w4.heap.size) (by omega) #[.int .i64 17, .int .u16 4000, .int .u16 53, .int .i64 0, .int .i64 0, .int .i64 0, .bool false, .int .i64 0, .int .i64 0, .int .i64 0, .int .i64 0, .int .u32 0, .int .u32 0, .int .i64 0, .bool false]
  replace bel := below_setRow (bel.alloc bel.size (.cells #[.int .i64 0, .int .u16 0, .int .u16 0, .int .i64 0, .int .i64 0, .int .i64 0, .bool false, .int .i64 0, .int .i64 0, .int .i64 0, .int .i64 0, .int .u32 0, .int .u32 0, .int .i64 0, .bool false] 33)) bel.size #[.int .i64 17, .int .u16 4000, .int .u16 53, .int .i64 0, .int .i64 0, .int .i64 0, .bool false, .int .i64 0, .int .i64 0, .int .i64 0, .int .i64 0, .int .u32 0, .int .u32 0, .int .i64 0, .bool false]
  go_upto_region 5 with (refine wpList_stRow rfl rfl rfl rfl rfl (Blk.new w4 _ _) srpt_size rfl (by simp [Value.oneCell']) ?_; generalize (w4.alloc (.cells #[.int .i64 0, .int .u16 0, .int .u16 0, .int .i64 0, .int .i64 0, .int .i64 0, .bool false, .int .i64 0, .int .i64 0, .int .i64 0, .int .i64 0, .int .u32 0, .int .u32 0, .int .i64 0, .bool false] 33)).setRow w4.heap.size #[.int .i64 17, .int .u16 4000, .int .u16 53, .int .i64 0, .int .i64 0, .int .i64 0, .bool false, .int .i64 0, .int .i64 0, .int .i64 0, .int .i64 0, .int .u32 0, .int .u32 0, .int .i64 0, .bool false] = W4 at *; generalize w4.heap.size = gp at *)
  have q4 := bh.cell 4
  have q5 := bh.cell 5
  have q1 := bp.cell 1
  have q2 := bp.cell 2
  go_wp2
  go_ret
  exact ⟨rfl, bel⟩
end Go.Proofs.Ytgnicbljkidbhaa
