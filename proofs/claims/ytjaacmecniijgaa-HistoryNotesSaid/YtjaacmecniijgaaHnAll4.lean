import Derived.Test.YtjaacmecniijgaaHnAll2
import Derived.Test.YtjaacmecniijgaaPart9
import Derived.Deep.DeepCutAuto
import Derived.Deep.CutBlock
import Derived.Test.YtjaacmecniijgaaPart25
import Derived.Test.YtjaacmecniijgaaHeadRef2
import Derived.Test.YtjaacmecniijgaaPart24
namespace Go.Proofs.Ytjaacmecniijgaa
set_option linter.unusedVariables false
set_option linter.unusedSimpArgs false
open Go.RowKit
/- Whose work a frame is, plain. -/
structure Fl where
  proto : Int
  addr : Int
  port : Int
def Fl.z : Fl := ⟨0, 0, 0⟩
/-- the far end of what was got -/
def farP (out : Bool) (h : Hd) (p : Pt) : Fl :=
  if p.err then (if out then ⟨p.inner.proto, p.inner.src, if p.inner.proto = 1 then 0 else p.src⟩ else ⟨p.inner.proto, p.inner.dst, if p.inner.proto = 1 then 0 else p.dst⟩)
  else if out then ⟨h.proto, h.dst, if h.proto = 1 then 0 else p.dst⟩ else ⟨h.proto, h.src, if h.proto = 1 then 0 else p.src⟩
def farR (out : Bool) (l : List Int) : Int × Fl :=
  if getE l ≠ 0 then (getE l, Fl.z) else if (getR (hdIf l 0) l).1 ≠ 0 then ((getR (hdIf l 0) l).1, Fl.z) else (0, farP out (hdIf l 0) (getR (hdIf l 0) l).2)
def hashN (f : Fl) : Int := f.proto % 65536 * 281474976710656 + f.addr * 65536 + f.port
def hashR (f : Fl) : Int := IntKind.u64.wrap (bits .xor .u64 (hashN f) (hashN f / 536870912) * 14029467366897019727) / 4294967296
def workR (k : Int) (out : Bool) (l : List Int) : Int := if (farR out l).1 ≠ 0 ∨ k < 1 then 0 else hashR (farR out l).2 % k
theorem hashR_bd (f : Fl) : 0 ≤ hashR f ∧ hashR f < 4294967296 := by
  unfold hashR; rw [IntKind.wrap_u64]; omega
theorem hashN_bd {f : Fl} (ha : 0 ≤ f.addr ∧ f.addr ≤ 4294967295) (hp : 0 ≤ f.port ∧ f.port ≤ 65535) : 0 ≤ hashN f ∧ hashN f < 18446744073709551616 := by
  unfold hashN; omega
theorem workR_one (out : Bool) (l : List Int) : workR 1 out l = 0 := by
  unfold workR; split
  · rfl
  · omega
theorem workR_none (k : Int) (out : Bool) (l : List Int) (h : k < 1) : workR k out l = 0 := by
  unfold workR; rw [if_pos (.inr h)]
theorem or_parts (x y : Int) (m : Nat) (hy : 0 ≤ y) (hy2 : y < (2 ^ m : Nat)) (hx : 0 ≤ x) (hx2 : x % (2 ^ m : Nat) = 0) (hs : x < 18446744073709551616) (hm : m ≤ 64) : bits .or .u64 x y = x + y := by
  have hp : (2 ^ m : Nat) ≤ 2 ^ 64 := Nat.pow_le_pow_right (by omega) hm
  obtain ⟨a, rfl⟩ : ∃ a : Nat, x = a := ⟨x.toNat, by omega⟩
  obtain ⟨b, rfl⟩ : ∃ b : Nat, y = b := ⟨y.toNat, by omega⟩
  have ha : a < 2 ^ 64 := by omega
  have hb : b < 2 ^ m := by omega
  have hc : a % 2 ^ m = 0 := by omega
  have hd : a = 2 ^ m * (a / 2 ^ m) := by have := Nat.div_add_mod a (2 ^ m); omega
  have h3 : a ||| b = a + b := by
    rw [hd, ← Nat.two_pow_add_eq_or_of_lt hb]
  have h4 : a + b < 2 ^ 64 := by
    rw [← h3]; exact Nat.or_lt_two_pow ha (Nat.lt_of_lt_of_le hb hp)
  show IntKind.u64.wrap ((BitVec.ofInt 64 (a : Int) ||| BitVec.ofInt 64 (b : Int)).toNat : Int) = _
  rw [BitVec.ofInt_natCast, BitVec.ofInt_natCast, BitVec.toNat_or, BitVec.toNat_ofNat, BitVec.toNat_ofNat, Nat.mod_eq_of_lt ha, Nat.mod_eq_of_lt (Nat.lt_of_lt_of_le hb hp), h3, IntKind.wrap_u64]
  omega
theorem hash_or {p a q : Int} (ha : 0 ≤ a ∧ a ≤ 4294967295) (hq : 0 ≤ q ∧ q ≤ 65535) : bits .or .u64 (bits .or .u64 (p % 65536 * 281474976710656) (a * 65536)) q = p % 65536 * 281474976710656 + a * 65536 + q := by
  have h1 : bits .or .u64 (p % 65536 * 281474976710656) (a * 65536) = p % 65536 * 281474976710656 + a * 65536 := or_parts _ _ 48 (by omega) (by omega) (by omega) (by omega) (by omega) (by omega)
  rw [h1]
  exact or_parts _ _ 16 (by omega) (by omega) (by omega) (by omega) (by omega) (by omega)
/- The walks of spread's functions and the document's: the hash. -/
theorem u64_shl48 (p : Int) : IntKind.u64.wrap (IntKind.u64.wrap p * 281474976710656) = p % 65536 * 281474976710656 := by
  rw [IntKind.wrap_u64, IntKind.wrap_u64]; omega
theorem hd_bds {l : List Int} (hl : ∀ x, x ∈ l → 0 ≤ x ∧ x ≤ 255) (h : getE l = 0) : (0 ≤ (hdIf l 0).src ∧ (hdIf l 0).src ≤ 4294967295) ∧ (0 ≤ (hdIf l 0).dst ∧ (hdIf l 0).dst ≤ 4294967295) := by
  have h20 : 20 ≤ l.length := by
    rcases Nat.lt_or_ge l.length 20 with hh | hh
    · exfalso
      unfold getE shapeE at h
      rw [if_pos hh] at h
      simp at h
    · exact hh
  unfold hdIf
  rw [if_pos rfl]
  exact ⟨n4_bd hl (by omega), n4_bd hl (by omega)⟩
def FarPost (w : World) (E p a q : Int) (e : Ending) (w' : World) : Prop := e = .returned (.tuple #[.agg #[.int .i64 p, .int .u32 a, .int .u16 q], .int .i64 E]) ∧ Below w.heap.size w w'
/- The walk of spread's Far, where the head is right. -/
/- The walks of the document's Hash and Far. -/
/- The walk of the document's Far, where all is right; whose work. -/
/- Whose work: bounds, the walks of Worker. -/
def B16 (x : Int) : Prop := 0 ≤ x ∧ x ≤ 65535
def B32 (x : Int) : Prop := 0 ≤ x ∧ x ≤ 4294967295
def PB (p : Pt) : Prop := B16 p.src ∧ B16 p.dst ∧ B32 p.inner.src ∧ B32 p.inner.dst
theorem b16z : B16 0 := ⟨by omega, by omega⟩
theorem b32z : B32 0 := ⟨by omega, by omega⟩
theorem PB.z : PB Pt.z := ⟨b16z, b16z, b32z, b32z⟩
theorem PB.ports {p : Pt} {l : List Int} {i j : Nat} (h : PB p) (hl : ∀ x, x ∈ l → 0 ≤ x ∧ x ≤ 255) (hi : i + 2 ≤ l.length) (hj : j + 2 ≤ l.length) : PB (portsP p l i j) :=
  ⟨n2_bd hl hi, n2_bd hl hj, h.2.2.1, h.2.2.2⟩
theorem udpR_bd {h : Hd} {x : List Int} (hl : ∀ y, y ∈ x → 0 ≤ y ∧ y ≤ 255) : PB (udpR h x).2 := by
  unfold udpR
  split
  · exact PB.z
  split
  · exact PB.z
  split
  · exact PB.z
  · exact PB.ports PB.z hl (by omega) (by omega)
theorem tcpR_bd {h : Hd} {x : List Int} (hl : ∀ y, y ∈ x → 0 ≤ y ∧ y ≤ 255) : PB (tcpR h x).2 := by
  unfold tcpR
  split
  · exact PB.z
  split
  · exact PB.z
  split
  · exact PB.z
  · exact PB.ports PB.z hl (by omega) (by omega)
theorem faultR_bd {p : Pt} {at_ : Int} {b : List Int} (hp : PB p) (hl : ∀ y, y ∈ b → 0 ≤ y ∧ y ≤ 255) : PB (faultR p at_ b).2 := by
  unfold faultR
  by_cases hz : partE b = 0
  · rw [if_neg (fun h => h hz)]
    have h20 : 20 ≤ b.length := by
      rcases Nat.lt_or_ge b.length 20 with hh | hh
      · exfalso
        unfold partE shapeE at hz
        rw [if_pos hh] at hz
        simp at hz
      · exact hh
    have hd0 := hl (b.getD 0 0) (by rw [List.getD_eq_getElem?_getD, List.getElem?_eq_getElem (by omega)]; exact List.getElem_mem _)
    have hsz : (hdOf b).size = b.getD 0 0 % 16 * 4 := rfl
    have hi : B32 (hdOf b).src := n4_bd hl (by omega)
    have hj : B32 (hdOf b).dst := n4_bd hl (by omega)
    split
    · exact PB.z
    · have hdl : 8 ≤ (b.drop (hdOf b).size.toNat).length := by rw [List.length_drop]; omega
      have hdb : ∀ y, y ∈ b.drop (hdOf b).size.toNat → 0 ≤ y ∧ y ≤ 255 := fun y hy => hl y (List.mem_of_mem_drop hy)
      split
      · exact PB.ports ⟨hp.1, hp.2.1, hi, hj⟩ hdb (by omega) (by omega)
      split
      · exact PB.ports ⟨hp.1, hp.2.1, hi, hj⟩ hdb (by omega) (by omega)
      · exact PB.z
  · rw [if_pos hz]; exact PB.z
theorem icmpR_bd {h : Hd} {x : List Int} (hl : ∀ y, y ∈ x → 0 ≤ y ∧ y ≤ 255) : PB (icmpR h x).2 := by
  unfold icmpR
  split
  · exact PB.z
  split
  · exact PB.z
  split
  · split
    · exact PB.z
    · exact PB.ports PB.z hl (by omega) (by omega)
  split
  · exact faultR_bd PB.z (fun y hy => hl y (List.mem_of_mem_drop hy))
  · exact PB.z
theorem getR_bd {h : Hd} {b : List Int} (hl : ∀ y, y ∈ b → 0 ≤ y ∧ y ≤ 255) : PB (getR h b).2 := by
  unfold getR
  split
  · exact PB.z
  split
  · exact udpR_bd (fun y hy => hl y (seg_mem hy))
  split
  · exact tcpR_bd (fun y hy => hl y (seg_mem hy))
  split
  · exact icmpR_bd (fun y hy => hl y (seg_mem hy))
  · exact PB.z
theorem b16_if {c : Prop} [Decidable c] {x : Int} (h : B16 x) : B16 (if c then 0 else x) := by
  split
  · exact b16z
  · exact h
theorem farR_bd (out : Bool) {l : List Int} (hl : ∀ y, y ∈ l → 0 ≤ y ∧ y ≤ 255) : B32 (farR out l).2.addr ∧ B16 (farR out l).2.port := by
  unfold farR
  by_cases hE : getE l = 0
  · rw [if_neg (fun h => h hE)]
    have hb := hd_bds hl hE
    have hp := getR_bd (h := hdIf l 0) hl
    split
    · exact ⟨b32z, b16z⟩
    · unfold farP
      split
      · split
        · exact ⟨hp.2.2.1, b16_if hp.1⟩
        · exact ⟨hp.2.2.2, b16_if hp.2.1⟩
      · split
        · exact ⟨hb.2, b16_if hp.2.1⟩
        · exact ⟨hb.1, b16_if hp.1⟩
  · rw [if_pos hE]
    exact ⟨b32z, b16z⟩
/- The walks of the laws' helpers: heads; of the reference's Fix. -/
theorem hd_ten : getE (putL 64 17 167772161 167772162 []) = 0 := by decide +kernel
theorem get_at (l : List Int) (A : Option Addr) (len c B : Nat) (w : World) (hr : Rd .u8 w B A len l) (hB : B ≤ w.heap.size) (hlc : len ≤ c) (hcm : c ≤ 9223372036854775807) (hl : len ≤ 100000) (y0 y1 y2 y3 y4 y5 E : Int) (hE : getE l = E) (hy : hdIf l E = ⟨y0, y1, y2, y3, y4, y5⟩) :
    Calls Try.prog 35 #[.slice A len c] w fun e w' => e = .returned (.tuple #[.agg #[.int .i64 y0, .int .i64 y1, .int .i64 y2, .int .i64 y3, .int .u32 y4, .int .u32 y5], .int .i64 E]) ∧ Below w.heap.size w w' := by
  have := Get_any l A len c B w hr hB hlc hcm hl
  rw [hE, hy] at this; exact this
theorem part_at (l : List Int) (A : Option Addr) (len c B : Nat) (w : World) (hr : Rd .u8 w B A len l) (hB : B ≤ w.heap.size) (hlc : len ≤ c) (hcm : c ≤ 9223372036854775807) (y0 y1 y2 y3 y4 y5 E : Int) (hE : partE l = E) (hy : hdIf l E = ⟨y0, y1, y2, y3, y4, y5⟩) :
    Calls Try.prog 69 #[.slice A len c] w fun e w' => e = .returned (.tuple #[.agg #[.int .i64 y0, .int .i64 y1, .int .i64 y2, .int .i64 y3, .int .u32 y4, .int .u32 y5], .int .i64 E]) ∧ Below w.heap.size w w' := by
  have := Part_any l A len c B w hr hB hlc hcm
  rw [hE, hy] at this; exact this
theorem rget_at (l : List Int) (p : Bool) (A : Option Addr) (len c B : Nat) (w : World) (hr : Rd .u8 w B A len l) (hB : B ≤ w.heap.size) (hlc : len ≤ c) (hcm : c ≤ 9223372036854775807) (hl : len ≤ 100000) (y0 y1 y2 y3 y4 y5 E : Int) (hE : getP l p = E) (hy : hdIf l E = ⟨y0, y1, y2, y3, y4, y5⟩) :
    Calls Try.prog 30 #[.slice A len c, .bool p] w fun e w' => e = .returned (.tuple #[.agg #[.int .i64 y0, .int .i64 y1, .int .i64 y2, .int .i64 y3, .int .u32 y4, .int .u32 y5], .int .i64 E]) ∧ Below w.heap.size w w' := by
  have := rGet_any l p A len c B w hr hB hlc hcm hl
  rw [hE, hy] at this; exact this
/- The walk of the reference's Fix. -/
def fixN (l : List Int) : Nat := if l.getD 0 0 % 16 * 4 < 20 ∨ (l.length : Int) < l.getD 0 0 % 16 * 4 then 20 else (l.getD 0 0 % 16 * 4).toNat
def fixZ (l : List Int) : List Int := (l.set 10 0).set 11 0
def fixL (l : List Int) : List Int := ((fixZ l).set 10 (sumOf ((fixZ l).take (fixN l)) / 256)).set 11 (sumOf ((fixZ l).take (fixN l)) % 256)
theorem fixL_len (l : List Int) : (fixL l).length = l.length := by simp [fixL, fixZ]
def FixRes (w : World) (l : List Int) (e : Ending) (w' : World) : Prop := ∃ v', e = .returned v' ∧ Own .u8 5 w' w.heap.size v' l ∧ Below w.heap.size w w'
set_option maxRecDepth 100000 in
set_option maxHeartbeats 4000000 in
theorem rFix_any (l : List Int) (A : Option Addr) (len c B : Nat) (w : World) (hr : Rd .u8 w B A len l) (hB : B ≤ w.heap.size) (h20 : 20 ≤ len) (hl : len ≤ 100000) :
    Calls Try.prog 31 #[.slice A len c] w (FixRes w (fixL l)) := by
  obtain ⟨i0, hi, hz0, hz1, hz2⟩ := info_parts info_u8_
  have hr2 := ((hr.more hB).alloc (Nat.le_refl _) (.cells #[] 5)).more (Nat.le_succ _)
  have hlen := hr.len
  have own0 := Own.new .u8 w 5 w.heap.size (Nat.le_refl _) [] (by simp) #[] rfl 0 rfl (by simp)
  have hcs : (l.getD 0 0 % 16 * 4 < 20 ∧ fixN l = 20) ∨ (20 ≤ l.getD 0 0 % 16 * 4 ∧ (len : Int) < l.getD 0 0 % 16 * 4 ∧ fixN l = 20) ∨ (20 ≤ l.getD 0 0 % 16 * 4 ∧ l.getD 0 0 % 16 * 4 ≤ len ∧ ((fixN l : Nat) : Int) = l.getD 0 0 % 16 * 4) := by
    unfold fixN; rw [hlen]
    by_cases h1 : l.getD 0 0 % 16 * 4 < 20
    · rw [if_pos (.inl h1)]; exact .inl ⟨h1, rfl⟩
    · by_cases h2 : (len : Int) < l.getD 0 0 % 16 * 4
      · rw [if_pos (.inr h2)]; exact .inr (.inl ⟨by omega, h2, rfl⟩)
      · rw [if_neg (by omega)]; exact .inr (.inr ⟨by omega, by omega, by omega⟩)
  have hk20 : 20 ≤ fixN l ∧ fixN l ≤ len := by omega
  have hX : Hid (fixL l = ((fixZ l).set 10 (sumOf ((fixZ l).take (fixN l)) / 256)).set 11 (sumOf ((fixZ l).take (fixN l)) % 256)) := rfl
  have hZ : Hid (fixZ l = (l.set 10 0).set 11 0) := rfl
  generalize fixL l = X at *
  generalize fixN l = k at *
  generalize fixZ l = Z at *
  have hZl : Hid (Z.length = len) := Lib.hid (by rw [hZ.out]; simp [hlen])
  have hsb : 0 ≤ sumOf (Z.take k) ∧ sumOf (Z.take k) ≤ 65535 := by
    refine sumOf_bd fun x hx => ?_
    have := List.mem_of_mem_take hx
    rw [hZ.out] at this
    rcases List.mem_or_eq_of_mem_set this with h | h
    · rcases List.mem_or_eq_of_mem_set h with h | h
      · exact inr_u8 (hr.rng x h)
      · omega
    · omega
  obtain ⟨S, hS⟩ : ∃ S, S = sumOf (Z.take k) := ⟨_, rfl⟩
  rw [← hS] at hX hsb
  have hof := fun W' A' c' B' h => rOf_any (Z.take k) A' k c' B' W' (by omega) h
  rw [← hS] at hof
  replace hof := Lib.hid hof
  have hSw : IntKind.u8.wrap S = S % 256 := IntKind.wrap_u8' S
  replace hSw := Lib.hid hSw
  clear hS
  replace hlen := Lib.hid hlen
  obtain ⟨f0, hf0⟩ : ∃ f, f = l.getD 0 0 := ⟨_, rfl⟩
  rw [← hf0] at hcs
  have x0 : 0 ≤ f0 ∧ f0 ≤ 255 := by rw [hf0]; exact inr_u8 (hr.at_ (j := 0) (by omega)).choose_spec.choose_spec.2.2.2
  replace hf0 := Lib.hid hf0
  have hkc : k ≤ len := hk20.2
  have hkI : (0 : Int) ≤ (k : Int) := by omega
  rcases hcs with ⟨h1, rfl⟩ | ⟨h1, h2, rfl⟩ | ⟨h1, h2, h3⟩
  · go_enter Try.func31, Try.ntmps31
    go_wp2_with (at_builtin; refine wpList_app _ rfl (.tmp 6) (.tmp 7) 24 rfl .u8 w.heap.size 5 i0 (.int .u8 0) 1 Try.underlying24 hi hz0 hz1 hz2 rfl (.slice (some ⟨w.heap.size, 0, none⟩) 0 0) rfl [] own0 (w.heap.size + 1) _ _ _ rfl l hr2 (by simp; omega) (by decide) (by simp) ?_; intro v1 w1 own1 hg1 _; rw [List.nil_append] at own1; obtain ⟨g, c1, rfl, hc1, hc2, hgb, hgw⟩ := own1.formG hlen.out (by omega); have bel1 : Below w.heap.size w w1 := ((Below.refl _ _).alloc (Nat.le_refl _) _).grown hg1 (by simp) (fun k h => by simp [Value.ownBlock] at h; omega); clear hg1; obtain ⟨k0, _, _⟩ := own1.at_ hlen.out (j := 0) (by omega); obtain ⟨k10, z10, _⟩ := own1.at_ hlen.out (j := 10) (by omega); obtain ⟨k11, z11, _⟩ := own1.at_ hlen.out (j := 11) (by omega); rw [← hf0.out] at k0; unfold maxLen at hc2; have hkc1 : 20 ≤ c1 := (by omega))
    have own2 := (own1.set hlen.out 10 (x := 0) (u8_inr (by omega))).set (by rw [List.length_set]; exact hlen.out) 11 (x := 0) (u8_inr (by omega))
    rw [← hZ.out] at own2
    have rd2 := own2.rd hZl.out
    have bel2 : Below w.heap.size w ((w1.setCell ⟨g, 10, none⟩ (.int .u8 0)).setCell ⟨g, 11, none⟩ (.int .u8 0)) := (bel1.setCell (p := ⟨g, 10, none⟩) hgb _).setCell (p := ⟨g, 11, none⟩) hgb _
    refine (hof.out _ _ _ _ (rd2.take hkc)).mono ?_
    rintro e w' ⟨rfl, rfl⟩
    have own3 := (own2.set hZl.out 10 (x := S / 256) (u8_inr (by omega))).set (by rw [List.length_set]; exact hZl.out) 11 (x := S % 256) (u8_inr (by omega))
    rw [← hX.out] at own3
    replace hSw := hSw.out
    go_wp2
    go_ret
    refine ⟨_, rfl, ?_, ?_⟩
    · exact own3
    · exact (bel2.setCell (p := ⟨g, 10, none⟩) hgb _).setCell (p := ⟨g, 11, none⟩) hgb _
  · go_enter Try.func31, Try.ntmps31
    go_wp2_with (at_builtin; refine wpList_app _ rfl (.tmp 6) (.tmp 7) 24 rfl .u8 w.heap.size 5 i0 (.int .u8 0) 1 Try.underlying24 hi hz0 hz1 hz2 rfl (.slice (some ⟨w.heap.size, 0, none⟩) 0 0) rfl [] own0 (w.heap.size + 1) _ _ _ rfl l hr2 (by simp; omega) (by decide) (by simp) ?_; intro v1 w1 own1 hg1 _; rw [List.nil_append] at own1; obtain ⟨g, c1, rfl, hc1, hc2, hgb, hgw⟩ := own1.formG hlen.out (by omega); have bel1 : Below w.heap.size w w1 := ((Below.refl _ _).alloc (Nat.le_refl _) _).grown hg1 (by simp) (fun k h => by simp [Value.ownBlock] at h; omega); clear hg1; obtain ⟨k0, _, _⟩ := own1.at_ hlen.out (j := 0) (by omega); obtain ⟨k10, z10, _⟩ := own1.at_ hlen.out (j := 10) (by omega); obtain ⟨k11, z11, _⟩ := own1.at_ hlen.out (j := 11) (by omega); rw [← hf0.out] at k0; unfold maxLen at hc2; have hkc1 : 20 ≤ c1 := (by omega))
    have own2 := (own1.set hlen.out 10 (x := 0) (u8_inr (by omega))).set (by rw [List.length_set]; exact hlen.out) 11 (x := 0) (u8_inr (by omega))
    rw [← hZ.out] at own2
    have rd2 := own2.rd hZl.out
    have bel2 : Below w.heap.size w ((w1.setCell ⟨g, 10, none⟩ (.int .u8 0)).setCell ⟨g, 11, none⟩ (.int .u8 0)) := (bel1.setCell (p := ⟨g, 10, none⟩) hgb _).setCell (p := ⟨g, 11, none⟩) hgb _
    refine (hof.out _ _ _ _ (rd2.take hkc)).mono ?_
    rintro e w' ⟨rfl, rfl⟩
    have own3 := (own2.set hZl.out 10 (x := S / 256) (u8_inr (by omega))).set (by rw [List.length_set]; exact hZl.out) 11 (x := S % 256) (u8_inr (by omega))
    rw [← hX.out] at own3
    replace hSw := hSw.out
    go_wp2
    go_ret
    refine ⟨_, rfl, ?_, ?_⟩
    · exact own3
    · exact (bel2.setCell (p := ⟨g, 10, none⟩) hgb _).setCell (p := ⟨g, 11, none⟩) hgb _
  · replace h3 := h3.symm
    go_enter Try.func31, Try.ntmps31
    go_wp2_with (at_builtin; refine wpList_app _ rfl (.tmp 6) (.tmp 7) 24 rfl .u8 w.heap.size 5 i0 (.int .u8 0) 1 Try.underlying24 hi hz0 hz1 hz2 rfl (.slice (some ⟨w.heap.size, 0, none⟩) 0 0) rfl [] own0 (w.heap.size + 1) _ _ _ rfl l hr2 (by simp; omega) (by decide) (by simp) ?_; intro v1 w1 own1 hg1 _; rw [List.nil_append] at own1; obtain ⟨g, c1, rfl, hc1, hc2, hgb, hgw⟩ := own1.formG hlen.out (by omega); have bel1 : Below w.heap.size w w1 := ((Below.refl _ _).alloc (Nat.le_refl _) _).grown hg1 (by simp) (fun k h => by simp [Value.ownBlock] at h; omega); clear hg1; obtain ⟨k0, _, _⟩ := own1.at_ hlen.out (j := 0) (by omega); obtain ⟨k10, z10, _⟩ := own1.at_ hlen.out (j := 10) (by omega); obtain ⟨k11, z11, _⟩ := own1.at_ hlen.out (j := 11) (by omega); rw [← hf0.out] at k0; unfold maxLen at hc2; have hkc1 : k ≤ c1 := (by omega))
    have own2 := (own1.set hlen.out 10 (x := 0) (u8_inr (by omega))).set (by rw [List.length_set]; exact hlen.out) 11 (x := 0) (u8_inr (by omega))
    rw [← hZ.out] at own2
    have rd2 := own2.rd hZl.out
    have bel2 : Below w.heap.size w ((w1.setCell ⟨g, 10, none⟩ (.int .u8 0)).setCell ⟨g, 11, none⟩ (.int .u8 0)) := (bel1.setCell (p := ⟨g, 10, none⟩) hgb _).setCell (p := ⟨g, 11, none⟩) hgb _
    refine (hof.out _ _ _ _ (rd2.take hkc)).mono ?_
    rintro e w' ⟨rfl, rfl⟩
    have own3 := (own2.set hZl.out 10 (x := S / 256) (u8_inr (by omega))).set (by rw [List.length_set]; exact hZl.out) 11 (x := S % 256) (u8_inr (by omega))
    rw [← hX.out] at own3
    replace hSw := hSw.out
    go_wp2
    go_ret
    refine ⟨_, rfl, ?_, ?_⟩
    · exact own3
    · exact (bel2.setCell (p := ⟨g, 10, none⟩) hgb _).setCell (p := ⟨g, 11, none⟩) hgb _
/- What packets carry, plain: what is laid is got; one bit turned; another sum; errors about errors. -/
def Cl (l : List Int) : Prop := ∃ q : Int, 0 < q ∧ sb true l = 65535 * q
theorem Cl.zero {l : List Int} (h : Cl l) : sumOf l = 0 := by obtain ⟨q, h1, h2⟩ := h; exact sumOf_null l q h1 h2
theorem Cl.turn {l : List Int} (h : Cl l) (hl : ∀ x, x ∈ l → 0 ≤ x ∧ x ≤ 255) (j m : Nat) (hj : j < l.length) (hm : m < 8) : sumOf (l.set j (flip (l.getD j 0).toNat m : Nat)) ≠ 0 := by
  obtain ⟨q, _, h2⟩ := h; exact flip_sum l q j m hj hm hl h2
theorem cl_of (l l0 : List Int) (h0 : 0 ≤ sb true l0) (h : sb true l = sb true l0 + sumOf l0) : Cl l := by
  unfold sumOf at h
  unfold Cl
  rw [h]
  generalize sb true l0 = A at *
  by_cases hA : A = 0
  · subst hA; exact ⟨1, by omega, by decide⟩
  · have : fo A = (A - 1) % 65535 + 1 := by unfold fo; rw [if_neg hA]
    rw [this]; exact ⟨(A - 1) / 65535 + 1, by omega, by omega⟩
theorem cl_nev (l l0 : List Int) (h0 : 0 ≤ sb true l0) (h : sb true l = sb true l0 + nev (sumOf l0)) : Cl l := by
  unfold nev at h
  by_cases hz : sumOf l0 = 0
  · rw [if_pos hz] at h
    unfold Cl
    rw [h]
    unfold sumOf at hz
    generalize sb true l0 = A at *
    by_cases hA : A = 0
    · subst hA; exact absurd hz (by decide)
    · have : fo A = (A - 1) % 65535 + 1 := by unfold fo; rw [if_neg hA]
      rw [this] at hz; exact ⟨(A - 1) / 65535 + 2, by omega, by omega⟩
  · rw [if_neg hz] at h
    exact cl_of l l0 h0 h
theorem udpB_sb (a b : Int) (l : List Int) (S : Int) : sb true (udpB a b l S) = sb true (udpB a b l 0) + S := by
  simp only [udpB, be2, List.cons_append, List.nil_append, sb]; omega
theorem tcpB_sb (a b f : Int) (l : List Int) (S : Int) : sb true (tcpB a b f l S) = sb true (tcpB a b f l 0) + S := by
  simp only [tcpB, be2, List.cons_append, List.nil_append, sb]; omega
theorem echoB_sb (k a : Int) (l : List Int) (S : Int) : sb true (echoB k a l S) = sb true (echoB k a l 0) + S := by
  simp only [echoB, be2, List.cons_append, List.nil_append, sb]; omega
theorem faultB_sb (k c : Int) (l : List Int) (S : Int) : sb true (faultB k c l S) = sb true (faultB k c l 0) + S := by
  simp only [faultB, be2, List.cons_append, List.nil_append, sb]; omega
def Bytes8 (l : List Int) : Prop := ∀ x, x ∈ l → 0 ≤ x ∧ x ≤ 255
theorem b8 {l : List Int} (h : ∀ x, x ∈ l → 0 ≤ x ∧ x ≤ 255) : Bytes8 l := h
theorem Bytes8.app {a b : List Int} (ha : Bytes8 a) (hb : Bytes8 b) : Bytes8 (a ++ b) := fun x hx => (List.mem_append.1 hx).elim (ha x) (hb x)
theorem Bytes8.take {a : List Int} (ha : Bytes8 a) (n : Nat) : Bytes8 (a.take n) := fun x hx => ha x (List.mem_of_mem_take hx)
theorem udpB_bd {a b : Int} {l : List Int} {S : Int} (ha : 0 ≤ a ∧ a ≤ 65535) (hb : 0 ≤ b ∧ b ≤ 65535) (hl : Bytes8 l) (hn : l.length ≤ 65527) (hS : 0 ≤ S ∧ S ≤ 65535) : Bytes8 (udpB a b l S) :=
  ((((b8 (be2_bd a ha)).app (be2_bd b hb)).app (be2_bd _ (by omega))).app (be2_bd S hS)).app hl
theorem tcpB_bd {a b f : Int} {l : List Int} {S : Int} (ha : 0 ≤ a ∧ a ≤ 65535) (hb : 0 ≤ b ∧ b ≤ 65535) (hl : Bytes8 l) (hS : 0 ≤ S ∧ S ≤ 65535) : Bytes8 (tcpB a b f l S) :=
  (((((b8 (be2_bd a ha)).app (be2_bd b hb)).app (fun x hx => by simp at hx; omega)).app (be2_bd S hS)).app (fun x hx => by simp at hx; omega)).app hl
theorem echoB_bd {k a : Int} {l : List Int} {S : Int} (hk : 0 ≤ k ∧ k ≤ 255) (ha : 0 ≤ a ∧ a ≤ 65535) (hl : Bytes8 l) (hS : 0 ≤ S ∧ S ≤ 65535) : Bytes8 (echoB k a l S) :=
  (((Bytes8.app (fun x hx => by simp at hx; omega) (be2_bd S hS)).app (be2_bd a ha)).app (fun x hx => by simp at hx; omega)).app hl
theorem faultB_bd {k c : Int} {l : List Int} {S : Int} (hl : Bytes8 l) (hS : 0 ≤ S ∧ S ≤ 65535) : Bytes8 (faultB k c l S) :=
  ((Bytes8.app (fun x hx => by simp at hx; omega) (be2_bd S hS)).app (fun x hx => by simp at hx; omega)).app hl
theorem few_len (l : List Int) : (fewL l).length ≤ 1400 := by unfold fewL; rw [List.length_take]; omega
theorem few_bd {l : List Int} (h : Bytes8 l) : Bytes8 (fewL l) := h.take _
theorem nev_bd {s : Int} (h : 0 ≤ s ∧ s ≤ 65535) : 0 ≤ nev s ∧ nev s ≤ 65535 ∧ nev s ≠ 0 := by unfold nev; split <;> omega
section
variable {s d a b : Int} {l : List Int} (hs : 0 ≤ s ∧ s ≤ 4294967295) (hd : 0 ≤ d ∧ d ≤ 4294967295) (ha : 0 ≤ a ∧ a ≤ 65535) (hb : 0 ≤ b ∧ b ≤ 65535) (hl : Bytes8 l)
include hs hd ha hb hl
theorem udp_sum : 0 ≤ csum s d 17 (udpB a b (fewL l) 0) ∧ csum s d 17 (udpB a b (fewL l) 0) ≤ 65535 := by
  have hf := few_len l
  exact csum_bd hs hd (by omega) (by rw [udpB_len]; omega) (udpB_bd ha hb (few_bd hl) (by omega) (by omega))
theorem tcp_sum (f : Int) : 0 ≤ csum s d 6 (tcpB a b f (fewL l) 0) ∧ csum s d 6 (tcpB a b f (fewL l) 0) ≤ 65535 := by
  have hf := few_len l
  exact csum_bd hs hd (by omega) (by rw [tcpB_len]; omega) (tcpB_bd ha hb (few_bd hl) (by omega))
theorem udpL_bd : Bytes8 (udpL s d a b l) := by
  have h := nev_bd (udp_sum hs hd ha hb hl)
  have hf := few_len l
  exact udpB_bd ha hb (few_bd hl) (by omega) ⟨h.1, h.2.1⟩
theorem tcpL_bd (f : Int) : Bytes8 (tcpL s d a b f l) := tcpB_bd ha hb (few_bd hl) (tcp_sum hs hd ha hb hl f)
theorem udp_cl (S : Int) (hS : S = nev (csum s d 17 (udpB a b (fewL l) 0))) : Cl (ph s d 17 (udpB a b (fewL l) S).length ++ udpB a b (fewL l) S) := by
  have hf := few_len l
  refine cl_nev _ (ph s d 17 (udpB a b (fewL l) 0).length ++ udpB a b (fewL l) 0) (sb_bd _ (Bytes8.app (ph_bd hs hd (by omega) (by rw [udpB_len]; omega)) (udpB_bd ha hb (few_bd hl) (by omega) (by omega))) true).1 ?_
  rw [sb_app _ _ (by rw [ph_len]), sb_app _ _ (by rw [ph_len]), udpB_len, udpB_len, udpB_sb, hS]
  unfold csum
  rw [udpB_len]
  omega
theorem tcp_cl (f S : Int) (hS : S = csum s d 6 (tcpB a b f (fewL l) 0)) : Cl (ph s d 6 (tcpB a b f (fewL l) S).length ++ tcpB a b f (fewL l) S) := by
  have hf := few_len l
  refine cl_of _ (ph s d 6 (tcpB a b f (fewL l) 0).length ++ tcpB a b f (fewL l) 0) (sb_bd _ (Bytes8.app (ph_bd hs hd (by omega) (by rw [tcpB_len]; omega)) (tcpB_bd ha hb (few_bd hl) (by omega))) true).1 ?_
  rw [sb_app _ _ (by rw [ph_len]), sb_app _ _ (by rw [ph_len]), tcpB_len, tcpB_len, tcpB_sb, hS]
  unfold csum
  rw [tcpB_len]
  omega
end
section
variable {k a c : Int} {l : List Int} (hl : Bytes8 l)
include hl
theorem echo_sum (hk : 0 ≤ k ∧ k ≤ 255) (ha : 0 ≤ a ∧ a ≤ 65535) : 0 ≤ sumOf (echoB k a (fewL l) 0) ∧ sumOf (echoB k a (fewL l) 0) ≤ 65535 := sumOf_bd (echoB_bd hk ha (few_bd hl) (by omega))
theorem fault_sum : 0 ≤ sumOf (faultB k c (fewL l) 0) ∧ sumOf (faultB k c (fewL l) 0) ≤ 65535 := sumOf_bd (faultB_bd (few_bd hl) (by omega))
theorem echoL_bd (r : Bool) (ha : 0 ≤ a ∧ a ≤ 65535) : Bytes8 (echoL r a l) := by
  have hk : 0 ≤ (if r then (0 : Int) else 8) ∧ (if r then (0 : Int) else 8) ≤ 255 := by cases r <;> decide
  exact echoB_bd hk ha (few_bd hl) (echo_sum hl hk ha)
theorem faultL_bd : Bytes8 (faultL k c l) := faultB_bd (few_bd hl) (fault_sum hl)
theorem echo_cl (hk : 0 ≤ k ∧ k ≤ 255) (ha : 0 ≤ a ∧ a ≤ 65535) : Cl (echoB k a (fewL l) (sumOf (echoB k a (fewL l) 0))) :=
  cl_of _ (echoB k a (fewL l) 0) (sb_bd _ (echoB_bd hk ha (few_bd hl) (by omega)) true).1 (echoB_sb _ _ _ _)
theorem fault_cl : Cl (faultL k c l) :=
  cl_of _ (faultB k c (fewL l) 0) (sb_bd _ (faultB_bd (few_bd hl) (by omega)) true).1 (faultB_sb _ _ _ _)
end
theorem put_bd {t p s d : Int} {l : List Int} (ht : 0 ≤ t ∧ t ≤ 255) (hp : 0 ≤ p ∧ p ≤ 255) (hs : 0 ≤ s ∧ s ≤ 4294967295) (hd : 0 ≤ d ∧ d ≤ 4294967295) (hl : Bytes8 l) (hn : l.length ≤ 65515) : Bytes8 (putL t p s d l) :=
  Bytes8.app (hd_bd t p s d (20 + l.length) _ ht hp hs hd (by omega) (sumOf_bd (hd_bd t p s d (20 + l.length) 0 ht hp hs hd (by omega) (by omega)))) hl
theorem csum_turn {s d p : Int} {x : List Int} (hc : Cl (ph s d p x.length ++ x)) (hb : Bytes8 (ph s d p x.length)) (hx : Bytes8 x) (j m : Nat) (hj : j < x.length) (hm : m < 8) : csum s d p (x.set j (flip (x.getD j 0).toNat m : Nat)) ≠ 0 := by
  have h := hc.turn (hb.app hx) (12 + j) m (by rw [List.length_append, ph_len]; omega) hm
  have e1 : (ph s d p x.length ++ x).getD (12 + j) 0 = x.getD j 0 := by
    rw [List.getD_eq_getElem?_getD, List.getElem?_append_right (by rw [ph_len]; omega), ph_len, List.getD_eq_getElem?_getD]; congr 2; omega
  rw [e1, List.set_append, ph_len, if_neg (by omega)] at h
  unfold csum
  rw [List.length_set]
  have e2 : 12 + j - 12 = j := by omega
  rw [e2] at h
  exact h
/-- what comes of a packet -/
theorem seg_put (t p s d : Int) (x : List Int) : seg (putL t p s d x) 20 x.length = x := by
  unfold seg putL
  generalize sumOf (hd20 t p s d (20 + (x.length : Int)) 0) = S
  have hl : (hd20 t p s d (20 + (x.length : Int)) S).length = 20 := rfl
  rw [List.drop_left' hl, List.take_length]
def getX (p : Int) (h : Hd) (x : List Int) : PR := if p = 17 then udpR h x else if p = 6 then tcpR h x else if p = 1 then icmpR h x else (6, Pt.z)
theorem getR_put (t p s d : Int) (x : List Int) (h : Hd) (hh : h = ⟨20, 20 + x.length, t, p, s, d⟩) : getR h (putL t p s d x) = getX p h x := by
  have e1 : h.size = 20 := by rw [hh]
  have e2 : h.len = 20 + x.length := by rw [hh]
  have e3 : h.proto = p := by rw [hh]
  have e4 : (20 + (x.length : Int) - 20).toNat = x.length := by omega
  unfold getR
  rw [if_neg (by rw [e1, e2, put_len]; omega), e1, e2, e3, e4, show (20 : Int).toNat = 20 from rfl, seg_put]
  rfl
def Bad (r : PR) : Prop := (r.1 ≠ 0 ∧ r.2 = Pt.z) ∨ (r.1 = 0 ∧ r.2.proto = 17 ∧ r.2.bare = true)
theorem udp_bad {h : Hd} {x : List Int} (hl : 8 ≤ x.length) (hc : csum h.src h.dst 17 x ≠ 0) : Bad (udpR h x) := by
  unfold udpR
  rw [if_neg (by omega)]
  by_cases h4 : n2 x 4 = x.length
  · rw [if_neg (by omega)]
    by_cases h6 : n2 x 6 = 0
    · rw [if_neg (fun e => e.1 h6)]; exact .inr ⟨rfl, rfl, by simpa [portsP] using h6⟩
    · rw [if_pos ⟨h6, hc⟩]; exact .inl ⟨by decide, rfl⟩
  · rw [if_pos h4]; exact .inl ⟨by decide, rfl⟩
theorem tcp_bad {h : Hd} {x : List Int} (hl : 20 ≤ x.length) (hc : csum h.src h.dst 6 x ≠ 0) : (tcpR h x).1 ≠ 0 ∧ (tcpR h x).2 = Pt.z := by
  unfold tcpR
  rw [if_neg (by omega)]
  rw [if_pos hc]
  split <;> exact ⟨by decide, rfl⟩
theorem icmp_bad {h : Hd} {x : List Int} (hl : 8 ≤ x.length) (hc : sumOf x ≠ 0) : icmpR h x = (4, Pt.z) := by
  unfold icmpR
  rw [if_neg (by omega), if_pos hc]
/-- what is laid is got -/
theorem udp_got {h : Hd} {a b S : Int} {l : List Int} (ha : 0 ≤ a ∧ a ≤ 65535) (hb : 0 ≤ b ∧ b ≤ 65535) (hS : 0 ≤ S ∧ S ≤ 65535) (hn : l.length ≤ 65527) (hc : S ≠ 0 → csum h.src h.dst 17 (udpB a b l S) = 0) :
    udpR h (udpB a b l S) = (0, { Pt.z with proto := 17, src := a, dst := b, bare := decide (S = 0) }) := by
  have hl := udpB_len a b l S
  have e0 : n2 (udpB a b l S) 0 = a := by rw [n2_eq _ _ (by omega)]; show a / 256 * 256 + a % 256 = a; omega
  have e2 : n2 (udpB a b l S) 2 = b := by rw [n2_eq _ _ (by omega)]; show b / 256 * 256 + b % 256 = b; omega
  have e4 : n2 (udpB a b l S) 4 = 8 + l.length := by rw [n2_eq _ _ (by omega)]; show (8 + (l.length : Int)) / 256 * 256 + (8 + (l.length : Int)) % 256 = _; omega
  have e6 : n2 (udpB a b l S) 6 = S := by rw [n2_eq _ _ (by omega)]; show S / 256 * 256 + S % 256 = S; omega
  unfold udpR
  rw [if_neg (by omega), e4, if_neg (by rw [hl]; omega), e6, if_neg (fun e => e.2 (hc e.1))]
  unfold portsP
  rw [e0, e2]
theorem tcp_got {h : Hd} {a b f S : Int} {l : List Int} (ha : 0 ≤ a ∧ a ≤ 65535) (hb : 0 ≤ b ∧ b ≤ 65535) (hc : csum h.src h.dst 6 (tcpB a b f l S) = 0) :
    tcpR h (tcpB a b f l S) = (0, { Pt.z with proto := 6, src := a, dst := b, flags := f % 256 }) := by
  have hl := tcpB_len a b f l S
  have e0 : n2 (tcpB a b f l S) 0 = a := by rw [n2_eq _ _ (by omega)]; show a / 256 * 256 + a % 256 = a; omega
  have e2 : n2 (tcpB a b f l S) 2 = b := by rw [n2_eq _ _ (by omega)]; show b / 256 * 256 + b % 256 = b; omega
  have e12 : (tcpB a b f l S).getD 12 0 = 80 := rfl
  have e13 : (tcpB a b f l S).getD 13 0 = f % 256 := rfl
  unfold tcpR
  rw [if_neg (by omega), e12, if_neg (by omega), if_neg (fun e => e hc)]
  unfold portsP
  rw [e0, e2, e13]
theorem echo_got {h : Hd} {k a S : Int} {l : List Int} (ha : 0 ≤ a ∧ a ≤ 65535) (hk : k = 0 ∨ k = 8) (hc : sumOf (echoB k a l S) = 0) :
    icmpR h (echoB k a l S) = (0, { Pt.z with proto := 1, kind := k, code := 0, src := a, dst := a }) := by
  have hl := echoB_len k a l S
  have e4 : n2 (echoB k a l S) 4 = a := by rw [n2_eq _ _ (by omega)]; show a / 256 * 256 + a % 256 = a; omega
  have e0 : (echoB k a l S).getD 0 0 = k := rfl
  have e1 : (echoB k a l S).getD 1 0 = 0 := rfl
  unfold icmpR
  rw [if_neg (by omega), if_neg (fun e => e hc), e0, if_pos hk, e1, if_neg (by decide)]
  unfold portsP
  rw [e4]
theorem fault_to {h : Hd} {k c : Int} {l : List Int} (hk : k = 3 ∨ k = 11) (hb : Bytes8 l) (hl : l.length ≤ 1400) :
    icmpR h (faultL k c l) = faultR { Pt.z with proto := 1, kind := k, code := c % 256 } (h.size + 8) l := by
  have hn := faultL_len k c l
  have hz : sumOf (faultL k c l) = 0 := (fault_cl hb).zero
  have e0 : (faultL k c l).getD 0 0 = k := by show k % 256 = k; omega
  have e1 : (faultL k c l).getD 1 0 = c % 256 := rfl
  have e8 : (faultL k c l).drop 8 = fewL l := rfl
  unfold icmpR
  rw [if_neg (by omega), if_neg (fun e => e hz), e0, if_neg (by omega), if_pos (by omega), e1, e8, few_short hl]
/-- an error, about what -/
theorem about_to {P0 : Pt} {at_ : Int} {t p s d n S : Int} {r : List Int} (hr : 8 ≤ r.length) (hn : 28 ≤ n ∧ n ≤ 65535) (hs : 0 ≤ s ∧ s ≤ 4294967295) (hd : 0 ≤ d ∧ d ≤ 4294967295) :
    faultR P0 at_ (hd20 t p s d n S ++ r) = (if p = 17 ∨ p = 6 then (0, portsP { P0 with err := true, inner := ⟨20, n, t, p, s, d⟩, pat := at_ } r 0 2) else
      if p = 1 ∧ (r.getD 0 0 = 0 ∨ r.getD 0 0 = 8) then (0, portsP { P0 with err := true, inner := ⟨20, n, t, p, s, d⟩, pat := at_ } r 4 4) else (6, Pt.z)) := by
  have hz : partE (hd20 t p s d n S ++ r) = 0 := by
    unfold partE
    rw [hd_shape _ _ _ _ _ _ _ 65535 (by omega) (by omega), if_neg (by decide), hd_whole]
  have hh := hd_hd t p s d n S r hs hd
  have hdr : (hd20 t p s d n S ++ r).drop 20 = r := List.drop_left' rfl
  unfold faultR
  rw [if_neg (fun e => e hz), hh, hd_len]
  dsimp only
  rw [if_neg (by omega), show (20 : Int).toNat = 20 from rfl, hdr]
/- What is sent, plain: it is got; with one bit turned it isn't; another sum; errors about it. -/
def gotP (k : Nat) (a b f : Int) : Pt :=
  if k = 0 then { Pt.z with proto := 17, src := a, dst := b } else if k = 1 then { Pt.z with proto := 6, src := a, dst := b, flags := f % 256 } else
  { Pt.z with proto := 1, kind := if k = 2 then 8 else 0, src := a, dst := a }
theorem wrong_sum {h : Hd} {a b S T : Int} {l : List Int} (hS : 0 ≤ S ∧ S ≤ 65535) (hT : 0 < T ∧ T ≤ 65535) (hne : T ≠ S) (hS0 : S ≠ 0) (hn : l.length ≤ 65527) (hb : Bytes8 (ph h.src h.dst 17 (8 + l.length) ++ udpB a b l T))
    (hc : Cl (ph h.src h.dst 17 (udpB a b l S).length ++ udpB a b l S)) : (udpR h (udpB a b l T)).1 ≠ 0 := by
  have hl := udpB_len a b l T
  have e6 : n2 (udpB a b l T) 6 = T := by rw [n2_eq _ _ (by omega)]; show T / 256 * 256 + T % 256 = T; omega
  have hcs : csum h.src h.dst 17 (udpB a b l T) ≠ 0 := by
    obtain ⟨q, hq, h1⟩ := hc
    unfold csum
    refine sumOf_not _ q (T - S) ?_ ?_ (by omega)
    · rw [hl]; exact (sb_bd _ hb true).1
    · rw [← h1, sb_app _ _ (by rw [ph_len]), sb_app _ _ (by rw [ph_len]), udpB_len, udpB_len, udpB_sb, udpB_sb a b l S]; omega
  unfold udpR
  split
  · decide
  split
  · decide
  rw [if_pos ⟨by rw [e6]; omega, hcs⟩]; decide
theorem bad_of {r : PR} (h : r = (4, Pt.z)) : Bad r := by rw [h]; exact .inl ⟨by decide, rfl⟩
section
variable {s d a b f : Int} {l : List Int} {h : Hd} (hs : 0 ≤ s ∧ s ≤ 4294967295) (hd : 0 ≤ d ∧ d ≤ 4294967295) (ha : 0 ≤ a ∧ a ≤ 65535) (hb : 0 ≤ b ∧ b ≤ 65535) (hl : Bytes8 l) (h1 : h.src = s) (h2 : h.dst = d)
include hs hd ha hb hl h1 h2
theorem udpL_got : udpR h (udpL s d a b l) = (0, gotP 0 a b f) := by
  have hf := few_len l
  have hn := nev_bd (udp_sum hs hd ha hb hl)
  have hc := udp_cl hs hd ha hb hl _ rfl
  unfold udpL
  rw [udp_got ha hb ⟨hn.1, hn.2.1⟩ (by omega) (fun _ => by rw [h1, h2]; exact hc.zero)]
  rw [decide_eq_false hn.2.2]
  rfl
theorem tcpL_got : tcpR h (tcpL s d a b f l) = (0, gotP 1 a b f) := by
  have hc := tcp_cl hs hd ha hb hl f _ rfl
  unfold tcpL
  rw [tcp_got ha hb (by rw [h1, h2]; exact hc.zero)]
  rfl
omit hs hd hb h1 h2 in
theorem echoL_got (r : Bool) : icmpR h (echoL r a l) = (0, gotP (if r then 3 else 2) a b f) := by
  have hk : 0 ≤ (if r then (0 : Int) else 8) ∧ (if r then (0 : Int) else 8) ≤ 255 := by cases r <;> decide
  have hc := echo_cl hl hk ha
  unfold echoL
  rw [echo_got ha (by cases r <;> simp) hc.zero]
  cases r <;> rfl
theorem car_got (k : Nat) (hk : k < 4) : getX (carP k) h (carL k s d a b f l) = (0, gotP k a b f) := by
  have hk' : k = 0 ∨ k = 1 ∨ k = 2 ∨ k = 3 := by omega
  rcases hk' with rfl | rfl | rfl | rfl
  · exact udpL_got hs hd ha hb hl h1 h2
  · exact tcpL_got hs hd ha hb hl h1 h2
  · exact echoL_got (b := b) (f := f) (h := h) ha hl false
  · exact echoL_got (b := b) (f := f) (h := h) ha hl true
omit h1 h2 in
theorem car_bd (k : Nat) (hk : k < 4) : Bytes8 (carL k s d a b f l) := by
  have hk' : k = 0 ∨ k = 1 ∨ k = 2 ∨ k = 3 := by omega
  rcases hk' with rfl | rfl | rfl | rfl
  · exact udpL_bd hs hd ha hb hl
  · exact tcpL_bd hs hd ha hb hl f
  · exact echoL_bd hl false ha
  · exact echoL_bd hl true ha
theorem car_bit (k : Nat) (hk : k < 4) (j m : Nat) (hj : j < (carL k s d a b f l).length) (hm : m < 8) : Bad (getX (carP k) h ((carL k s d a b f l).set j (flip ((carL k s d a b f l).getD j 0).toNat m : Nat))) := by
  have hx := car_bd (f := f) hs hd ha hb hl k hk
  have hf := few_len l
  have hk' : k = 0 ∨ k = 1 ∨ k = 2 ∨ k = 3 := by omega
  rcases hk' with rfl | rfl | rfl | rfl
  · have hc : Cl (ph s d 17 (udpL s d a b l).length ++ udpL s d a b l) := udp_cl hs hd ha hb hl _ rfl
    have := csum_turn hc (ph_bd hs hd (by omega) (by rw [udpL_len]; omega)) (udpL_bd hs hd ha hb hl) j m hj hm
    exact udp_bad (by rw [List.length_set]; show 8 ≤ (udpL s d a b l).length; rw [udpL_len]; omega) (by rw [h1, h2]; exact this)
  · have hc : Cl (ph s d 6 (tcpL s d a b f l).length ++ tcpL s d a b f l) := tcp_cl hs hd ha hb hl f _ rfl
    have := csum_turn hc (ph_bd hs hd (by omega) (by rw [tcpL_len]; omega)) (tcpL_bd hs hd ha hb hl f) j m hj hm
    exact .inl (tcp_bad (by rw [List.length_set]; show 20 ≤ (tcpL s d a b f l).length; rw [tcpL_len]; omega) (by rw [h1, h2]; exact this))
  · have hc : Cl (echoL false a l) := echo_cl hl (by decide) ha
    have := hc.turn hx j m hj hm
    have h3 := icmp_bad (h := h) (by rw [List.length_set]; show 8 ≤ (echoL false a l).length; rw [echoL_len]; omega) this
    exact bad_of h3
  · have hc : Cl (echoL true a l) := echo_cl hl (by decide) ha
    have := hc.turn hx j m hj hm
    have h3 := icmp_bad (h := h) (by rw [List.length_set]; show 8 ≤ (echoL true a l).length; rw [echoL_len]; omega) this
    exact bad_of h3
omit hs hd ha hb hl h1 h2 in
/-- the ports stand where an error's reader looks for them -/
theorem car_ports (k : Nat) (hk : k < 4) : (k < 2 → n2 (carL k s d a b f l) 0 = a ∧ n2 (carL k s d a b f l) 2 = b) ∧ (2 ≤ k → n2 (carL k s d a b f l) 4 = a ∧ ((carL k s d a b f l).getD 0 0 = 0 ∨ (carL k s d a b f l).getD 0 0 = 8)) := by
  have hk' : k = 0 ∨ k = 1 ∨ k = 2 ∨ k = 3 := by omega
  rcases hk' with rfl | rfl | rfl | rfl
  · refine ⟨fun _ => ⟨?_, ?_⟩, fun h => absurd h (by omega)⟩
    · rw [n2_eq _ _ (by show 0 + 2 ≤ (udpL s d a b l).length; rw [udpL_len]; omega)]; show a / 256 * 256 + a % 256 = a; omega
    · rw [n2_eq _ _ (by show 2 + 2 ≤ (udpL s d a b l).length; rw [udpL_len]; omega)]; show b / 256 * 256 + b % 256 = b; omega
  · refine ⟨fun _ => ⟨?_, ?_⟩, fun h => absurd h (by omega)⟩
    · rw [n2_eq _ _ (by show 0 + 2 ≤ (tcpL s d a b f l).length; rw [tcpL_len]; omega)]; show a / 256 * 256 + a % 256 = a; omega
    · rw [n2_eq _ _ (by show 2 + 2 ≤ (tcpL s d a b f l).length; rw [tcpL_len]; omega)]; show b / 256 * 256 + b % 256 = b; omega
  · refine ⟨fun h => absurd h (by omega), fun _ => ⟨?_, ?_⟩⟩
    · rw [n2_eq _ _ (by show 4 + 2 ≤ (echoL false a l).length; rw [echoL_len]; omega)]; show a / 256 * 256 + a % 256 = a; omega
    · exact .inr rfl
  · refine ⟨fun h => absurd h (by omega), fun _ => ⟨?_, ?_⟩⟩
    · rw [n2_eq _ _ (by show 4 + 2 ≤ (echoL true a l).length; rw [echoL_len]; omega)]; show a / 256 * 256 + a % 256 = a; omega
    · exact .inl rfl
theorem car_ok (k : Nat) (hn : l.length ≤ 40) : (getX (carP k) h (carL k s d a b f l)).1 = 0 := by
  have hf : fewL l = l := few_short (by omega)
  by_cases hk : k < 4
  · rw [car_got hs hd ha hb hl h1 h2 k hk]
  by_cases h4 : k = 4
  · subst h4
    have hX := put_bd (t := 9) (p := 17) (by omega) (by omega) hd hs (udpL_bd hd hs hb ha hl) (by rw [udpL_len, hf]; omega)
    show (icmpR h (faultL 3 (f.tmod 16) (putL 9 17 d s (udpL d s b a l)))).1 = 0
    rw [fault_to (.inl rfl) hX (by rw [put_len, udpL_len, hf]; omega), put_eq, about_to (by rw [udpL_len]; omega) (by rw [udpL_len, hf]; omega) hd hs, if_pos (.inl rfl)]
  by_cases h5 : k = 5
  · subst h5
    have hX := put_bd (t := 9) (p := 6) (by omega) (by omega) hd hs (tcpL_bd hd hs hb ha hl 2) (by rw [tcpL_len, hf]; omega)
    show (icmpR h (faultL 11 0 ((putL 9 6 d s (tcpL d s b a 2 l)).take (28 + l.length / 2)))).1 = 0
    rw [fault_to (.inr rfl) (hX.take _) (by rw [List.length_take]; omega), put_eq, show 28 + l.length / 2 = 20 + (8 + l.length / 2) by omega, hd_take, about_to (by rw [List.length_take, tcpL_len]; omega) (by rw [tcpL_len, hf]; omega) hd hs, if_pos (.inr rfl)]
  · have hX := put_bd (t := 9) (p := 1) (by omega) (by omega) hd hs (echoL_bd hl false hb) (by rw [echoL_len, hf]; omega)
    have e1 : carP k = 1 := by unfold carP; rw [if_neg (by omega), if_neg (by omega)]
    have e2 : carL k s d a b f l = faultL 3 1 (putL 9 1 d s (echoL false b l)) := by unfold carL; rw [if_neg (by omega), if_neg (by omega), if_neg (by omega), if_neg (by omega), if_neg h4, if_neg h5]
    rw [e1, e2]
    show (icmpR h (faultL 3 1 (putL 9 1 d s (echoL false b l)))).1 = 0
    rw [fault_to (.inl rfl) hX (by rw [put_len, echoL_len, hf]; omega), put_eq, about_to (by rw [echoL_len]; omega) (by rw [echoL_len, hf]; omega) hd hs, if_neg (by omega), if_pos ⟨rfl, .inr rfl⟩]
end
/-- errors about what is sent -/
theorem car_deep {s d a b f : Int} {l : List Int} {h : Hd} (hs : 0 ≤ s ∧ s ≤ 4294967295) (hd : 0 ≤ d ∧ d ≤ 4294967295) (k : Nat) (hk : 4 ≤ k) (hn : l.length ≤ 40) (hX : Bytes8 (frameL k s d a b f l)) : icmpR h (faultL 3 1 (frameL k s d a b f l)) = (6, Pt.z) := by
  have hc := carL_len k s d a b f l hn
  have e1 : carP k = 1 := by unfold carP; rw [if_neg (by omega), if_neg (by omega)]
  have e2 : (carL k s d a b f l).getD 0 0 = 3 ∨ (carL k s d a b f l).getD 0 0 = 11 := by
    unfold carL
    rw [if_neg (by omega), if_neg (by omega), if_neg (by omega), if_neg (by omega)]
    split
    · exact .inl rfl
    split
    · exact .inr rfl
    · exact .inl rfl
  rw [fault_to (.inl rfl) hX (by unfold frameL; rw [put_len]; omega)]
  unfold frameL
  rw [put_eq, about_to (by omega) (by omega) hs hd, e1, if_neg (by omega), if_neg (by omega)]
theorem car_nest {s d a b f : Int} {l : List Int} {h : Hd} (hs : 0 ≤ s ∧ s ≤ 4294967295) (hd : 0 ≤ d ∧ d ≤ 4294967295) (ha : 0 ≤ a ∧ a ≤ 65535) (hb : 0 ≤ b ∧ b ≤ 65535) (hl : Bytes8 l) (hz : h.size = 20) (k : Nat) (hk : k < 4) (hn : l.length ≤ 40) :
    ∃ p : Pt, icmpR h (faultL 3 1 (frameL k s d a b f l)) = (0, p) ∧ p.err = true ∧ p.pat = 28 ∧ p.src = (gotP k a b f).src ∧ p.dst = (gotP k a b f).dst ∧ p.inner = ⟨20, 20 + (carL k s d a b f l).length, 64, carP k, s, d⟩ := by
  have hc := carL_len k s d a b f l hn
  have hP := carP_bd k
  have hx := car_bd (f := f) hs hd ha hb hl k hk
  have hX : Bytes8 (frameL k s d a b f l) := put_bd (by omega) hP hs hd hx (by omega)
  have hp := car_ports (s := s) (d := d) (a := a) (b := b) (f := f) (l := l) k hk
  rw [fault_to (.inl rfl) hX (by unfold frameL; rw [put_len]; omega)]
  unfold frameL
  rw [put_eq, about_to (by omega) (by omega) hs hd, hz]
  by_cases h2 : k < 2
  · have hc2 : carP k = 17 ∨ carP k = 6 := by
      have : k = 0 ∨ k = 1 := by omega
      rcases this with rfl | rfl
      · exact .inl rfl
      · exact .inr rfl
    rw [if_pos hc2]
    refine ⟨_, rfl, rfl, rfl, ?_, ?_, rfl⟩
    · show n2 (carL k s d a b f l) 0 = _
      rw [(hp.1 h2).1]; unfold gotP; split
      · rfl
      · rw [if_pos (by omega)]
    · show n2 (carL k s d a b f l) 2 = _
      rw [(hp.1 h2).2]; unfold gotP; split
      · rfl
      · rw [if_pos (by omega)]
  · have hc2 : carP k = 1 := by unfold carP; rw [if_neg (by omega), if_neg (by omega)]
    rw [if_neg (by omega), if_pos ⟨hc2, (hp.2 (by omega)).2⟩]
    refine ⟨_, rfl, rfl, rfl, ?_, ?_, rfl⟩
    · show n2 (carL k s d a b f l) 4 = _
      rw [(hp.2 (by omega)).1]; unfold gotP; rw [if_neg (by omega), if_neg (by omega)]
    · show n2 (carL k s d a b f l) 4 = _
      rw [(hp.2 (by omega)).1]; unfold gotP; rw [if_neg (by omega), if_neg (by omega)]
/- Frames, plain. -/
theorem modk (k : Nat) (h : k < 7) : (IntKind.u64.wrap (k : Int)).tmod 7 = (k : Int) := by
  have : k = 0 ∨ k = 1 ∨ k = 2 ∨ k = 3 ∨ k = 4 ∨ k = 5 ∨ k = 6 := by omega
  rcases this with rfl | rfl | rfl | rfl | rfl | rfl | rfl <;> rfl
section
variable {k : Nat} {s d a b f : Int} {l : List Int} (hs : 0 ≤ s ∧ s ≤ 4294967295) (hd : 0 ≤ d ∧ d ≤ 4294967295) (ha : 0 ≤ a ∧ a ≤ 65535) (hb : 0 ≤ b ∧ b ≤ 65535) (hl : Bytes8 l) (hn : l.length ≤ 40)
theorem frame_len : (frameL k s d a b f l).length = 20 + (carL k s d a b f l).length := put_len
include hn in
theorem frame_bd : 28 ≤ (frameL k s d a b f l).length ∧ (frameL k s d a b f l).length ≤ 130 := by
  have := carL_len k s d a b f l hn
  rw [frame_len]; omega
include hs hd hn in
theorem frame_get : getE (frameL k s d a b f l) = 0 ∧ hdIf (frameL k s d a b f l) 0 = ⟨20, (frameL k s d a b f l).length, 64, carP k, s, d⟩ := by
  have hc := carL_len k s d a b f l hn
  have := frame_head (P := carP k) (s := s) (d := d) (l := carL k s d a b f l) (carP_bd k) hs hd (by omega)
  unfold frameL
  rw [put_len]
  push_cast
  exact this
theorem getR_frame (h : Hd) (hh : h = ⟨20, (frameL k s d a b f l).length, 64, carP k, s, d⟩) : getR h (frameL k s d a b f l) = getX (carP k) h (carL k s d a b f l) :=
  getR_put 64 (carP k) s d _ h (by rw [hh, frame_len]; push_cast; rfl)
include hs hd ha hb hl hn
theorem frame_ok : (getR ⟨20, (frameL k s d a b f l).length, 64, carP k, s, d⟩ (frameL k s d a b f l)).1 = 0 := by
  rw [getR_frame _ rfl]
  exact car_ok hs hd ha hb hl rfl rfl k hn
omit hn in
theorem frame_got (hk : k < 4) : getR ⟨20, (frameL k s d a b f l).length, 64, carP k, s, d⟩ (frameL k s d a b f l) = (0, gotP k a b f) := by
  rw [getR_frame _ rfl]
  exact car_got hs hd ha hb hl rfl rfl k hk
omit hn in
theorem frame_bit (hk : k < 4) (j m : Nat) (hj1 : 20 ≤ j) (hj : j < (frameL k s d a b f l).length) (hm : m < 8) :
    Bad (getR ⟨20, (frameL k s d a b f l).length, 64, carP k, s, d⟩ ((frameL k s d a b f l).set j (flip ((frameL k s d a b f l).getD j 0).toNat m : Nat))) := by
  rw [frame_len] at hj
  obtain ⟨i, rfl⟩ : ∃ i, j = 20 + i := ⟨j - 20, by omega⟩
  have hg : (frameL k s d a b f l).getD (20 + i) 0 = (carL k s d a b f l).getD i 0 := by
    unfold frameL putL
    rw [List.getD_eq_getElem?_getD, List.getElem?_append_right (by show 20 ≤ 20 + i; omega), List.getD_eq_getElem?_getD]
    congr 2
    show 20 + i - 20 = i
    omega
  rw [hg, frame_len]
  unfold frameL
  rw [putL_set]
  rw [getR_put 64 (carP k) s d _ ⟨20, ((20 + (carL k s d a b f l).length : Nat) : Int), 64, carP k, s, d⟩ (by rw [List.length_set]; push_cast; rfl)]
  exact car_bit hs hd ha hb hl rfl rfl k hk i m (by omega) hm
end
section
variable {s d a b f : Int} {l : List Int} (hs : 0 ≤ s ∧ s ≤ 4294967295) (hd : 0 ≤ d ∧ d ≤ 4294967295) (ha : 0 ≤ a ∧ a ≤ 65535) (hb : 0 ≤ b ∧ b ≤ 65535) (hl : Bytes8 l) (hn : l.length ≤ 40)
include hs hd ha hb hl hn
/-- a datagram's frame, its sum another one -/
theorem frame_sum : ∃ S : Int, 0 < S ∧ S ≤ 65535 ∧ (frameL 0 s d a b f l).getD 26 0 = S / 256 ∧ (frameL 0 s d a b f l).getD 27 0 = S % 256 ∧
    ∀ T, 0 ≤ T ∧ T ≤ 65535 →
      (T = 0 ∨ T = S → getR ⟨20, (frameL 0 s d a b f l).length, 64, 17, s, d⟩ (((frameL 0 s d a b f l).set 26 (T / 256)).set 27 (T % 256)) = (0, { Pt.z with proto := 17, src := a, dst := b, bare := decide (T = 0) })) ∧
      (T ≠ 0 → T ≠ S → (getR ⟨20, (frameL 0 s d a b f l).length, 64, 17, s, d⟩ (((frameL 0 s d a b f l).set 26 (T / 256)).set 27 (T % 256))).1 ≠ 0) := by
  have hf : fewL l = l := few_short (by omega)
  have hS := nev_bd (udp_sum hs hd ha hb hl)
  have hc := udp_cl hs hd ha hb hl _ rfl
  have e : frameL 0 s d a b f l = putL 64 17 s d (udpB a b (fewL l) (nev (csum s d 17 (udpB a b (fewL l) 0)))) := rfl
  have hln : (frameL 0 s d a b f l).length = 28 + l.length := by rw [e, put_len, udpB_len, hf]; omega
  rw [hln, e]
  generalize nev (csum s d 17 (udpB a b (fewL l) 0)) = S at *
  refine ⟨S, by omega, hS.2.1, rfl, rfl, ?_⟩
  intro T hT
  have e2 : ((putL 64 17 s d (udpB a b (fewL l) S)).set 26 (T / 256)).set 27 (T % 256) = putL 64 17 s d (udpB a b (fewL l) T) := by
    have h1 := putL_set 64 17 s d (udpB a b (fewL l) S) 6 (T / 256)
    have h2 := putL_set 64 17 s d ((udpB a b (fewL l) S).set 6 (T / 256)) 7 (T % 256)
    rw [show 20 + 6 = 26 from rfl] at h1
    rw [show 20 + 7 = 27 from rfl] at h2
    rw [h1, h2]; rfl
  have e3 : getR ⟨20, ((28 + l.length : Nat) : Int), 64, 17, s, d⟩ (putL 64 17 s d (udpB a b (fewL l) T)) = udpR ⟨20, ((28 + l.length : Nat) : Int), 64, 17, s, d⟩ (udpB a b (fewL l) T) :=
    getR_put 64 17 s d _ _ (by rw [udpB_len, hf]; congr 1; push_cast; omega)
  rw [e2, e3]
  refine ⟨fun h => ?_, fun h0 h1 => ?_⟩
  · refine udp_got ha hb hT (by rw [hf]; omega) (fun hne => ?_)
    rcases h with rfl | rfl
    · exact absurd rfl hne
    · exact hc.zero
  · refine wrong_sum ⟨by omega, hS.2.1⟩ ⟨by omega, hT.2⟩ h1 hS.2.2 (by rw [hf]; omega) ?_ hc
    exact Bytes8.app (ph_bd hs hd (by omega) (by rw [hf]; omega)) (udpB_bd ha hb (few_bd hl) (by rw [hf]; omega) hT)
end
end Go.Proofs.Ytjaacmecniijgaa
