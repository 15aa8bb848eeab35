import Derived.Test.YtcigiahpgnjekaaPartPlain
import Derived.Test.YtcigiahpgnjekaaPart9
import Derived.Deep.DeepCutAuto
import Derived.Deep.CutBlock
import Derived.Test.YtcigiahpgnjekaaPart25
import Derived.Test.YtcigiahpgnjekaaHeadFix
import Derived.Test.YtcigiahpgnjekaaPartFacts3
namespace Go.Proofs.Ytcigiahpgnjekaa
set_option linter.unusedVariables false
set_option linter.unusedSimpArgs false
open Go.RowKit
/- Whose work a frame is, plain. -/
structure Fl where
  proto : Int
  addr : Int
  port : Int
def Fl.z : Fl := ⟨0, 0, 0⟩
/-- the far end of what was got -/
def farP (out : Bool) (h : Hd) (p : Pt) : Fl :=
  if p.err then (if out then ⟨p.inner.proto, p.inner.src, if p.inner.proto = 1 then 0 else p.src⟩ else ⟨p.inner.proto, p.inner.dst, if p.inner.proto = 1 then 0 else p.dst⟩)
  else if out then ⟨h.proto, h.dst, if h.proto = 1 then 0 else p.dst⟩ else ⟨h.proto, h.src, if h.proto = 1 then 0 else p.src⟩
def farR (out : Bool) (l : List Int) : Int × Fl :=
  if getE l ≠ 0 then (getE l, Fl.z) else if (getR (hdIf l 0) l).1 ≠ 0 then ((getR (hdIf l 0) l).1, Fl.z) else (0, farP out (hdIf l 0) (getR (hdIf l 0) l).2)
def hashN (f : Fl) : Int := f.proto % 65536 * 281474976710656 + f.addr * 65536 + f.port
def hashR (f : Fl) : Int := IntKind.u64.wrap (bits .xor .u64 (hashN f) (hashN f / 536870912) * 14029467366897019727) / 4294967296
def workR (k : Int) (out : Bool) (l : List Int) : Int := if (farR out l).1 ≠ 0 ∨ k < 1 then 0 else hashR (farR out l).2 % k
theorem hashR_bd (f : Fl) : 0 ≤ hashR f ∧ hashR f < 4294967296 := by
  unfold hashR; rw [IntKind.wrap_u64]; omega
theorem hashN_bd {f : Fl} (ha : 0 ≤ f.addr ∧ f.addr ≤ 4294967295) (hp : 0 ≤ f.port ∧ f.port ≤ 65535) : 0 ≤ hashN f ∧ hashN f < 18446744073709551616 := by
  unfold hashN; omega
theorem workR_one (out : Bool) (l : List Int) : workR 1 out l = 0 := by
  unfold workR; split
  · rfl
  · omega
theorem workR_none (k : Int) (out : Bool) (l : List Int) (h : k < 1) : workR k out l = 0 := by
  unfold workR; rw [if_pos (.inr h)]
theorem or_parts (x y : Int) (m : Nat) (hy : 0 ≤ y) (hy2 : y < (2 ^ m : Nat)) (hx : 0 ≤ x) (hx2 : x % (2 ^ m : Nat) = 0) (hs : x < 18446744073709551616) (hm : m ≤ 64) : bits .or .u64 x y = x + y := by
  have hp : (2 ^ m : Nat) ≤ 2 ^ 64 := Nat.pow_le_pow_right (by omega) hm
  obtain ⟨a, rfl⟩ : ∃ a : Nat, x = a := ⟨x.toNat, by omega⟩
  obtain ⟨b, rfl⟩ : ∃ b : Nat, y = b := ⟨y.toNat, by omega⟩
  have ha : a < 2 ^ 64 := by omega
  have hb : b < 2 ^ m := by omega
  have hc : a % 2 ^ m = 0 := by omega
  have hd : a = 2 ^ m * (a / 2 ^ m) := by have := Nat.div_add_mod a (2 ^ m); omega
  have h3 : a ||| b = a + b := by
    rw [hd, ← Nat.two_pow_add_eq_or_of_lt hb]
  have h4 : a + b < 2 ^ 64 := by
    rw [← h3]; exact Nat.or_lt_two_pow ha (Nat.lt_of_lt_of_le hb hp)
  show IntKind.u64.wrap ((BitVec.ofInt 64 (a : Int) ||| BitVec.ofInt 64 (b : Int)).toNat : Int) = _
  rw [BitVec.ofInt_natCast, BitVec.ofInt_natCast, BitVec.toNat_or, BitVec.toNat_ofNat, BitVec.toNat_ofNat, Nat.mod_eq_of_lt ha, Nat.mod_eq_of_lt (Nat.lt_of_lt_of_le hb hp), h3, IntKind.wrap_u64]
  omega
theorem hash_or {p a q : Int} (ha : 0 ≤ a ∧ a ≤ 4294967295) (hq : 0 ≤ q ∧ q ≤ 65535) : bits .or .u64 (bits .or .u64 (p % 65536 * 281474976710656) (a * 65536)) q = p % 65536 * 281474976710656 + a * 65536 + q := by
  have h1 : bits .or .u64 (p % 65536 * 281474976710656) (a * 65536) = p % 65536 * 281474976710656 + a * 65536 := or_parts _ _ 48 (by omega) (by omega) (by omega) (by omega) (by omega) (by omega)
  rw [h1]
  exact or_parts _ _ 16 (by omega) (by omega) (by omega) (by omega) (by omega) (by omega)
/- The walks of spread's functions and the document's: the hash. -/
theorem u64_shl48 (p : Int) : IntKind.u64.wrap (IntKind.u64.wrap p * 281474976710656) = p % 65536 * 281474976710656 := by
  rw [IntKind.wrap_u64, IntKind.wrap_u64]; omega
set_option maxRecDepth 100000 in
set_option maxHeartbeats 1000000 in
theorem Hash_any (p a q : Int) (w : World) (ha : 0 ≤ a ∧ a ≤ 4294967295) (hq : 0 ≤ q ∧ q ≤ 65535) :
    Calls Try.prog 13 #[.agg #[.int .i64 p, .int .u32 a, .int .u16 q]] w fun e w' => e = .returned (.int .u32 (hashR ⟨p, a, q⟩)) ∧ Below w.heap.size w w' := by
  have h1 := u64_shl48 p
  have h2 := hash_or (p := p) ha hq
  have hn := hashN_bd (f := ⟨p, a, q⟩) ha hq
  have hh := hashR_bd ⟨p, a, q⟩
  unfold hashR at hh ⊢
  unfold hashN at hn hh ⊢
  simp only at hn hh ⊢
  obtain ⟨n, hne⟩ : ∃ n, n = p % 65536 * 281474976710656 + a * 65536 + q := ⟨_, rfl⟩
  rw [← hne] at hn hh h2 ⊢
  obtain ⟨Z, hZ⟩ : ∃ Z, Z = IntKind.u64.wrap (bits .xor .u64 n (n / 536870912) * 14029467366897019727) / 4294967296 := ⟨_, rfl⟩
  rw [← hZ] at hh ⊢
  clear hne
  replace hZ := Lib.hid hZ
  go_enter Try.func13, Try.ntmps13
  go_upto_region 1 with fail
  have bn := Blk.new w 30 #[.int .i64 p, .int .u32 a, .int .u16 q]
  have bel := bel_alloc w (.cells #[.int .i64 p, .int .u32 a, .int .u16 q] 30)
  generalize w.alloc (.cells #[.int .i64 p, .int .u32 a, .int .u16 q] 30) = W at *
  have q0 := bn.cell 0
  have q1 := bn.cell 1
  have q2 := bn.cell 2
  go_wp2
  go_ret
  exact ⟨ret_int (by rw [← hZ.out]; omega), bel⟩
set_option maxRecDepth 100000 in
set_option maxHeartbeats 1000000 in
theorem ends_any (p s d a b : Int) (w : World) :
    Calls Try.prog 24 #[.int .i64 p, .int .u32 s, .int .u32 d, .int .u16 a, .int .u16 b] w fun e w' => e = .returned (.tuple #[.agg #[.int .i64 p, .int .u32 s, .int .u16 a], .agg #[.int .i64 p, .int .u32 d, .int .u16 b]]) ∧ Below w.heap.size w w' := by
  go_enter Try.func24, Try.ntmps24
  go_wp2
  exact bodyPost_ret (v := .tuple #[.agg #[.int .i64 p, .int .u32 s, .int .u16 a], .agg #[.int .i64 p, .int .u32 d, .int .u16 b]]) (by simp [results, Try.results24, go_sem]) rfl ⟨rfl, (bel_alloc _ _).alloc (by simp) _⟩
theorem hd_bds {l : List Int} (hl : ∀ x, x ∈ l → 0 ≤ x ∧ x ≤ 255) (h : getE l = 0) : (0 ≤ (hdIf l 0).src ∧ (hdIf l 0).src ≤ 4294967295) ∧ (0 ≤ (hdIf l 0).dst ∧ (hdIf l 0).dst ≤ 4294967295) := by
  have h20 : 20 ≤ l.length := by
    rcases Nat.lt_or_ge l.length 20 with hh | hh
    · exfalso
      unfold getE shapeE at h
      rw [if_pos hh] at h
      simp at h
    · exact hh
  unfold hdIf
  rw [if_pos rfl]
  exact ⟨n4_bd hl (by omega), n4_bd hl (by omega)⟩
theorem fl_size : (Try.prog.info? 30).map (·.size) = some 3 := by kernel_rfl
def FarPost (w : World) (E p a q : Int) (e : Ending) (w' : World) : Prop := e = .returned (.tuple #[.agg #[.int .i64 p, .int .u32 a, .int .u16 q], .int .i64 E]) ∧ Below w.heap.size w w'
set_option maxRecDepth 100000 in
set_option maxHeartbeats 1000000 in
theorem Far_none (out : Bool) (l : List Int) (A : Option Addr) (len c B : Nat) (w : World) (hr : Rd .u8 w B A len l) (hB : B ≤ w.heap.size) (hlc : len ≤ c) (hcm : c ≤ 9223372036854775807) (hl : len ≤ 60000) (hE : getE l ≠ 0) :
    Calls Try.prog 7 #[.bool out, .slice A len c] w (FarPost w (getE l) 0 0 0) := by
  have hget := fun W (h : Below w.heap.size w W) => Get_any l A len c w.heap.size W ((hr.more hB).below h) h.size hlc hcm (by omega)
  have hv : (hdIf l (getE l)).val = Hd.z.val := by unfold hdIf; rw [if_neg hE]
  rw [hv] at hget
  simp only [Hd.val, Hd.z] at hget
  have hE1 : (getE l != 0) = true := by simpa using hE
  clear hv hE
  generalize getE l = E at *
  replace hget := Lib.hid hget
  go_enter Try.func7, Try.ntmps7
  go_upto_region 1 with fail
  have b0 := Blk.new w 30 #[.int .i64 0, .int .u32 0, .int .u16 0]
  have bel := bel_alloc w (.cells #[.int .i64 0, .int .u32 0, .int .u16 0] 30)
  generalize w.alloc (.cells #[.int .i64 0, .int .u32 0, .int .u16 0] 30) = W at *
  go_wp2_with fail
  refine (hget.out _ bel).mono ?_
  rintro e w1 ⟨rfl, hb1⟩
  replace b0 := b0.bel hb1
  replace bel := bel_after bel hb1
  clear hb1 hget
  have hgl := b0.lt
  have hw0 := b0.alloc (.cells #[.int .i64 0, .int .i64 0, .int .i64 0, .int .i64 0, .int .u32 0, .int .u32 0] 58)
  replace b0 := (b0.alloc (.cells #[.int .i64 0, .int .i64 0, .int .i64 0, .int .i64 0, .int .u32 0, .int .u32 0] 58)).setRow_far (g' := w1.heap.size) (by omega) #[.int .i64 0, .int .i64 0, .int .i64 0, .int .i64 0, .int .u32 0, .int .u32 0]
  replace bel := below_setRow (bel.alloc bel.size (.cells #[.int .i64 0, .int .i64 0, .int .i64 0, .int .i64 0, .int .u32 0, .int .u32 0] 58)) bel.size #[.int .i64 0, .int .i64 0, .int .i64 0, .int .i64 0, .int .u32 0, .int .u32 0]
  clear hw0
  go_wp2_with (first
    | (refine wpList_stRow rfl rfl rfl rfl rfl (Blk.new w1 _ _) hd_size rfl (by simp [Value.oneCell']) ?_; generalize (w1.alloc (.cells #[.int .i64 0, .int .i64 0, .int .i64 0, .int .i64 0, .int .u32 0, .int .u32 0] 58)).setRow w1.heap.size #[.int .i64 0, .int .i64 0, .int .i64 0, .int .i64 0, .int .u32 0, .int .u32 0] = W1 at *; generalize w1.heap.size = g6 at *)
    | (refine wpList_stRow rfl rfl rfl rfl rfl b0 fl_size rfl (by simp [Value.oneCell']) ?_))
  exact bodyPost_ret (results_row2 rfl _ rfl (b0.setRow _) Try.underlying30 fl_size) rfl ⟨rfl, below_setRow bel (Nat.le_refl _) _⟩
/- The walk of spread's Far, where the head is right. -/
set_option maxRecDepth 100000 in
set_option maxHeartbeats 1000000 in
theorem Far_bad (out : Bool) (l : List Int) (A : Option Addr) (len c B : Nat) (w : World) (hr : Rd .u8 w B A len l) (hB : B ≤ w.heap.size) (hlc : len ≤ c) (hcm : c ≤ 9223372036854775807) (hl : len ≤ 60000) (hE : getE l = 0) (hE2 : (getR (hdIf l 0) l).1 ≠ 0) :
    Calls Try.prog 7 #[.bool out, .slice A len c] w (FarPost w (getR (hdIf l 0) l).1 0 0 0) := by
  have hb := hd_bds (fun x hx => inr_u8 (hr.rng x hx)) hE
  have hget := fun W (h : Below w.heap.size w W) => Get_any l A len c w.heap.size W ((hr.more hB).below h) h.size hlc hcm (by omega)
  have hpg := fun W (h : Below w.heap.size w W) => PGet_any (hdIf l 0) l A len c w.heap.size W ((hr.more hB).below h) h.size hlc hcm (by omega) hb.1 hb.2
  rw [hE] at hget
  clear hb hE
  generalize getR (hdIf l 0) l = R at *
  generalize hdIf l 0 = H at *
  obtain ⟨h0, h1, h2, h3, h4, h5⟩ := H
  obtain ⟨E, ⟨pr, sr, ds, fl, ki, co, er, ⟨i0, i1, i2, i3, i4, i5⟩, pa, ba⟩⟩ := R
  simp only [Hd.val, Tells, Pt.val] at hget hpg
  replace hget := Lib.hid hget
  replace hpg := Lib.hid hpg
  simp only at hE2 ⊢
  have hE3 : (E != 0) = true := by simpa using hE2
  clear hE2
  go_enter Try.func7, Try.ntmps7
  go_upto_region 1 with fail
  have b0 := Blk.new w 30 #[.int .i64 0, .int .u32 0, .int .u16 0]
  have bel := bel_alloc w (.cells #[.int .i64 0, .int .u32 0, .int .u16 0] 30)
  generalize w.alloc (.cells #[.int .i64 0, .int .u32 0, .int .u16 0] 30) = W at *
  go_wp2_with fail
  refine (hget.out _ bel).mono ?_
  rintro e w1 ⟨rfl, hb1⟩
  replace b0 := b0.bel hb1
  replace bel := bel_after bel hb1
  clear hb1 hget
  have hgl := b0.lt
  have bh := (Blk.new w1 58 #[.int .i64 0, .int .i64 0, .int .i64 0, .int .i64 0, .int .u32 0, .int .u32 0]).setRow #[.int .i64 h0, .int .i64 h1, .int .i64 h2, .int .i64 h3, .int .u32 h4, .int .u32 h5]
  replace b0 := (b0.alloc (.cells #[.int .i64 0, .int .i64 0, .int .i64 0, .int .i64 0, .int .u32 0, .int .u32 0] 58)).setRow_far (g' := w1.heap.size) (by omega) #[.int .i64 h0, .int .i64 h1, .int .i64 h2, .int .i64 h3, .int .u32 h4, .int .u32 h5]
  replace bel := below_setRow (bel.alloc bel.size (.cells #[.int .i64 0, .int .i64 0, .int .i64 0, .int .i64 0, .int .u32 0, .int .u32 0] 58)) bel.size #[.int .i64 h0, .int .i64 h1, .int .i64 h2, .int .i64 h3, .int .u32 h4, .int .u32 h5]
  go_wp2_with (first
    | (refine wpList_stRow rfl rfl rfl rfl rfl (Blk.new w1 _ _) hd_size rfl (by simp [Value.oneCell']) ?_; generalize (w1.alloc (.cells #[.int .i64 0, .int .i64 0, .int .i64 0, .int .i64 0, .int .u32 0, .int .u32 0] 58)).setRow w1.heap.size #[.int .i64 h0, .int .i64 h1, .int .i64 h2, .int .i64 h3, .int .u32 h4, .int .u32 h5] = W1 at *; generalize w1.heap.size = g6 at *)
    | (refine wpList_ldRow rfl rfl rfl bh Try.underlying58 hd_size ?_))
  refine (hpg.out _ bel).mono ?_
  rintro e w2 ⟨rfl, hb2⟩
  replace b0 := b0.bel hb2
  replace bh := bh.bel hb2
  replace bel := bel_after bel hb2
  clear hb2 hpg
  have hgl2 := b0.lt
  have hhl := bh.lt
  have bp := (Blk.new w2 62 #[.int .i64 0, .int .u16 0, .int .u16 0, .int .i64 0, .int .i64 0, .int .i64 0, .bool false, .int .i64 0, .int .i64 0, .int .i64 0, .int .i64 0, .int .u32 0, .int .u32 0, .int .i64 0, .bool false]).setRow #[.int .i64 pr, .int .u16 sr, .int .u16 ds, .int .i64 fl, .int .i64 ki, .int .i64 co, .bool er, .int .i64 i0, .int .i64 i1, .int .i64 i2, .int .i64 i3, .int .u32 i4, .int .u32 i5, .int .i64 pa, .bool ba]
  replace b0 := (b0.alloc (.cells #[.int .i64 0, .int .u16 0, .int .u16 0, .int .i64 0, .int .i64 0, .int .i64 0, .bool false, .int .i64 0, .int .i64 0, .int .i64 0, .int .i64 0, .int .u32 0, .int .u32 0, .int .i64 0, .bool false] 62)).setRow_far (g' := w2.heap.size) (by omega) #[.int .i64 pr, .int .u16 sr, .int .u16 ds, .int .i64 fl, .int .i64 ki, .int .i64 co, .bool er, .int .i64 i0, .int .i64 i1, .int .i64 i2, .int .i64 i3, .int .u32 i4, .int .u32 i5, .int .i64 pa, .bool ba]
  replace bh := (bh.alloc (.cells #[.int .i64 0, .int .u16 0, .int .u16 0, .int .i64 0, .int .i64 0, .int .i64 0, .bool false, .int .i64 0, .int .i64 0, .int .i64 0, .int .i64 0, .int .u32 0, .int .u32 0, .int .i64 0, .bool false] 62)).setRow_far (g' := w2.heap.size) (by omega) #[.int .i64 pr, .int .u16 sr, .int .u16 ds, .int .i64 fl, .int .i64 ki, .int .i64 co, .bool er, .int .i64 i0, .int .i64 i1, .int .i64 i2, .int .i64 i3, .int .u32 i4, .int .u32 i5, .int .i64 pa, .bool ba]
  replace bel := below_setRow (bel.alloc bel.size (.cells #[.int .i64 0, .int .u16 0, .int .u16 0, .int .i64 0, .int .i64 0, .int .i64 0, .bool false, .int .i64 0, .int .i64 0, .int .i64 0, .int .i64 0, .int .u32 0, .int .u32 0, .int .i64 0, .bool false] 62)) bel.size #[.int .i64 pr, .int .u16 sr, .int .u16 ds, .int .i64 fl, .int .i64 ki, .int .i64 co, .bool er, .int .i64 i0, .int .i64 i1, .int .i64 i2, .int .i64 i3, .int .u32 i4, .int .u32 i5, .int .i64 pa, .bool ba]
  go_wp2_with (first
    | (refine wpList_stRow rfl rfl rfl rfl rfl (Blk.new w2 _ _) pt_size rfl (by simp [Value.oneCell']) ?_; generalize (w2.alloc (.cells #[.int .i64 0, .int .u16 0, .int .u16 0, .int .i64 0, .int .i64 0, .int .i64 0, .bool false, .int .i64 0, .int .i64 0, .int .i64 0, .int .i64 0, .int .u32 0, .int .u32 0, .int .i64 0, .bool false] 62)).setRow w2.heap.size #[.int .i64 pr, .int .u16 sr, .int .u16 ds, .int .i64 fl, .int .i64 ki, .int .i64 co, .bool er, .int .i64 i0, .int .i64 i1, .int .i64 i2, .int .i64 i3, .int .u32 i4, .int .u32 i5, .int .i64 pa, .bool ba] = W2 at *; generalize w2.heap.size = g8 at *)
    | (refine wpList_stRow rfl rfl rfl rfl rfl b0 fl_size rfl (by simp [Value.oneCell']) ?_))
  exact bodyPost_ret (results_row2 rfl _ rfl (b0.setRow _) Try.underlying30 fl_size) rfl ⟨rfl, below_setRow bel (Nat.le_refl _) _⟩
set_option maxRecDepth 100000 in
set_option maxHeartbeats 2000000 in
theorem Far_ok (out : Bool) (l : List Int) (A : Option Addr) (len c B : Nat) (w : World) (hr : Rd .u8 w B A len l) (hB : B ≤ w.heap.size) (hlc : len ≤ c) (hcm : c ≤ 9223372036854775807) (hl : len ≤ 60000) (hE : getE l = 0) (hE2 : (getR (hdIf l 0) l).1 = 0)
    (yp ya yq : Int) (hy : farP out (hdIf l 0) (getR (hdIf l 0) l).2 = ⟨yp, ya, yq⟩) :
    Calls Try.prog 7 #[.bool out, .slice A len c] w (FarPost w 0 yp ya yq) := by
  have hb := hd_bds (fun x hx => inr_u8 (hr.rng x hx)) hE
  have hget := fun W (h : Below w.heap.size w W) => Get_any l A len c w.heap.size W ((hr.more hB).below h) h.size hlc hcm (by omega)
  have hpg := fun W (h : Below w.heap.size w W) => PGet_any (hdIf l 0) l A len c w.heap.size W ((hr.more hB).below h) h.size hlc hcm (by omega) hb.1 hb.2
  rw [hE] at hget
  clear hb hE
  generalize getR (hdIf l 0) l = R at *
  generalize hdIf l 0 = H at *
  obtain ⟨h0, h1, h2, h3, h4, h5⟩ := H
  obtain ⟨E, ⟨pr, sr, ds, fl, ki, co, er, ⟨i0, i1, i2, i3, i4, i5⟩, pa, ba⟩⟩ := R
  simp only [Hd.val, Tells, Pt.val] at hget hpg
  replace hget := Lib.hid hget
  replace hpg := Lib.hid hpg
  simp only at hE2 hy
  subst hE2
  unfold farP at hy
  simp only at hy
  obtain ⟨fp, fa, fq, tp, ta, tq, hT1, hT0⟩ : ∃ fp fa fq tp ta tq : Int, (er = true → fp = i3 ∧ fa = i5 ∧ fq = ds ∧ tp = i3 ∧ ta = i4 ∧ tq = sr) ∧ (er = false → fp = h3 ∧ fa = h4 ∧ fq = sr ∧ tp = h3 ∧ ta = h5 ∧ tq = ds) := by
    cases er with
    | true => exact ⟨i3, i5, ds, i3, i4, sr, fun _ => ⟨rfl, rfl, rfl, rfl, rfl, rfl⟩, (fun h => by cases h)⟩
    | false => exact ⟨h3, h4, sr, h3, h5, ds, (fun h => by cases h), fun _ => ⟨rfl, rfl, rfl, rfl, rfl, rfl⟩⟩
  obtain ⟨xp, xa, xq, hX⟩ : ∃ xp xa xq : Int, (out = true → xp = tp ∧ xa = ta ∧ xq = tq) ∧ (out = false → xp = fp ∧ xa = fa ∧ xq = fq) := by
    cases out with
    | true => exact ⟨tp, ta, tq, fun _ => ⟨rfl, rfl, rfl⟩, (fun h => by cases h)⟩
    | false => exact ⟨fp, fa, fq, (fun h => by cases h), fun _ => ⟨rfl, rfl, rfl⟩⟩
  have hY : yp = xp ∧ ya = xa ∧ yq = (if xp = 1 then 0 else xq) := by
    cases er with
    | true =>
      obtain ⟨rfl, rfl, rfl, rfl, rfl, rfl⟩ := hT1 rfl
      cases out with
      | true =>
        obtain ⟨rfl, rfl, rfl⟩ := hX.1 rfl
        simp only [if_true, Fl.mk.injEq] at hy
        exact ⟨hy.1.symm, hy.2.1.symm, hy.2.2.symm⟩
      | false =>
        obtain ⟨rfl, rfl, rfl⟩ := hX.2 rfl
        simp only [if_true, Fl.mk.injEq, Bool.false_eq_true, if_false] at hy
        exact ⟨hy.1.symm, hy.2.1.symm, hy.2.2.symm⟩
    | false =>
      obtain ⟨rfl, rfl, rfl, rfl, rfl, rfl⟩ := hT0 rfl
      cases out with
      | true =>
        obtain ⟨rfl, rfl, rfl⟩ := hX.1 rfl
        simp only [if_true, Fl.mk.injEq, Bool.false_eq_true, if_false] at hy
        exact ⟨hy.1.symm, hy.2.1.symm, hy.2.2.symm⟩
      | false =>
        obtain ⟨rfl, rfl, rfl⟩ := hX.2 rfl
        simp only [Fl.mk.injEq, Bool.false_eq_true, if_false] at hy
        exact ⟨hy.1.symm, hy.2.1.symm, hy.2.2.symm⟩
  clear hy
  replace hY := Lib.hid hY
  replace hX := Lib.hid hX
  replace hT1 := Lib.hid hT1
  replace hT0 := Lib.hid hT0
  go_enter Try.func7, Try.ntmps7
  go_upto_region 1 with fail
  have b0 := Blk.new w 30 #[.int .i64 0, .int .u32 0, .int .u16 0]
  have bel := bel_alloc w (.cells #[.int .i64 0, .int .u32 0, .int .u16 0] 30)
  generalize w.alloc (.cells #[.int .i64 0, .int .u32 0, .int .u16 0] 30) = W at *
  go_wp2_with fail
  refine (hget.out _ bel).mono ?_
  rintro e w1 ⟨rfl, hb1⟩
  replace b0 := b0.bel hb1
  replace bel := bel_after bel hb1
  clear hb1 hget
  have hgl := b0.lt
  have bh := (Blk.new w1 58 #[.int .i64 0, .int .i64 0, .int .i64 0, .int .i64 0, .int .u32 0, .int .u32 0]).setRow #[.int .i64 h0, .int .i64 h1, .int .i64 h2, .int .i64 h3, .int .u32 h4, .int .u32 h5]
  replace b0 := (b0.alloc (.cells #[.int .i64 0, .int .i64 0, .int .i64 0, .int .i64 0, .int .u32 0, .int .u32 0] 58)).setRow_far (g' := w1.heap.size) (by omega) #[.int .i64 h0, .int .i64 h1, .int .i64 h2, .int .i64 h3, .int .u32 h4, .int .u32 h5]
  replace bel := below_setRow (bel.alloc bel.size (.cells #[.int .i64 0, .int .i64 0, .int .i64 0, .int .i64 0, .int .u32 0, .int .u32 0] 58)) bel.size #[.int .i64 h0, .int .i64 h1, .int .i64 h2, .int .i64 h3, .int .u32 h4, .int .u32 h5]
  go_wp2_with (first
    | (refine wpList_stRow rfl rfl rfl rfl rfl (Blk.new w1 _ _) hd_size rfl (by simp [Value.oneCell']) ?_; generalize (w1.alloc (.cells #[.int .i64 0, .int .i64 0, .int .i64 0, .int .i64 0, .int .u32 0, .int .u32 0] 58)).setRow w1.heap.size #[.int .i64 h0, .int .i64 h1, .int .i64 h2, .int .i64 h3, .int .u32 h4, .int .u32 h5] = W1 at *; generalize w1.heap.size = g6 at *)
    | (refine wpList_ldRow rfl rfl rfl bh Try.underlying58 hd_size ?_))
  refine (hpg.out _ bel).mono ?_
  rintro e w2 ⟨rfl, hb2⟩
  replace b0 := b0.bel hb2
  replace bh := bh.bel hb2
  replace bel := bel_after bel hb2
  clear hb2 hpg
  have hgl2 := b0.lt
  have hhl := bh.lt
  have bp := (Blk.new w2 62 #[.int .i64 0, .int .u16 0, .int .u16 0, .int .i64 0, .int .i64 0, .int .i64 0, .bool false, .int .i64 0, .int .i64 0, .int .i64 0, .int .i64 0, .int .u32 0, .int .u32 0, .int .i64 0, .bool false]).setRow #[.int .i64 pr, .int .u16 sr, .int .u16 ds, .int .i64 fl, .int .i64 ki, .int .i64 co, .bool er, .int .i64 i0, .int .i64 i1, .int .i64 i2, .int .i64 i3, .int .u32 i4, .int .u32 i5, .int .i64 pa, .bool ba]
  replace b0 := (b0.alloc (.cells #[.int .i64 0, .int .u16 0, .int .u16 0, .int .i64 0, .int .i64 0, .int .i64 0, .bool false, .int .i64 0, .int .i64 0, .int .i64 0, .int .i64 0, .int .u32 0, .int .u32 0, .int .i64 0, .bool false] 62)).setRow_far (g' := w2.heap.size) (by omega) #[.int .i64 pr, .int .u16 sr, .int .u16 ds, .int .i64 fl, .int .i64 ki, .int .i64 co, .bool er, .int .i64 i0, .int .i64 i1, .int .i64 i2, .int .i64 i3, .int .u32 i4, .int .u32 i5, .int .i64 pa, .bool ba]
  replace bh := (bh.alloc (.cells #[.int .i64 0, .int .u16 0, .int .u16 0, .int .i64 0, .int .i64 0, .int .i64 0, .bool false, .int .i64 0, .int .i64 0, .int .i64 0, .int .i64 0, .int .u32 0, .int .u32 0, .int .i64 0, .bool false] 62)).setRow_far (g' := w2.heap.size) (by omega) #[.int .i64 pr, .int .u16 sr, .int .u16 ds, .int .i64 fl, .int .i64 ki, .int .i64 co, .bool er, .int .i64 i0, .int .i64 i1, .int .i64 i2, .int .i64 i3, .int .u32 i4, .int .u32 i5, .int .i64 pa, .bool ba]
  replace bel := below_setRow (bel.alloc bel.size (.cells #[.int .i64 0, .int .u16 0, .int .u16 0, .int .i64 0, .int .i64 0, .int .i64 0, .bool false, .int .i64 0, .int .i64 0, .int .i64 0, .int .i64 0, .int .u32 0, .int .u32 0, .int .i64 0, .bool false] 62)) bel.size #[.int .i64 pr, .int .u16 sr, .int .u16 ds, .int .i64 fl, .int .i64 ki, .int .i64 co, .bool er, .int .i64 i0, .int .i64 i1, .int .i64 i2, .int .i64 i3, .int .u32 i4, .int .u32 i5, .int .i64 pa, .bool ba]
  have m3 := bh.cell 3
  have m4 := bh.cell 4
  have m5 := bh.cell 5
  have p1 := bp.cell 1
  have p2 := bp.cell 2
  go_wp2_with (refine wpList_stRow rfl rfl rfl rfl rfl (Blk.new w2 _ _) pt_size rfl (by simp [Value.oneCell']) ?_; generalize (w2.alloc (.cells #[.int .i64 0, .int .u16 0, .int .u16 0, .int .i64 0, .int .i64 0, .int .i64 0, .bool false, .int .i64 0, .int .i64 0, .int .i64 0, .int .i64 0, .int .u32 0, .int .u32 0, .int .i64 0, .bool false] 62)).setRow w2.heap.size #[.int .i64 pr, .int .u16 sr, .int .u16 ds, .int .i64 fl, .int .i64 ki, .int .i64 co, .bool er, .int .i64 i0, .int .i64 i1, .int .i64 i2, .int .i64 i3, .int .u32 i4, .int .u32 i5, .int .i64 pa, .bool ba] = W2 at *; generalize w2.heap.size = g8 at *)
  refine (ends_any _ _ _ _ _ _).mono ?_
  rintro e w3 ⟨rfl, hb3⟩
  replace b0 := b0.bel hb3
  replace bp := bp.bel hb3
  replace bel := bel_after bel hb3
  clear hb3 m3 m4 m5 p1 p2 bh hgl hgl2 hhl
  have hg9w := b0.lt
  have b9 := (Blk.new w3 30 #[.int .i64 h3, .int .u32 h4, .int .u16 sr]).alloc (.cells #[.int .i64 h3, .int .u32 h5, .int .u16 ds] 30)
  have b10 := Blk.new (w3.alloc (.cells #[.int .i64 h3, .int .u32 h4, .int .u16 sr] 30)) 30 #[.int .i64 h3, .int .u32 h5, .int .u16 ds]
  rw [show (w3.alloc (.cells #[.int .i64 h3, .int .u32 h4, .int .u16 sr] 30)).heap.size = w3.heap.size + 1 by simp] at b10
  replace b0 := (b0.alloc (.cells #[.int .i64 h3, .int .u32 h4, .int .u16 sr] 30)).alloc (.cells #[.int .i64 h3, .int .u32 h5, .int .u16 ds] 30)
  replace bp := (bp.alloc (.cells #[.int .i64 h3, .int .u32 h4, .int .u16 sr] 30)).alloc (.cells #[.int .i64 h3, .int .u32 h5, .int .u16 ds] 30)
  replace bel := (bel.alloc bel.size (.cells #[.int .i64 h3, .int .u32 h4, .int .u16 sr] 30)).alloc (by have := bel.size; simp; omega) (.cells #[.int .i64 h3, .int .u32 h5, .int .u16 ds] 30)
  go_upto_region 8 with fail
  generalize (w3.alloc (.cells #[.int .i64 h3, .int .u32 h4, .int .u16 sr] 30)).alloc (.cells #[.int .i64 h3, .int .u32 h5, .int .u16 ds] 30) = W3 at *
  generalize w3.heap.size = g9 at *
  have p6 := bp.cell 6
  go_upto_if 46 with fail
  go_cut [] (fun wx => Blk wx g9 30 #[.int .i64 fp, .int .u32 fa, .int .u16 fq] ∧ Blk wx (g9 + 1) 30 #[.int .i64 tp, .int .u32 ta, .int .u16 tq] ∧ Blk wx w.heap.size 30 #[.int .i64 0, .int .u32 0, .int .u16 0] ∧ Below w.heap.size w wx)
  case first =>
    cases er with
    | false =>
      obtain ⟨rfl, rfl, rfl, rfl, rfl, rfl⟩ := hT0.out rfl
      go_wp2_with fail
      go_meet
      exact ⟨b9, b10, b0, bel⟩
    | true =>
      obtain ⟨rfl, rfl, rfl, rfl, rfl, rfl⟩ := hT1.out rfl
      have p10 := bp.cell 10
      have p11 := bp.cell 11
      have p12 := bp.cell 12
      have p1 := bp.cell 1
      have p2 := bp.cell 2
      go_wp2_with fail
      refine (ends_any _ _ _ _ _ _).mono ?_
      rintro e w4 ⟨rfl, hb4⟩
      replace b0 := b0.bel hb4
      replace b9 := b9.bel hb4
      replace b10 := b10.bel hb4
      replace bel := bel_after bel hb4
      clear hb4 p10 p11 p12 p1 p2 p6 bp
      have c9 := b9.setRow_far (g' := g9 + 1) (by omega) #[.int .i64 tp, .int .u32 ta, .int .u16 tq]
      have e9 := c9.setRow #[.int .i64 tp, .int .u32 fa, .int .u16 fq]
      have e10 := (b10.setRow #[.int .i64 tp, .int .u32 ta, .int .u16 tq]).setRow_far (g' := g9) (by omega) #[.int .i64 tp, .int .u32 fa, .int .u16 fq]
      have e0 := (b0.setRow_far (g' := g9 + 1) (by omega) #[.int .i64 tp, .int .u32 ta, .int .u16 tq]).setRow_far (g' := g9) (by omega) #[.int .i64 tp, .int .u32 fa, .int .u16 fq]
      replace bel := below_setRow (below_setRow bel (g := g9 + 1) (by omega) #[.int .i64 tp, .int .u32 ta, .int .u16 tq]) (g := g9) (by omega) #[.int .i64 tp, .int .u32 fa, .int .u16 fq]
      go_wp2_with (first | (refine wpList_stRow rfl rfl rfl rfl rfl b10 fl_size rfl (by simp [Value.oneCell']) ?_) | (refine wpList_stRow rfl rfl rfl rfl rfl c9 fl_size rfl (by simp [Value.oneCell']) ?_))
      go_meet
      exact ⟨e9, e10, e0, bel⟩
  case rest =>
    clear b9 b10 b0 bel bp p6 hT1 hT0
    obtain ⟨b9, b10, b0, bel⟩ := hcut
    have r0 := b9.cell 0
    have r1 := b9.cell 1
    have r2 := b9.cell 2
    have hg0 := b0.lt
    have hg10 := b10.lt
    have b11 := Blk.new wc 30 #[.int .i64 fp, .int .u32 fa, .int .u16 fq]
    replace b10 := b10.alloc (.cells #[.int .i64 fp, .int .u32 fa, .int .u16 fq] 30)
    replace b0 := b0.alloc (.cells #[.int .i64 fp, .int .u32 fa, .int .u16 fq] 30)
    replace bel := bel.alloc bel.size (.cells #[.int .i64 fp, .int .u32 fa, .int .u16 fq] 30)
    go_upto_region 11 with fail
    clear r0 r1 r2 b9
    generalize wc.alloc (.cells #[.int .i64 fp, .int .u32 fa, .int .u16 fq] 30) = W4 at *
    generalize wc.heap.size = g11 at *
    go_upto_if 65 with fail
    go_cut [] (fun wx => Blk wx g11 30 #[.int .i64 xp, .int .u32 xa, .int .u16 xq] ∧ Blk wx w.heap.size 30 #[.int .i64 0, .int .u32 0, .int .u16 0] ∧ Below w.heap.size w wx)
    case first =>
      cases out with
      | false =>
        obtain ⟨rfl, rfl, rfl⟩ := hX.out.2 rfl
        go_wp2_with fail
        go_meet
        exact ⟨b11, b0, bel⟩
      | true =>
        obtain ⟨rfl, rfl, rfl⟩ := hX.out.1 rfl
        go_wp2_with (first | (refine wpList_ldRow rfl rfl rfl b10 Try.underlying30 fl_size ?_) | (refine wpList_stRow rfl rfl rfl rfl rfl b11 fl_size rfl (by simp [Value.oneCell']) ?_))
        go_meet
        exact ⟨b11.setRow _, b0.setRow_far (by omega) _, below_setRow bel (by omega) _⟩
    case rest =>
      clear b10 b11 b0 bel hX
      obtain ⟨b11, b0, bel⟩ := hcut
      obtain ⟨rfl, rfl, hq⟩ := hY.out
      have k0 := b11.cell 0
      by_cases h1 : yp = 1
      · rw [if_pos h1] at hq
        subst hq h1
        have f2 := b11.frozen 2
        have k2 := b11.cell 2
        have b12 : Blk _ g11 30 #[.int .i64 1, .int .u32 ya, .int .u16 0] := b11.set_ 2 (.int .u16 0)
        have c0 := b0.far (p := ⟨g11, 2, none⟩) (by show w.heap.size ≠ g11; omega) (.int .u16 0)
        replace bel := bel.setCell (p := ⟨g11, 2, none⟩) (by show w.heap.size ≤ g11; omega) (.int .u16 0)
        go_wp2_with (first | (refine wpList_ldRow rfl rfl rfl b12 Try.underlying30 fl_size ?_) | (refine wpList_stRow rfl rfl rfl rfl rfl c0 fl_size rfl (by simp [Value.oneCell']) ?_))
        exact bodyPost_ret (results_row2 rfl _ rfl (c0.setRow _) Try.underlying30 fl_size) rfl ⟨rfl, below_setRow bel (Nat.le_refl _) _⟩
      · rw [if_neg h1] at hq
        subst hq
        have d1 : (yp == 1) = false := by simpa using h1
        clear h1
        go_wp2_with (first | (refine wpList_ldRow rfl rfl rfl b11 Try.underlying30 fl_size ?_) | (refine wpList_stRow rfl rfl rfl rfl rfl b0 fl_size rfl (by simp [Value.oneCell']) ?_))
        exact bodyPost_ret (results_row2 rfl _ rfl (b0.setRow _) Try.underlying30 fl_size) rfl ⟨rfl, below_setRow bel (Nat.le_refl _) _⟩
theorem Far_any (out : Bool) (l : List Int) (A : Option Addr) (len c B : Nat) (w : World) (hr : Rd .u8 w B A len l) (hB : B ≤ w.heap.size) (hlc : len ≤ c) (hcm : c ≤ 9223372036854775807) (hl : len ≤ 60000) :
    Calls Try.prog 7 #[.bool out, .slice A len c] w (FarPost w (farR out l).1 (farR out l).2.proto (farR out l).2.addr (farR out l).2.port) := by
  unfold farR
  by_cases hE : getE l = 0
  · rw [if_neg (fun h => h hE)]
    by_cases hE2 : (getR (hdIf l 0) l).1 = 0
    · rw [if_neg (fun h => h hE2)]
      exact Far_ok out l A len c B w hr hB hlc hcm hl hE hE2 _ _ _ rfl
    · rw [if_pos hE2]
      exact Far_bad out l A len c B w hr hB hlc hcm hl hE hE2
  · rw [if_pos hE]
    exact Far_none out l A len c B w hr hB hlc hcm hl hE
/- The walks of the document's Hash and Far. -/
set_option maxRecDepth 100000 in
set_option maxHeartbeats 1000000 in
theorem rHash_any (p a q : Int) (w : World) (ha : 0 ≤ a ∧ a ≤ 4294967295) (hq : 0 ≤ q ∧ q ≤ 65535) :
    Calls Try.prog 15 #[.agg #[.int .i64 p, .int .u32 a, .int .u16 q]] w fun e w' => e = .returned (.int .u32 (hashR ⟨p, a, q⟩)) ∧ Below w.heap.size w w' := by
  have h1 := u64_shl48 p
  have h2 := hash_or (p := p) ha hq
  have hn := hashN_bd (f := ⟨p, a, q⟩) ha hq
  have hh := hashR_bd ⟨p, a, q⟩
  unfold hashR at hh ⊢
  unfold hashN at hn hh ⊢
  simp only at hn hh ⊢
  have hd : ∀ Y : Int, 0 ≤ Y ∧ Y < 18446744073709551616 → IntKind.u64.wrap (Y.tdiv 4294967296) % 4294967296 = Y / 4294967296 := fun Y h => by rw [Int.tdiv_eq_ediv_of_nonneg h.1, IntKind.wrap_u64]; omega
  replace hd := Lib.hid hd
  obtain ⟨Z, hZ⟩ : ∃ Z, Z = IntKind.u64.wrap (bits .xor .u64 (p % 65536 * 281474976710656 + a * 65536 + q) ((p % 65536 * 281474976710656 + a * 65536 + q) / 536870912) * 14029467366897019727) / 4294967296 := ⟨_, rfl⟩
  rw [← hZ] at hh ⊢
  replace hZ := Lib.hid hZ
  go_enter Try.func15, Try.ntmps15
  go_upto_region 1 with fail
  have bn := Blk.new w 34 #[.int .i64 p, .int .u32 a, .int .u16 q]
  have bel := bel_alloc w (.cells #[.int .i64 p, .int .u32 a, .int .u16 q] 34)
  generalize w.alloc (.cells #[.int .i64 p, .int .u32 a, .int .u16 q] 34) = W at *
  have q0 := bn.cell 0
  have q1 := bn.cell 1
  have q2 := bn.cell 2
  go_wp2
  go_ret
  exact ⟨ret_int ((hd.out _ (by rw [IntKind.wrap_u64]; omega)).trans hZ.out.symm), bel⟩

theorem rfl_size : (Try.prog.info? 34).map (·.size) = some 3 := by kernel_rfl
set_option maxRecDepth 100000 in
set_option maxHeartbeats 1000000 in
theorem rFar_none (out : Bool) (l : List Int) (A : Option Addr) (len c B : Nat) (w : World) (hr : Rd .u8 w B A len l) (hB : B ≤ w.heap.size) (hlc : len ≤ c) (hcm : c ≤ 9223372036854775807) (hl : len ≤ 60000) (hE : getE l ≠ 0) :
    Calls Try.prog 8 #[.bool out, .slice A len c] w (FarPost w (getE l) 0 0 0) := by
  have hget := fun W (h : Below w.heap.size w W) => rGet_any l false A len c w.heap.size W ((hr.more hB).below h) h.size hlc hcm (by omega)
  have hp : getP l false = getE l := rfl
  have hv : (hdIf l (getE l)).val = Hd.z.val := by unfold hdIf; rw [if_neg hE]
  rw [hp, hv] at hget
  simp only [Hd.val, Hd.z] at hget
  have hE1 : (getE l != 0) = true := by simpa using hE
  clear hv hE hp
  generalize getE l = E at *
  replace hget := Lib.hid hget
  go_enter Try.func8, Try.ntmps8
  go_upto_region 1 with fail
  have b0 := Blk.new w 34 #[.int .i64 0, .int .u32 0, .int .u16 0]
  have bel := bel_alloc w (.cells #[.int .i64 0, .int .u32 0, .int .u16 0] 34)
  generalize w.alloc (.cells #[.int .i64 0, .int .u32 0, .int .u16 0] 34) = W at *
  go_wp2_with fail
  refine (hget.out _ bel).mono ?_
  rintro e w1 ⟨rfl, hb1⟩
  replace b0 := b0.bel hb1
  replace bel := bel_after bel hb1
  clear hb1 hget
  have hgl := b0.lt
  replace b0 := (b0.alloc (.cells #[.int .i64 0, .int .i64 0, .int .i64 0, .int .i64 0, .int .u32 0, .int .u32 0] 50)).setRow_far (g' := w1.heap.size) (by omega) #[.int .i64 0, .int .i64 0, .int .i64 0, .int .i64 0, .int .u32 0, .int .u32 0]
  replace bel := below_setRow (bel.alloc bel.size (.cells #[.int .i64 0, .int .i64 0, .int .i64 0, .int .i64 0, .int .u32 0, .int .u32 0] 50)) bel.size #[.int .i64 0, .int .i64 0, .int .i64 0, .int .i64 0, .int .u32 0, .int .u32 0]
  go_wp2_with (first
    | (refine wpList_stRow rfl rfl rfl rfl rfl (Blk.new w1 _ _) rhd_size rfl (by simp [Value.oneCell']) ?_; generalize (w1.alloc (.cells #[.int .i64 0, .int .i64 0, .int .i64 0, .int .i64 0, .int .u32 0, .int .u32 0] 50)).setRow w1.heap.size #[.int .i64 0, .int .i64 0, .int .i64 0, .int .i64 0, .int .u32 0, .int .u32 0] = W1 at *; generalize w1.heap.size = g6 at *)
    | (refine wpList_stRow rfl rfl rfl rfl rfl b0 rfl_size rfl (by simp [Value.oneCell']) ?_))
  exact bodyPost_ret (results_row2 rfl _ rfl (b0.setRow _) Try.underlying34 rfl_size) rfl ⟨rfl, below_setRow bel (Nat.le_refl _) _⟩
set_option maxRecDepth 100000 in
set_option maxHeartbeats 1000000 in
theorem rFar_bad (out : Bool) (l : List Int) (A : Option Addr) (len c B : Nat) (w : World) (hr : Rd .u8 w B A len l) (hB : B ≤ w.heap.size) (hlc : len ≤ c) (hcm : c ≤ 9223372036854775807) (hl : len ≤ 60000) (hE : getE l = 0) (hE2 : (getR (hdIf l 0) l).1 ≠ 0) :
    Calls Try.prog 8 #[.bool out, .slice A len c] w (FarPost w (getR (hdIf l 0) l).1 0 0 0) := by
  have hb := hd_bds (fun x hx => inr_u8 (hr.rng x hx)) hE
  have hget := fun W (h : Below w.heap.size w W) => rGet_any l false A len c w.heap.size W ((hr.more hB).below h) h.size hlc hcm (by omega)
  have hpg := fun W (h : Below w.heap.size w W) => rPGet_any (hdIf l 0) l A len c w.heap.size W ((hr.more hB).below h) h.size hlc hcm (by omega) hb.1 hb.2
  have hp : getP l false = getE l := rfl
  rw [hp, hE] at hget
  clear hb hE hp
  generalize getR (hdIf l 0) l = R at *
  generalize hdIf l 0 = H at *
  obtain ⟨h0, h1, h2, h3, h4, h5⟩ := H
  obtain ⟨E, ⟨pr, sr, ds, fl, ki, co, er, ⟨i0, i1, i2, i3, i4, i5⟩, pa, ba⟩⟩ := R
  simp only [Hd.val, Tells, Pt.val] at hget hpg
  replace hget := Lib.hid hget
  replace hpg := Lib.hid hpg
  simp only at hE2 ⊢
  have hE3 : (E != 0) = true := by simpa using hE2
  clear hE2
  go_enter Try.func8, Try.ntmps8
  go_upto_region 1 with fail
  have b0 := Blk.new w 34 #[.int .i64 0, .int .u32 0, .int .u16 0]
  have bel := bel_alloc w (.cells #[.int .i64 0, .int .u32 0, .int .u16 0] 34)
  generalize w.alloc (.cells #[.int .i64 0, .int .u32 0, .int .u16 0] 34) = W at *
  go_wp2_with fail
  refine (hget.out _ bel).mono ?_
  rintro e w1 ⟨rfl, hb1⟩
  replace b0 := b0.bel hb1
  replace bel := bel_after bel hb1
  clear hb1 hget
  have hgl := b0.lt
  have bh := (Blk.new w1 50 #[.int .i64 0, .int .i64 0, .int .i64 0, .int .i64 0, .int .u32 0, .int .u32 0]).setRow #[.int .i64 h0, .int .i64 h1, .int .i64 h2, .int .i64 h3, .int .u32 h4, .int .u32 h5]
  replace b0 := (b0.alloc (.cells #[.int .i64 0, .int .i64 0, .int .i64 0, .int .i64 0, .int .u32 0, .int .u32 0] 50)).setRow_far (g' := w1.heap.size) (by omega) #[.int .i64 h0, .int .i64 h1, .int .i64 h2, .int .i64 h3, .int .u32 h4, .int .u32 h5]
  replace bel := below_setRow (bel.alloc bel.size (.cells #[.int .i64 0, .int .i64 0, .int .i64 0, .int .i64 0, .int .u32 0, .int .u32 0] 50)) bel.size #[.int .i64 h0, .int .i64 h1, .int .i64 h2, .int .i64 h3, .int .u32 h4, .int .u32 h5]
  go_wp2_with (first
    | (refine wpList_stRow rfl rfl rfl rfl rfl (Blk.new w1 _ _) rhd_size rfl (by simp [Value.oneCell']) ?_; generalize (w1.alloc (.cells #[.int .i64 0, .int .i64 0, .int .i64 0, .int .i64 0, .int .u32 0, .int .u32 0] 50)).setRow w1.heap.size #[.int .i64 h0, .int .i64 h1, .int .i64 h2, .int .i64 h3, .int .u32 h4, .int .u32 h5] = W1 at *; generalize w1.heap.size = g6 at *)
    | (refine wpList_ldRow rfl rfl rfl bh Try.underlying50 rhd_size ?_))
  refine (hpg.out _ bel).mono ?_
  rintro e w2 ⟨rfl, hb2⟩
  replace b0 := b0.bel hb2
  replace bh := bh.bel hb2
  replace bel := bel_after bel hb2
  clear hb2 hpg
  have hgl2 := b0.lt
  have hhl := bh.lt
  have bp := (Blk.new w2 68 #[.int .i64 0, .int .u16 0, .int .u16 0, .int .i64 0, .int .i64 0, .int .i64 0, .bool false, .int .i64 0, .int .i64 0, .int .i64 0, .int .i64 0, .int .u32 0, .int .u32 0, .int .i64 0, .bool false]).setRow #[.int .i64 pr, .int .u16 sr, .int .u16 ds, .int .i64 fl, .int .i64 ki, .int .i64 co, .bool er, .int .i64 i0, .int .i64 i1, .int .i64 i2, .int .i64 i3, .int .u32 i4, .int .u32 i5, .int .i64 pa, .bool ba]
  replace b0 := (b0.alloc (.cells #[.int .i64 0, .int .u16 0, .int .u16 0, .int .i64 0, .int .i64 0, .int .i64 0, .bool false, .int .i64 0, .int .i64 0, .int .i64 0, .int .i64 0, .int .u32 0, .int .u32 0, .int .i64 0, .bool false] 68)).setRow_far (g' := w2.heap.size) (by omega) #[.int .i64 pr, .int .u16 sr, .int .u16 ds, .int .i64 fl, .int .i64 ki, .int .i64 co, .bool er, .int .i64 i0, .int .i64 i1, .int .i64 i2, .int .i64 i3, .int .u32 i4, .int .u32 i5, .int .i64 pa, .bool ba]
  replace bh := (bh.alloc (.cells #[.int .i64 0, .int .u16 0, .int .u16 0, .int .i64 0, .int .i64 0, .int .i64 0, .bool false, .int .i64 0, .int .i64 0, .int .i64 0, .int .i64 0, .int .u32 0, .int .u32 0, .int .i64 0, .bool false] 68)).setRow_far (g' := w2.heap.size) (by omega) #[.int .i64 pr, .int .u16 sr, .int .u16 ds, .int .i64 fl, .int .i64 ki, .int .i64 co, .bool er, .int .i64 i0, .int .i64 i1, .int .i64 i2, .int .i64 i3, .int .u32 i4, .int .u32 i5, .int .i64 pa, .bool ba]
  replace bel := below_setRow (bel.alloc bel.size (.cells #[.int .i64 0, .int .u16 0, .int .u16 0, .int .i64 0, .int .i64 0, .int .i64 0, .bool false, .int .i64 0, .int .i64 0, .int .i64 0, .int .i64 0, .int .u32 0, .int .u32 0, .int .i64 0, .bool false] 68)) bel.size #[.int .i64 pr, .int .u16 sr, .int .u16 ds, .int .i64 fl, .int .i64 ki, .int .i64 co, .bool er, .int .i64 i0, .int .i64 i1, .int .i64 i2, .int .i64 i3, .int .u32 i4, .int .u32 i5, .int .i64 pa, .bool ba]
  go_wp2_with (first
    | (refine wpList_stRow rfl rfl rfl rfl rfl (Blk.new w2 _ _) rpt_size rfl (by simp [Value.oneCell']) ?_; generalize (w2.alloc (.cells #[.int .i64 0, .int .u16 0, .int .u16 0, .int .i64 0, .int .i64 0, .int .i64 0, .bool false, .int .i64 0, .int .i64 0, .int .i64 0, .int .i64 0, .int .u32 0, .int .u32 0, .int .i64 0, .bool false] 68)).setRow w2.heap.size #[.int .i64 pr, .int .u16 sr, .int .u16 ds, .int .i64 fl, .int .i64 ki, .int .i64 co, .bool er, .int .i64 i0, .int .i64 i1, .int .i64 i2, .int .i64 i3, .int .u32 i4, .int .u32 i5, .int .i64 pa, .bool ba] = W2 at *; generalize w2.heap.size = g8 at *)
    | (refine wpList_stRow rfl rfl rfl rfl rfl b0 rfl_size rfl (by simp [Value.oneCell']) ?_))
  exact bodyPost_ret (results_row2 rfl _ rfl (b0.setRow _) Try.underlying34 rfl_size) rfl ⟨rfl, below_setRow bel (Nat.le_refl _) _⟩
/- The walk of the document's Far, where all is right; whose work. -/
set_option maxRecDepth 100000 in
set_option maxHeartbeats 2000000 in
theorem rFar_ok (out : Bool) (l : List Int) (A : Option Addr) (len c B : Nat) (w : World) (hr : Rd .u8 w B A len l) (hB : B ≤ w.heap.size) (hlc : len ≤ c) (hcm : c ≤ 9223372036854775807) (hl : len ≤ 60000) (hE : getE l = 0) (hE2 : (getR (hdIf l 0) l).1 = 0)
    (yp ya yq : Int) (hy : farP out (hdIf l 0) (getR (hdIf l 0) l).2 = ⟨yp, ya, yq⟩) :
    Calls Try.prog 8 #[.bool out, .slice A len c] w (FarPost w 0 yp ya yq) := by
  have hb := hd_bds (fun x hx => inr_u8 (hr.rng x hx)) hE
  have hget := fun W (h : Below w.heap.size w W) => rGet_any l false A len c w.heap.size W ((hr.more hB).below h) h.size hlc hcm (by omega)
  have hpg := fun W (h : Below w.heap.size w W) => rPGet_any (hdIf l 0) l A len c w.heap.size W ((hr.more hB).below h) h.size hlc hcm (by omega) hb.1 hb.2
  have hp : getP l false = getE l := rfl
  rw [hp, hE] at hget
  clear hb hE hp
  generalize getR (hdIf l 0) l = R at *
  generalize hdIf l 0 = H at *
  obtain ⟨h0, h1, h2, h3, h4, h5⟩ := H
  obtain ⟨E, ⟨pr, sr, ds, fl, ki, co, er, ⟨i0, i1, i2, i3, i4, i5⟩, pa, ba⟩⟩ := R
  simp only [Hd.val, Tells, Pt.val] at hget hpg
  replace hget := Lib.hid hget
  replace hpg := Lib.hid hpg
  simp only at hE2 hy
  subst hE2
  unfold farP at hy
  simp only at hy
  obtain ⟨xp, xa, xq, hX⟩ : ∃ xp xa xq : Int, (er = true ∧ out = true ∧ xp = i3 ∧ xa = i4 ∧ xq = sr) ∨ (er = true ∧ out = false ∧ xp = i3 ∧ xa = i5 ∧ xq = ds) ∨ (er = false ∧ out = true ∧ xp = h3 ∧ xa = h5 ∧ xq = ds) ∨ (er = false ∧ out = false ∧ xp = h3 ∧ xa = h4 ∧ xq = sr) := by
    cases er <;> cases out <;> simp
  have hY : yp = xp ∧ ya = xa ∧ yq = (if xp = 1 then 0 else xq) := by
    rcases hX with ⟨rfl, rfl, rfl, rfl, rfl⟩ | ⟨rfl, rfl, rfl, rfl, rfl⟩ | ⟨rfl, rfl, rfl, rfl, rfl⟩ | ⟨rfl, rfl, rfl, rfl, rfl⟩ <;>
    · simp only [if_true, Fl.mk.injEq, Bool.false_eq_true, if_false] at hy
      exact ⟨hy.1.symm, hy.2.1.symm, hy.2.2.symm⟩
  clear hy
  obtain ⟨rfl, rfl, hq⟩ := hY
  replace hq := Lib.hid hq
  replace hX := Lib.hid hX
  go_enter Try.func8, Try.ntmps8
  go_upto_region 1 with fail
  have b0 := Blk.new w 34 #[.int .i64 0, .int .u32 0, .int .u16 0]
  have bel := bel_alloc w (.cells #[.int .i64 0, .int .u32 0, .int .u16 0] 34)
  generalize w.alloc (.cells #[.int .i64 0, .int .u32 0, .int .u16 0] 34) = W at *
  go_wp2_with fail
  refine (hget.out _ bel).mono ?_
  rintro e w1 ⟨rfl, hb1⟩
  replace b0 := b0.bel hb1
  replace bel := bel_after bel hb1
  clear hb1 hget
  have hgl := b0.lt
  have bh := (Blk.new w1 50 #[.int .i64 0, .int .i64 0, .int .i64 0, .int .i64 0, .int .u32 0, .int .u32 0]).setRow #[.int .i64 h0, .int .i64 h1, .int .i64 h2, .int .i64 h3, .int .u32 h4, .int .u32 h5]
  replace b0 := (b0.alloc (.cells #[.int .i64 0, .int .i64 0, .int .i64 0, .int .i64 0, .int .u32 0, .int .u32 0] 50)).setRow_far (g' := w1.heap.size) (by omega) #[.int .i64 h0, .int .i64 h1, .int .i64 h2, .int .i64 h3, .int .u32 h4, .int .u32 h5]
  replace bel := below_setRow (bel.alloc bel.size (.cells #[.int .i64 0, .int .i64 0, .int .i64 0, .int .i64 0, .int .u32 0, .int .u32 0] 50)) bel.size #[.int .i64 h0, .int .i64 h1, .int .i64 h2, .int .i64 h3, .int .u32 h4, .int .u32 h5]
  go_wp2_with (first
    | (refine wpList_stRow rfl rfl rfl rfl rfl (Blk.new w1 _ _) rhd_size rfl (by simp [Value.oneCell']) ?_; generalize (w1.alloc (.cells #[.int .i64 0, .int .i64 0, .int .i64 0, .int .i64 0, .int .u32 0, .int .u32 0] 50)).setRow w1.heap.size #[.int .i64 h0, .int .i64 h1, .int .i64 h2, .int .i64 h3, .int .u32 h4, .int .u32 h5] = W1 at *; generalize w1.heap.size = g6 at *)
    | (refine wpList_ldRow rfl rfl rfl bh Try.underlying50 rhd_size ?_))
  refine (hpg.out _ bel).mono ?_
  rintro e w2 ⟨rfl, hb2⟩
  replace b0 := b0.bel hb2
  replace bh := bh.bel hb2
  replace bel := bel_after bel hb2
  clear hb2 hpg
  have hgl2 := b0.lt
  have hhl := bh.lt
  have bp := (Blk.new w2 68 #[.int .i64 0, .int .u16 0, .int .u16 0, .int .i64 0, .int .i64 0, .int .i64 0, .bool false, .int .i64 0, .int .i64 0, .int .i64 0, .int .i64 0, .int .u32 0, .int .u32 0, .int .i64 0, .bool false]).setRow #[.int .i64 pr, .int .u16 sr, .int .u16 ds, .int .i64 fl, .int .i64 ki, .int .i64 co, .bool er, .int .i64 i0, .int .i64 i1, .int .i64 i2, .int .i64 i3, .int .u32 i4, .int .u32 i5, .int .i64 pa, .bool ba]
  replace b0 := (b0.alloc (.cells #[.int .i64 0, .int .u16 0, .int .u16 0, .int .i64 0, .int .i64 0, .int .i64 0, .bool false, .int .i64 0, .int .i64 0, .int .i64 0, .int .i64 0, .int .u32 0, .int .u32 0, .int .i64 0, .bool false] 68)).setRow_far (g' := w2.heap.size) (by omega) #[.int .i64 pr, .int .u16 sr, .int .u16 ds, .int .i64 fl, .int .i64 ki, .int .i64 co, .bool er, .int .i64 i0, .int .i64 i1, .int .i64 i2, .int .i64 i3, .int .u32 i4, .int .u32 i5, .int .i64 pa, .bool ba]
  replace bh := (bh.alloc (.cells #[.int .i64 0, .int .u16 0, .int .u16 0, .int .i64 0, .int .i64 0, .int .i64 0, .bool false, .int .i64 0, .int .i64 0, .int .i64 0, .int .i64 0, .int .u32 0, .int .u32 0, .int .i64 0, .bool false] 68)).setRow_far (g' := w2.heap.size) (by omega) #[.int .i64 pr, .int .u16 sr, .int .u16 ds, .int .i64 fl, .int .i64 ki, .int .i64 co, .bool er, .int .i64 i0, .int .i64 i1, .int .i64 i2, .int .i64 i3, .int .u32 i4, .int .u32 i5, .int .i64 pa, .bool ba]
  replace bel := below_setRow (bel.alloc bel.size (.cells #[.int .i64 0, .int .u16 0, .int .u16 0, .int .i64 0, .int .i64 0, .int .i64 0, .bool false, .int .i64 0, .int .i64 0, .int .i64 0, .int .i64 0, .int .u32 0, .int .u32 0, .int .i64 0, .bool false] 68)) bel.size #[.int .i64 pr, .int .u16 sr, .int .u16 ds, .int .i64 fl, .int .i64 ki, .int .i64 co, .bool er, .int .i64 i0, .int .i64 i1, .int .i64 i2, .int .i64 i3, .int .u32 i4, .int .u32 i5, .int .i64 pa, .bool ba]
  go_upto_region 7 with (refine wpList_stRow rfl rfl rfl rfl rfl (Blk.new w2 _ _) rpt_size rfl (by simp [Value.oneCell']) ?_; generalize (w2.alloc (.cells #[.int .i64 0, .int .u16 0, .int .u16 0, .int .i64 0, .int .i64 0, .int .i64 0, .bool false, .int .i64 0, .int .i64 0, .int .i64 0, .int .i64 0, .int .u32 0, .int .u32 0, .int .i64 0, .bool false] 68)).setRow w2.heap.size #[.int .i64 pr, .int .u16 sr, .int .u16 ds, .int .i64 fl, .int .i64 ki, .int .i64 co, .bool er, .int .i64 i0, .int .i64 i1, .int .i64 i2, .int .i64 i3, .int .u32 i4, .int .u32 i5, .int .i64 pa, .bool ba] = W2 at *; generalize w2.heap.size = g8 at *)
  have m3 := bh.cell 3
  have m4 := bh.cell 4
  have m5 := bh.cell 5
  have p1 := bp.cell 1
  have p2 := bp.cell 2
  have p6 := bp.cell 6
  have p10 := bp.cell 10
  have p11 := bp.cell 11
  have p12 := bp.cell 12
  rcases hX.out with ⟨rfl, rfl, rfl, rfl, rfl⟩ | ⟨rfl, rfl, rfl, rfl, rfl⟩ | ⟨rfl, rfl, rfl, rfl, rfl⟩ | ⟨rfl, rfl, rfl, rfl, rfl⟩
  · go_upto_region 7 with fail
    go_region
    clear m3 m4 m5 p1 p2 p6 p10 p11 p12
    replace b0 := b0.drew
    replace bh := bh.drew
    replace bp := bp.drew
    replace bel := bel.drew
    generalize (W2).drew = W3 at *
    have m3 := bh.cell 3
    have m4 := bh.cell 4
    have m5 := bh.cell 5
    have p1 := bp.cell 1
    have p2 := bp.cell 2
    have p6 := bp.cell 6
    have p10 := bp.cell 10
    have p11 := bp.cell 11
    have p12 := bp.cell 12
    go_upto_region 9 with fail
    go_region
    clear m3 m4 m5 p1 p2 p6 p10 p11 p12
    replace b0 := b0.drew
    replace bh := bh.drew
    replace bp := bp.drew
    replace bel := bel.drew
    generalize (W3).drew = W4 at *
    have m3 := bh.cell 3
    have m4 := bh.cell 4
    have m5 := bh.cell 5
    have p1 := bp.cell 1
    have p2 := bp.cell 2
    have p6 := bp.cell 6
    have p10 := bp.cell 10
    have p11 := bp.cell 11
    have p12 := bp.cell 12
    go_upto_region 11 with fail
    go_region
    clear m3 m4 m5 p1 p2 p6 p10 p11 p12
    replace b0 := b0.drew
    replace bh := bh.drew
    replace bp := bp.drew
    replace bel := bel.drew
    generalize (W4).drew = W5 at *
    have m3 := bh.cell 3
    have m4 := bh.cell 4
    have m5 := bh.cell 5
    have p1 := bp.cell 1
    have p2 := bp.cell 2
    have p6 := bp.cell 6
    have p10 := bp.cell 10
    have p11 := bp.cell 11
    have p12 := bp.cell 12
    go_upto_region 13 with fail
    go_region
    clear m3 m4 m5 p1 p2 p6 p10 p11 p12
    replace b0 := b0.drew
    replace bh := bh.drew
    replace bp := bp.drew
    replace bel := bel.drew
    generalize (W5).drew = W6 at *
    have m3 := bh.cell 3
    have m4 := bh.cell 4
    have m5 := bh.cell 5
    have p1 := bp.cell 1
    have p2 := bp.cell 2
    have p6 := bp.cell 6
    have p10 := bp.cell 10
    have p11 := bp.cell 11
    have p12 := bp.cell 12
    by_cases hx : yp = 1
    · replace hq := hq.out
      rw [if_pos hx] at hq
      subst hq
      have d1 : (yp == 1) = true := by simpa using hx
      replace hx := Lib.hid hx
      go_wp2_with (refine wpList_stRow rfl rfl rfl rfl rfl b0 rfl_size rfl (by simp [Value.oneCell']) ?_)
      exact bodyPost_ret (results_row2 rfl _ rfl (b0.setRow _) Try.underlying34 rfl_size) rfl ⟨rfl, below_setRow bel (Nat.le_refl _) _⟩
    · replace hq := hq.out
      rw [if_neg hx] at hq
      subst hq
      have d1 : (yp == 1) = false := by simpa using hx
      replace hx := Lib.hid hx
      go_wp2_with (refine wpList_stRow rfl rfl rfl rfl rfl b0 rfl_size rfl (by simp [Value.oneCell']) ?_)
      exact bodyPost_ret (results_row2 rfl _ rfl (b0.setRow _) Try.underlying34 rfl_size) rfl ⟨rfl, below_setRow bel (Nat.le_refl _) _⟩
  · go_upto_region 7 with fail
    go_region
    clear m3 m4 m5 p1 p2 p6 p10 p11 p12
    replace b0 := b0.drew
    replace bh := bh.drew
    replace bp := bp.drew
    replace bel := bel.drew
    generalize (W2).drew = W3 at *
    have m3 := bh.cell 3
    have m4 := bh.cell 4
    have m5 := bh.cell 5
    have p1 := bp.cell 1
    have p2 := bp.cell 2
    have p6 := bp.cell 6
    have p10 := bp.cell 10
    have p11 := bp.cell 11
    have p12 := bp.cell 12
    go_upto_region 11 with fail
    go_region
    clear m3 m4 m5 p1 p2 p6 p10 p11 p12
    replace b0 := b0.drew
    replace bh := bh.drew
    replace bp := bp.drew
    replace bel := bel.drew
    generalize (W3).drew = W4 at *
    have m3 := bh.cell 3
    have m4 := bh.cell 4
    have m5 := bh.cell 5
    have p1 := bp.cell 1
    have p2 := bp.cell 2
    have p6 := bp.cell 6
    have p10 := bp.cell 10
    have p11 := bp.cell 11
    have p12 := bp.cell 12
    by_cases hx : yp = 1
    · replace hq := hq.out
      rw [if_pos hx] at hq
      subst hq
      have d1 : (yp == 1) = true := by simpa using hx
      replace hx := Lib.hid hx
      go_wp2_with (refine wpList_stRow rfl rfl rfl rfl rfl b0 rfl_size rfl (by simp [Value.oneCell']) ?_)
      exact bodyPost_ret (results_row2 rfl _ rfl (b0.setRow _) Try.underlying34 rfl_size) rfl ⟨rfl, below_setRow bel (Nat.le_refl _) _⟩
    · replace hq := hq.out
      rw [if_neg hx] at hq
      subst hq
      have d1 : (yp == 1) = false := by simpa using hx
      replace hx := Lib.hid hx
      go_wp2_with (refine wpList_stRow rfl rfl rfl rfl rfl b0 rfl_size rfl (by simp [Value.oneCell']) ?_)
      exact bodyPost_ret (results_row2 rfl _ rfl (b0.setRow _) Try.underlying34 rfl_size) rfl ⟨rfl, below_setRow bel (Nat.le_refl _) _⟩
  · go_upto_region 7 with fail
    go_region
    clear m3 m4 m5 p1 p2 p6 p10 p11 p12
    replace b0 := b0.drew
    replace bh := bh.drew
    replace bp := bp.drew
    replace bel := bel.drew
    generalize (W2).drew = W3 at *
    have m3 := bh.cell 3
    have m4 := bh.cell 4
    have m5 := bh.cell 5
    have p1 := bp.cell 1
    have p2 := bp.cell 2
    have p6 := bp.cell 6
    have p10 := bp.cell 10
    have p11 := bp.cell 11
    have p12 := bp.cell 12
    go_upto_region 9 with fail
    go_region
    clear m3 m4 m5 p1 p2 p6 p10 p11 p12
    replace b0 := b0.drew
    replace bh := bh.drew
    replace bp := bp.drew
    replace bel := bel.drew
    generalize (W3).drew = W4 at *
    have m3 := bh.cell 3
    have m4 := bh.cell 4
    have m5 := bh.cell 5
    have p1 := bp.cell 1
    have p2 := bp.cell 2
    have p6 := bp.cell 6
    have p10 := bp.cell 10
    have p11 := bp.cell 11
    have p12 := bp.cell 12
    by_cases hx : yp = 1
    · replace hq := hq.out
      rw [if_pos hx] at hq
      subst hq
      have d1 : (yp == 1) = true := by simpa using hx
      replace hx := Lib.hid hx
      go_wp2_with (refine wpList_stRow rfl rfl rfl rfl rfl b0 rfl_size rfl (by simp [Value.oneCell']) ?_)
      exact bodyPost_ret (results_row2 rfl _ rfl (b0.setRow _) Try.underlying34 rfl_size) rfl ⟨rfl, below_setRow bel (Nat.le_refl _) _⟩
    · replace hq := hq.out
      rw [if_neg hx] at hq
      subst hq
      have d1 : (yp == 1) = false := by simpa using hx
      replace hx := Lib.hid hx
      go_wp2_with (refine wpList_stRow rfl rfl rfl rfl rfl b0 rfl_size rfl (by simp [Value.oneCell']) ?_)
      exact bodyPost_ret (results_row2 rfl _ rfl (b0.setRow _) Try.underlying34 rfl_size) rfl ⟨rfl, below_setRow bel (Nat.le_refl _) _⟩
  · go_upto_region 7 with fail
    go_region
    clear m3 m4 m5 p1 p2 p6 p10 p11 p12
    replace b0 := b0.drew
    replace bh := bh.drew
    replace bp := bp.drew
    replace bel := bel.drew
    generalize (W2).drew = W3 at *
    have m3 := bh.cell 3
    have m4 := bh.cell 4
    have m5 := bh.cell 5
    have p1 := bp.cell 1
    have p2 := bp.cell 2
    have p6 := bp.cell 6
    have p10 := bp.cell 10
    have p11 := bp.cell 11
    have p12 := bp.cell 12
    by_cases hx : yp = 1
    · replace hq := hq.out
      rw [if_pos hx] at hq
      subst hq
      have d1 : (yp == 1) = true := by simpa using hx
      replace hx := Lib.hid hx
      go_wp2_with (refine wpList_stRow rfl rfl rfl rfl rfl b0 rfl_size rfl (by simp [Value.oneCell']) ?_)
      exact bodyPost_ret (results_row2 rfl _ rfl (b0.setRow _) Try.underlying34 rfl_size) rfl ⟨rfl, below_setRow bel (Nat.le_refl _) _⟩
    · replace hq := hq.out
      rw [if_neg hx] at hq
      subst hq
      have d1 : (yp == 1) = false := by simpa using hx
      replace hx := Lib.hid hx
      go_wp2_with (refine wpList_stRow rfl rfl rfl rfl rfl b0 rfl_size rfl (by simp [Value.oneCell']) ?_)
      exact bodyPost_ret (results_row2 rfl _ rfl (b0.setRow _) Try.underlying34 rfl_size) rfl ⟨rfl, below_setRow bel (Nat.le_refl _) _⟩
theorem rFar_any (out : Bool) (l : List Int) (A : Option Addr) (len c B : Nat) (w : World) (hr : Rd .u8 w B A len l) (hB : B ≤ w.heap.size) (hlc : len ≤ c) (hcm : c ≤ 9223372036854775807) (hl : len ≤ 60000) :
    Calls Try.prog 8 #[.bool out, .slice A len c] w (FarPost w (farR out l).1 (farR out l).2.proto (farR out l).2.addr (farR out l).2.port) := by
  unfold farR
  by_cases hE : getE l = 0
  · rw [if_neg (fun h => h hE)]
    by_cases hE2 : (getR (hdIf l 0) l).1 = 0
    · rw [if_neg (fun h => h hE2)]
      exact rFar_ok out l A len c B w hr hB hlc hcm hl hE hE2 _ _ _ rfl
    · rw [if_pos hE2]
      exact rFar_bad out l A len c B w hr hB hlc hcm hl hE hE2
  · rw [if_pos hE]
    exact rFar_none out l A len c B w hr hB hlc hcm hl hE
/- Whose work: bounds, the walks of Worker. -/
def B16 (x : Int) : Prop := 0 ≤ x ∧ x ≤ 65535
def B32 (x : Int) : Prop := 0 ≤ x ∧ x ≤ 4294967295
def PB (p : Pt) : Prop := B16 p.src ∧ B16 p.dst ∧ B32 p.inner.src ∧ B32 p.inner.dst
theorem b16z : B16 0 := ⟨by omega, by omega⟩
theorem b32z : B32 0 := ⟨by omega, by omega⟩
theorem PB.z : PB Pt.z := ⟨b16z, b16z, b32z, b32z⟩
theorem PB.ports {p : Pt} {l : List Int} {i j : Nat} (h : PB p) (hl : ∀ x, x ∈ l → 0 ≤ x ∧ x ≤ 255) (hi : i + 2 ≤ l.length) (hj : j + 2 ≤ l.length) : PB (portsP p l i j) :=
  ⟨n2_bd hl hi, n2_bd hl hj, h.2.2.1, h.2.2.2⟩
theorem udpR_bd {h : Hd} {x : List Int} (hl : ∀ y, y ∈ x → 0 ≤ y ∧ y ≤ 255) : PB (udpR h x).2 := by
  unfold udpR
  split
  · exact PB.z
  split
  · exact PB.z
  split
  · exact PB.z
  · exact PB.ports PB.z hl (by omega) (by omega)
theorem tcpR_bd {h : Hd} {x : List Int} (hl : ∀ y, y ∈ x → 0 ≤ y ∧ y ≤ 255) : PB (tcpR h x).2 := by
  unfold tcpR
  split
  · exact PB.z
  split
  · exact PB.z
  split
  · exact PB.z
  · exact PB.ports PB.z hl (by omega) (by omega)
theorem faultR_bd {p : Pt} {at_ : Int} {b : List Int} (hp : PB p) (hl : ∀ y, y ∈ b → 0 ≤ y ∧ y ≤ 255) : PB (faultR p at_ b).2 := by
  unfold faultR
  by_cases hz : partE b = 0
  · rw [if_neg (fun h => h hz)]
    have h20 : 20 ≤ b.length := by
      rcases Nat.lt_or_ge b.length 20 with hh | hh
      · exfalso
        unfold partE shapeE at hz
        rw [if_pos hh] at hz
        simp at hz
      · exact hh
    have hd0 := hl (b.getD 0 0) (by rw [List.getD_eq_getElem?_getD, List.getElem?_eq_getElem (by omega)]; exact List.getElem_mem _)
    have hsz : (hdOf b).size = b.getD 0 0 % 16 * 4 := rfl
    have hi : B32 (hdOf b).src := n4_bd hl (by omega)
    have hj : B32 (hdOf b).dst := n4_bd hl (by omega)
    split
    · exact PB.z
    · have hdl : 8 ≤ (b.drop (hdOf b).size.toNat).length := by rw [List.length_drop]; omega
      have hdb : ∀ y, y ∈ b.drop (hdOf b).size.toNat → 0 ≤ y ∧ y ≤ 255 := fun y hy => hl y (List.mem_of_mem_drop hy)
      split
      · exact PB.ports ⟨hp.1, hp.2.1, hi, hj⟩ hdb (by omega) (by omega)
      split
      · exact PB.ports ⟨hp.1, hp.2.1, hi, hj⟩ hdb (by omega) (by omega)
      · exact PB.z
  · rw [if_pos hz]; exact PB.z
theorem icmpR_bd {h : Hd} {x : List Int} (hl : ∀ y, y ∈ x → 0 ≤ y ∧ y ≤ 255) : PB (icmpR h x).2 := by
  unfold icmpR
  split
  · exact PB.z
  split
  · exact PB.z
  split
  · split
    · exact PB.z
    · exact PB.ports PB.z hl (by omega) (by omega)
  split
  · exact faultR_bd PB.z (fun y hy => hl y (List.mem_of_mem_drop hy))
  · exact PB.z
theorem getR_bd {h : Hd} {b : List Int} (hl : ∀ y, y ∈ b → 0 ≤ y ∧ y ≤ 255) : PB (getR h b).2 := by
  unfold getR
  split
  · exact PB.z
  split
  · exact udpR_bd (fun y hy => hl y (seg_mem hy))
  split
  · exact tcpR_bd (fun y hy => hl y (seg_mem hy))
  split
  · exact icmpR_bd (fun y hy => hl y (seg_mem hy))
  · exact PB.z
theorem b16_if {c : Prop} [Decidable c] {x : Int} (h : B16 x) : B16 (if c then 0 else x) := by
  split
  · exact b16z
  · exact h
theorem farR_bd (out : Bool) {l : List Int} (hl : ∀ y, y ∈ l → 0 ≤ y ∧ y ≤ 255) : B32 (farR out l).2.addr ∧ B16 (farR out l).2.port := by
  unfold farR
  by_cases hE : getE l = 0
  · rw [if_neg (fun h => h hE)]
    have hb := hd_bds hl hE
    have hp := getR_bd (h := hdIf l 0) hl
    split
    · exact ⟨b32z, b16z⟩
    · unfold farP
      split
      · split
        · exact ⟨hp.2.2.1, b16_if hp.1⟩
        · exact ⟨hp.2.2.2, b16_if hp.2.1⟩
      · split
        · exact ⟨hb.2, b16_if hp.2.1⟩
        · exact ⟨hb.1, b16_if hp.1⟩
  · rw [if_pos hE]
    exact ⟨b32z, b16z⟩
set_option maxRecDepth 100000 in
set_option maxHeartbeats 1000000 in
theorem Worker_any (k : Int) (out : Bool) (l : List Int) (A : Option Addr) (len c B : Nat) (w : World) (hr : Rd .u8 w B A len l) (hB : B ≤ w.heap.size) (hlc : len ≤ c) (hcm : c ≤ 9223372036854775807) (hl : len ≤ 60000) (hk : k ≤ 9223372036854775807) :
    Calls Try.prog 10 #[.int .i64 k, .bool out, .slice A len c] w fun e w' => e = .returned (.int .i64 (workR k out l)) ∧ Below w.heap.size w w' := by
  have hbd := farR_bd out (fun x hx => inr_u8 (hr.rng x hx))
  have hfar := fun W (h : Below w.heap.size w W) => Far_any out l A len c w.heap.size W ((hr.more hB).below h) h.size hlc hcm hl
  unfold workR
  generalize farR out l = R at *
  obtain ⟨E, ⟨p, a, q⟩⟩ := R
  simp only at hbd hfar ⊢
  unfold FarPost at hfar
  replace hfar := Lib.hid hfar
  have hash := fun W => Hash_any p a q W hbd.1 hbd.2
  have hh := hashR_bd ⟨p, a, q⟩
  generalize hashR ⟨p, a, q⟩ = H at *
  replace hash := Lib.hid hash
  by_cases hbad : E ≠ 0 ∨ k < 1
  · rw [if_pos hbad]
    go_enter Try.func10, Try.ntmps10
    go_wp2_with fail
    refine (hfar.out _ (Below.refl _ _)).mono ?_
    rintro e w1 ⟨rfl, hb1⟩
    have bel := hb1.alloc hb1.size (.cells #[.int .i64 p, .int .u32 a, .int .u16 q] 30)
    clear hfar hash
    by_cases hE : E = 0
    · have hk1 : k < 1 := by omega
      have d1 : (E != 0) = false := by simpa using hE
      have d2 : decide (k < 1) = true := by simpa using hk1
      clear hE hbad hk1
      go_wp2
      go_ret
      exact ⟨rfl, bel⟩
    · have d1 : (E != 0) = true := by simpa using hE
      clear hE hbad
      go_wp2
      go_ret
      exact ⟨rfl, bel⟩
  · rw [if_neg hbad]
    have hE : E = 0 := by omega
    have hk1 : 1 ≤ k := by omega
    have d1 : (E != 0) = false := by simpa using hE
    have d2 : decide (k < 1) = false := by simp; omega
    have hwk : Value.int .u64 (IntKind.u64.wrap k) = .int .u64 k := by congr 1; rw [IntKind.wrap_u64]; omega
    obtain ⟨m, hm⟩ : ∃ m : Nat, H % k = (m : Int) := ⟨(H % k).toNat, by have := Int.emod_nonneg H (b := k) (by omega); omega⟩
    have hmk : (m : Int) < k := by rw [← hm]; exact Int.emod_lt_of_pos _ (by omega)
    have hmv : Value.int .u64 (H.tmod k) = .int .u64 (m : Int) := by rw [Int.tmod_eq_emod_of_nonneg hh.1, hm]
    rw [hm]
    clear hm hbad hE
    go_enter Try.func10, Try.ntmps10
    go_wp2_with fail
    refine (hfar.out _ (Below.refl _ _)).mono ?_
    rintro e w1 ⟨rfl, hb1⟩
    have bel := hb1.alloc hb1.size (.cells #[.int .i64 p, .int .u32 a, .int .u16 q] 30)
    have bx := Blk.new w1 30 #[.int .i64 p, .int .u32 a, .int .u16 q]
    clear hfar
    go_wp2_with fail
    refine (hash.out _).mono ?_
    rintro e w2 ⟨rfl, hb2⟩
    go_wp2
    go_ret
    exact ⟨rfl, bel_after bel hb2⟩
set_option maxRecDepth 100000 in
set_option maxHeartbeats 1000000 in
theorem rWorker_any (k : Int) (out : Bool) (l : List Int) (A : Option Addr) (len c B : Nat) (w : World) (hr : Rd .u8 w B A len l) (hB : B ≤ w.heap.size) (hlc : len ≤ c) (hcm : c ≤ 9223372036854775807) (hl : len ≤ 60000) (hk : k ≤ 9223372036854775807) :
    Calls Try.prog 11 #[.int .i64 k, .bool out, .slice A len c] w fun e w' => e = .returned (.int .i64 (workR k out l)) ∧ Below w.heap.size w w' := by
  have hbd := farR_bd out (fun x hx => inr_u8 (hr.rng x hx))
  have hfar := fun W (h : Below w.heap.size w W) => rFar_any out l A len c w.heap.size W ((hr.more hB).below h) h.size hlc hcm hl
  unfold workR
  generalize farR out l = R at *
  obtain ⟨E, ⟨p, a, q⟩⟩ := R
  simp only at hbd hfar ⊢
  unfold FarPost at hfar
  replace hfar := Lib.hid hfar
  have hash := fun W => rHash_any p a q W hbd.1 hbd.2
  have hh := hashR_bd ⟨p, a, q⟩
  generalize hashR ⟨p, a, q⟩ = H at *
  replace hash := Lib.hid hash
  by_cases hbad : E ≠ 0 ∨ k < 1
  · rw [if_pos hbad]
    go_enter Try.func11, Try.ntmps11
    go_wp2_with fail
    refine (hfar.out _ (Below.refl _ _)).mono ?_
    rintro e w1 ⟨rfl, hb1⟩
    have bel := hb1.alloc hb1.size (.cells #[.int .i64 p, .int .u32 a, .int .u16 q] 34)
    clear hfar hash
    by_cases hE : E = 0
    · have hk1 : k < 1 := by omega
      have d1 : (E != 0) = false := by simpa using hE
      have d2 : decide (k < 1) = true := by simpa using hk1
      clear hE hbad hk1
      go_wp2
      go_ret
      exact ⟨rfl, bel⟩
    · have d1 : (E != 0) = true := by simpa using hE
      clear hE hbad
      go_wp2
      go_ret
      exact ⟨rfl, bel⟩
  · rw [if_neg hbad]
    have hE : E = 0 := by omega
    have hk1 : 1 ≤ k := by omega
    have d1 : (E != 0) = false := by simpa using hE
    have d2 : decide (k < 1) = false := by simp; omega
    have hwk : Value.int .u64 (IntKind.u64.wrap k) = .int .u64 k := by congr 1; rw [IntKind.wrap_u64]; omega
    obtain ⟨m, hm⟩ : ∃ m : Nat, H % k = (m : Int) := ⟨(H % k).toNat, by have := Int.emod_nonneg H (b := k) (by omega); omega⟩
    have hmk : (m : Int) < k := by rw [← hm]; exact Int.emod_lt_of_pos _ (by omega)
    have hmv : Value.int .u64 (H.tmod k) = .int .u64 (m : Int) := by rw [Int.tmod_eq_emod_of_nonneg hh.1, hm]
    rw [hm]
    clear hm hbad hE
    go_enter Try.func11, Try.ntmps11
    go_wp2_with fail
    refine (hfar.out _ (Below.refl _ _)).mono ?_
    rintro e w1 ⟨rfl, hb1⟩
    have bel := hb1.alloc hb1.size (.cells #[.int .i64 p, .int .u32 a, .int .u16 q] 34)
    have bx := Blk.new w1 34 #[.int .i64 p, .int .u32 a, .int .u16 q]
    clear hfar
    go_wp2_with fail
    refine (hash.out _).mono ?_
    rintro e w2 ⟨rfl, hb2⟩
    go_wp2
    go_ret
    exact ⟨rfl, bel_after bel hb2⟩
/- The walk of the frames by few numbers (fanlightlaw15): some bytes. -/
def FR (w : World) (e : Ending) (w' : World) : Prop := ∃ L : List Int, L.length ≤ 130 ∧ Gives w L e w'
def XB (w' : World) (base g5 : Nat) (wt f : Int) (A : Option Addr) (m cap : Nat) : Prop := ∃ vs vd va vb : Int, B32 vs ∧ B32 vd ∧ B16 va ∧ B16 vb ∧ Blk w' g5 45 #[.int .i64 wt, .int .u32 vs, .int .u32 vd, .int .u16 va, .int .u16 vb, .int .i64 f, .slice A m cap] ∧ base ≤ g5
set_option maxRecDepth 100000 in
set_option maxHeartbeats 4000000 in
theorem Frame15_any (out : Bool) (wt wo po f be by_ ti : Int) (A : Option Addr) (len cap : Nat) (l : List Int) (w : World) (hr : Rd .u8 w w.heap.size A len l) (hlc : len ≤ cap) (hcm : cap ≤ 9223372036854775807) (hby : 0 ≤ by_ ∧ by_ ≤ 255) :
    Calls Try.prog 6 #[.agg #[.bool out, .int .i64 wt, .int .i64 wo, .int .i64 po, .int .i64 f, .slice A len cap, .int .i64 be, .int .u8 by_, .int .i64 ti]] w (FR w) := by
  obtain ⟨no, hno⟩ : ∃ no, (!out) = no := ⟨_, rfl⟩
  obtain ⟨m, hmn, hm1, hm2⟩ := minc 20 (by omega) len
  have hj0 : (0 : Int) ≤ (m : Int) := by omega
  have hj1 : (m : Int) ≤ (cap : Int) := by omega
  have hj2 : m ≤ cap := by omega
  have hrt := hr.take hm1
  obtain ⟨L, hL⟩ : ∃ L, L = l.take m := ⟨_, rfl⟩
  rw [← hL] at hrt
  clear hL hr
  obtain ⟨k, hk, hk7⟩ := modn wt 7 (by omega)
  have hkv : Value.int .u64 ((IntKind.u64.wrap wt).tmod 7) = .int .u64 (k : Int) := by rw [hk]
  obtain ⟨a1, ha1, ha1b⟩ := modn wo 3 (by omega)
  have hav : Value.int .u64 ((IntKind.u64.wrap wo).tmod 3) = .int .u64 (a1 : Int) := by rw [ha1]
  obtain ⟨a2, ha2, ha2b⟩ := modn ((IntKind.u64.wrap wo).tdiv 3) 3 (by omega)
  have hav2 : Value.int .u64 ((IntKind.u64.wrap ((IntKind.u64.wrap wo).tdiv 3)).tmod 3) = .int .u64 (a2 : Int) := by rw [ha2]
  obtain ⟨p5, hp5, hp5b⟩ := modn po 5 (by omega)
  have hpv5 : Value.int .u64 ((IntKind.u64.wrap po).tmod 5) = .int .u64 (p5 : Int) := by rw [hp5]
  obtain ⟨p44, hp44, hp44b⟩ := modn po 44 (by omega)
  have hpv44 : Value.int .u64 ((IntKind.u64.wrap po).tmod 44) = .int .u64 (p44 : Int) := by rw [hp44]
  have hfr := fun w' (h : Below w.heap.size w w') vs vd va vb (h1 : B32 vs) (h2 : B32 vd) (h3 : B16 va) (h4 : B16 vb) => Frame_any wt vs vd va vb f L A m cap k w' ((hrt.below h).more h.size) hj2 hcm h1 h2 h3 h4 hk (by omega)
  have hbd := fun vs vd va vb => frame_bd (k := k) (s := vs) (d := vd) (a := va) (b := vb) (f := f) (l := L.take 40) (by rw [List.length_take]; omega)
  clear hk ha1 ha2 hp5 hp44
  replace hfr := Lib.hid hfr
  replace hbd := Lib.hid hbd
  go_enter Try.func6, Try.ntmps6
  go_upto_region 1 with fail
  have bn := Blk.new w 24 #[.bool out, .int .i64 wt, .int .i64 wo, .int .i64 po, .int .i64 f, .slice A len cap, .int .i64 be, .int .u8 by_, .int .i64 ti]
  have bel := bel_alloc w (.cells #[.bool out, .int .i64 wt, .int .i64 wo, .int .i64 po, .int .i64 f, .slice A len cap, .int .i64 be, .int .u8 by_, .int .i64 ti] 24)
  generalize w.alloc (.cells #[.bool out, .int .i64 wt, .int .i64 wo, .int .i64 po, .int .i64 f, .slice A len cap, .int .i64 be, .int .u8 by_, .int .i64 ti] 24) = W at *
  have q2 := bn.cell 2
  go_region
  clear q2
  replace bn := bn.drew
  replace bel := bel.drew
  generalize W.drew = W1 at *
  go_upto_region 2 with fail
  have z0 : ∀ t : Tw (fun w' => Blk w' w.heap.size 24 #[.bool out, .int .i64 wt, .int .i64 wo, .int .i64 po, .int .i64 f, .slice A len cap, .int .i64 be, .int .u8 by_, .int .i64 ti]), t.w.cell? ⟨w.heap.size, 0, none⟩ = some (.bool out) := fun t => t.h.cell 0
  have z1 : ∀ t : Tw (fun w' => Blk w' w.heap.size 24 #[.bool out, .int .i64 wt, .int .i64 wo, .int .i64 po, .int .i64 f, .slice A len cap, .int .i64 be, .int .u8 by_, .int .i64 ti]), t.w.cell? ⟨w.heap.size, 1, none⟩ = some (.int .i64 wt) := fun t => t.h.cell 1
  have z2 : ∀ t : Tw (fun w' => Blk w' w.heap.size 24 #[.bool out, .int .i64 wt, .int .i64 wo, .int .i64 po, .int .i64 f, .slice A len cap, .int .i64 be, .int .u8 by_, .int .i64 ti]), t.w.cell? ⟨w.heap.size, 2, none⟩ = some (.int .i64 wo) := fun t => t.h.cell 2
  have z3 : ∀ t : Tw (fun w' => Blk w' w.heap.size 24 #[.bool out, .int .i64 wt, .int .i64 wo, .int .i64 po, .int .i64 f, .slice A len cap, .int .i64 be, .int .u8 by_, .int .i64 ti]), t.w.cell? ⟨w.heap.size, 3, none⟩ = some (.int .i64 po) := fun t => t.h.cell 3
  have z4 : ∀ t : Tw (fun w' => Blk w' w.heap.size 24 #[.bool out, .int .i64 wt, .int .i64 wo, .int .i64 po, .int .i64 f, .slice A len cap, .int .i64 be, .int .u8 by_, .int .i64 ti]), t.w.cell? ⟨w.heap.size, 4, none⟩ = some (.int .i64 f) := fun t => t.h.cell 4
  have z5 : ∀ t : Tw (fun w' => Blk w' w.heap.size 24 #[.bool out, .int .i64 wt, .int .i64 wo, .int .i64 po, .int .i64 f, .slice A len cap, .int .i64 be, .int .u8 by_, .int .i64 ti]), t.w.cell? ⟨w.heap.size, 5, none⟩ = some (.slice A len cap) := fun t => t.h.cell 5
  have ne : Nonempty (Tw (fun w' => Blk w' w.heap.size 24 #[.bool out, .int .i64 wt, .int .i64 wo, .int .i64 po, .int .i64 f, .slice A len cap, .int .i64 be, .int .u8 by_, .int .i64 ti])) := ⟨⟨_, bn⟩⟩
  refine wp_region_plan (fun w' => Blk w' w.heap.size 24 #[.bool out, .int .i64 wt, .int .i64 wo, .int .i64 po, .int .i64 f, .slice A len cap, .int .i64 be, .int .u8 by_, .int .i64 ti]) [(0, true), (1, true), (2, true), (3, true), (4, true), (5, true), (6, true), (7, true), (8, true), (9, true), (10, true), (11, true), (12, true), (13, true), (14, true), (15, true), (16, true), (17, true), (18, true), (19, true), (20, false), (21, false)] (by kernel_rfl) (by kernel_rfl) (by kernel_rfl) (by kernel_rfl) bn.drew ?_
  replace bn := bn.drew
  replace bel := bel.drew
  generalize W1.drew = W2 at *
  refine wpPl_qs 20 _ _ _ (by kernel_rfl) (by kernel_rfl) (by simp) ?_
  unfold clsS
  simp only [List.take_succ_cons, List.take_zero, List.drop_succ_cons, List.drop_zero, List.filterMap_cons, List.filterMap_nil, List.getElem?_toArray, List.getElem?_cons_zero, List.getElem?_cons_succ]
  repeat (first
    | go_big_quiet_skip
    | (go_big_quiet_want; go_big_quiet_op; go_big_quiet_on)
    | (refine id (?_ : wpQuiet _ _ _ _ (_ :: _) _); first | go_big_quiet_skip | (go_big_quiet_want; go_big_quiet_op; go_big_quiet_on)))
  refine wpQuiet_nil ?_
  clear z0 z1 z2 z3 z4 z5 hav hav2 hmn hj0 hj1
  refine wpPl_e _ (by rfl) (by kernel_rfl) (fun K hK => ?_)
  go_simp
  refine hK _ _ (bn.alloc _) ?_
  clear hK K
  refine wpPl_e _ (by rfl) (by kernel_rfl) (fun K hK => ?_)
  have hnl := bn.lt
  refine wp_stRow rfl rfl rfl rfl (Blk.new W2 _ _) sn_size rfl (by simp [Value.oneCell']) ?_
  refine hK _ _ ((bn.alloc _).setRow_far (by omega) _) ?_
  clear hK K ne
  unfold wpPl
  refine NoPanic.normal ?_
  have bx := (Blk.new W2 45 #[.int .i64 0, .int .u32 0, .int .u32 0, .int .u16 0, .int .u16 0, .int .i64 0, .slice none 0 0]).setRow #[.int .i64 wt, .int .u32 (167772161 + (a1 : Int)), .int .u32 (134744065 + (a2 : Int)), .int .u16 (5 + (p5 : Int)), .int .u16 53, .int .i64 f, .slice A m cap]
  have hbg : w.heap.size ≤ W2.heap.size := bel.size
  replace bn := (bn.alloc (.cells #[.int .i64 0, .int .u32 0, .int .u32 0, .int .u16 0, .int .u16 0, .int .i64 0, .slice none 0 0] 45)).setRow_far (g' := W2.heap.size) (by omega) #[.int .i64 wt, .int .u32 (167772161 + (a1 : Int)), .int .u32 (134744065 + (a2 : Int)), .int .u16 (5 + (p5 : Int)), .int .u16 53, .int .i64 f, .slice A m cap]
  replace bel := below_setRow (bel.alloc bel.size (.cells #[.int .i64 0, .int .u32 0, .int .u32 0, .int .u16 0, .int .u16 0, .int .i64 0, .slice none 0 0] 45)) bel.size #[.int .i64 wt, .int .u32 (167772161 + (a1 : Int)), .int .u32 (134744065 + (a2 : Int)), .int .u16 (5 + (p5 : Int)), .int .u16 53, .int .i64 f, .slice A m cap]
  generalize (W2.alloc (.cells #[.int .i64 0, .int .u32 0, .int .u32 0, .int .u16 0, .int .u16 0, .int .i64 0, .slice none 0 0] 45)).setRow W2.heap.size #[.int .i64 wt, .int .u32 (167772161 + (a1 : Int)), .int .u32 (134744065 + (a2 : Int)), .int .u16 (5 + (p5 : Int)), .int .u16 53, .int .i64 f, .slice A m cap] = W3 at *
  generalize W2.heap.size = g5 at *
  have q0 := bn.cell 0
  go_upto_if 44 with fail
  go_cut [] (fun wx => XB wx w.heap.size g5 wt f A m cap ∧ Blk wx w.heap.size 24 #[.bool out, .int .i64 wt, .int .i64 wo, .int .i64 po, .int .i64 f, .slice A len cap, .int .i64 be, .int .u8 by_, .int .i64 ti] ∧ Below w.heap.size w wx)
  case first =>
    cases no with
    | false =>
      go_wp2_with fail
      go_meet
      exact ⟨⟨_, _, _, _, ⟨by omega, by omega⟩, ⟨by omega, by omega⟩, ⟨by omega, by omega⟩, ⟨by omega, by omega⟩, bx, hbg⟩, bn, bel⟩
    | true =>
      go_upto_region 4 with fail
      clear q0
      have z3 : ∀ t : Tw (fun w' => Blk w' w.heap.size 24 #[.bool out, .int .i64 wt, .int .i64 wo, .int .i64 po, .int .i64 f, .slice A len cap, .int .i64 be, .int .u8 by_, .int .i64 ti]), t.w.cell? ⟨w.heap.size, 3, none⟩ = some (.int .i64 po) := fun t => t.h.cell 3
      have ne : Nonempty (Tw (fun w' => Blk w' w.heap.size 24 #[.bool out, .int .i64 wt, .int .i64 wo, .int .i64 po, .int .i64 f, .slice A len cap, .int .i64 be, .int .u8 by_, .int .i64 ti])) := ⟨⟨_, bn⟩⟩
      refine wp_region_plan (fun w' => Blk w' w.heap.size 24 #[.bool out, .int .i64 wt, .int .i64 wo, .int .i64 po, .int .i64 f, .slice A len cap, .int .i64 be, .int .u8 by_, .int .i64 ti]) [(0, true), (1, true), (2, true), (3, true), (4, true), (5, true), (6, true), (7, true), (8, false), (9, true), (10, false), (11, true), (12, false), (13, true), (14, false)] (by kernel_rfl) (by kernel_rfl) (by kernel_rfl) (by kernel_rfl) bn.drew ?_
      have hgn : w.heap.size ≠ g5 := bn.ne_ bx (by decide)
      replace bn := bn.drew
      replace bx := bx.drew
      replace bel := bel.drew
      generalize W3.drew = W4 at *
      refine wpPl_qs 8 _ _ _ (by kernel_rfl) (by kernel_rfl) (by simp) ?_
      unfold clsS
      simp only [List.take_succ_cons, List.take_zero, List.drop_succ_cons, List.drop_zero, List.filterMap_cons, List.filterMap_nil, List.getElem?_toArray, List.getElem?_cons_zero, List.getElem?_cons_succ]
      repeat (first
        | go_big_quiet_skip
        | (go_big_quiet_want; go_big_quiet_op; go_big_quiet_on)
        | (refine id (?_ : wpQuiet _ _ _ _ (_ :: _) _); first | go_big_quiet_skip | (go_big_quiet_want; go_big_quiet_op; go_big_quiet_on)))
      refine wpQuiet_nil ?_
      clear z3
      have c1 := bx.cell 1
      have f1 := bx.frozen 1
      refine wpPl_e _ (by rfl) (by kernel_rfl) (fun K hK => ?_)
      go_simp
      replace bn := bn.far (p := ⟨g5, 1, none⟩) hgn (.int .u32 (134744065 + (a2 : Int)))
      replace bx := bx.set_ 1 (.int .u32 (134744065 + (a2 : Int)))
      replace bel := bel.setCell (p := ⟨g5, 1, none⟩) hbg (.int .u32 (134744065 + (a2 : Int)))
      refine hK _ _ bn ?_
      clear hK K c1 f1
      generalize W4.setCell ⟨g5, 1, none⟩ (.int .u32 (134744065 + (a2 : Int))) = W5 at *
      refine wpPl_qs 1 _ _ _ (by kernel_rfl) (by kernel_rfl) (by simp) ?_
      unfold clsS
      simp only [List.take_succ_cons, List.take_zero, List.drop_succ_cons, List.drop_zero, List.filterMap_cons, List.filterMap_nil, List.getElem?_toArray, List.getElem?_cons_zero, List.getElem?_cons_succ]
      repeat (first
        | go_big_quiet_skip
        | (go_big_quiet_want; go_big_quiet_op; go_big_quiet_on)
        | (refine id (?_ : wpQuiet _ _ _ _ (_ :: _) _); first | go_big_quiet_skip | (go_big_quiet_want; go_big_quiet_op; go_big_quiet_on)))
      refine wpQuiet_nil ?_
      have c1 := bx.cell 2
      have f1 := bx.frozen 2
      refine wpPl_e _ (by rfl) (by kernel_rfl) (fun K hK => ?_)
      go_simp
      replace bn := bn.far (p := ⟨g5, 2, none⟩) hgn (.int .u32 3221225985)
      replace bx := bx.set_ 2 (.int .u32 3221225985)
      replace bel := bel.setCell (p := ⟨g5, 2, none⟩) hbg (.int .u32 3221225985)
      refine hK _ _ bn ?_
      clear hK K c1 f1
      generalize W5.setCell ⟨g5, 2, none⟩ (.int .u32 3221225985) = W6 at *
      refine wpPl_qs 1 _ _ _ (by kernel_rfl) (by kernel_rfl) (by simp) ?_
      unfold clsS
      simp only [List.take_succ_cons, List.take_zero, List.drop_succ_cons, List.drop_zero, List.filterMap_cons, List.filterMap_nil, List.getElem?_toArray, List.getElem?_cons_zero, List.getElem?_cons_succ]
      repeat (first
        | go_big_quiet_skip
        | (go_big_quiet_want; go_big_quiet_op; go_big_quiet_on)
        | (refine id (?_ : wpQuiet _ _ _ _ (_ :: _) _); first | go_big_quiet_skip | (go_big_quiet_want; go_big_quiet_op; go_big_quiet_on)))
      refine wpQuiet_nil ?_
      have c1 := bx.cell 3
      have f1 := bx.frozen 3
      refine wpPl_e _ (by rfl) (by kernel_rfl) (fun K hK => ?_)
      go_simp
      replace bn := bn.far (p := ⟨g5, 3, none⟩) hgn (.int .u16 53)
      replace bx := bx.set_ 3 (.int .u16 53)
      replace bel := bel.setCell (p := ⟨g5, 3, none⟩) hbg (.int .u16 53)
      refine hK _ _ bn ?_
      clear hK K c1 f1
      generalize W6.setCell ⟨g5, 3, none⟩ (.int .u16 53) = W7 at *
      refine wpPl_qs 1 _ _ _ (by kernel_rfl) (by kernel_rfl) (by simp) ?_
      unfold clsS
      simp only [List.take_succ_cons, List.take_zero, List.drop_succ_cons, List.drop_zero, List.filterMap_cons, List.filterMap_nil, List.getElem?_toArray, List.getElem?_cons_zero, List.getElem?_cons_succ]
      repeat (first
        | go_big_quiet_skip
        | (go_big_quiet_want; go_big_quiet_op; go_big_quiet_on)
        | (refine id (?_ : wpQuiet _ _ _ _ (_ :: _) _); first | go_big_quiet_skip | (go_big_quiet_want; go_big_quiet_op; go_big_quiet_on)))
      refine wpQuiet_nil ?_
      have c1 := bx.cell 4
      have f1 := bx.frozen 4
      refine wpPl_e _ (by rfl) (by kernel_rfl) (fun K hK => ?_)
      go_simp
      replace bn := bn.far (p := ⟨g5, 4, none⟩) hgn (.int .u16 (998 + (p44 : Int)))
      replace bx := bx.set_ 4 (.int .u16 (998 + (p44 : Int)))
      replace bel := bel.setCell (p := ⟨g5, 4, none⟩) hbg (.int .u16 (998 + (p44 : Int)))
      refine hK _ _ bn ?_
      clear hK K c1 f1
      generalize W7.setCell ⟨g5, 4, none⟩ (.int .u16 (998 + (p44 : Int))) = W8 at *
      unfold wpPl
      refine NoPanic.normal ?_
      go_wp2_with fail
      go_meet
      replace bx : Blk W8 g5 45 #[.int .i64 wt, .int .u32 (134744065 + (a2 : Int)), .int .u32 3221225985, .int .u16 53, .int .u16 (998 + (p44 : Int)), .int .i64 f, .slice A m cap] := bx
      exact ⟨⟨_, _, _, _, ⟨by omega, by omega⟩, ⟨by omega, by omega⟩, ⟨by omega, by omega⟩, ⟨by omega, by omega⟩, bx, hbg⟩, bn, bel⟩
  case rest =>
    clear bx bn bel hbg q0
    obtain ⟨⟨vs, vd, va, vb, hvs, hvd, hva, hvb, bx, hbg⟩, bn, bel⟩ := hcut
    have q0 := bn.cell 0
    have q1 := bn.cell 1
    go_upto_region 5 with fail
    go_cut [79] (fun s79 wx => (∃ x : Bool, s79 = .bool x) ∧ wc = wx)
    case first =>
      have hk' : k = 3 ∨ k = 2 ∨ (k ≠ 3 ∧ k ≠ 2) := by omega
      rcases hk' with hk0 | hk0 | hk0
      · have d3 : ((k : Int) == 3) = true := by simp; omega
        have d2 : ((k : Int) == 2) = false := by simp; omega
        replace hk0 := Lib.hid hk0
        cases no <;> (go_wp2_with fail; go_meet; exact ⟨⟨_, rfl⟩, rfl⟩)
      · have d3 : ((k : Int) == 3) = false := by simp; omega
        have d2 : ((k : Int) == 2) = true := by simp; omega
        replace hk0 := Lib.hid hk0
        cases no <;> (go_wp2_with fail; go_meet; exact ⟨⟨_, rfl⟩, rfl⟩)
      · have d3 : ((k : Int) == 3) = false := by simp; omega
        have d2 : ((k : Int) == 2) = false := by simp; omega
        replace hk0 := Lib.hid hk0
        cases no <;> (go_wp2_with fail; go_meet; exact ⟨⟨_, rfl⟩, rfl⟩)
    case rest =>
      obtain ⟨⟨x, rfl⟩, rfl⟩ := hcut
      clear q0 q1
      go_upto_if 79 with fail
      have hgn : w.heap.size ≠ g5 := bn.ne_ bx (by decide)
      go_cut [] (fun wx => XB wx w.heap.size g5 wt f A m cap ∧ Blk wx w.heap.size 24 #[.bool out, .int .i64 wt, .int .i64 wo, .int .i64 po, .int .i64 f, .slice A len cap, .int .i64 be, .int .u8 by_, .int .i64 ti] ∧ Below w.heap.size w wx)
      case first =>
        cases x with
        | false =>
          go_wp2_with fail
          go_meet
          exact ⟨⟨_, _, _, _, hvs, hvd, hva, hvb, bx, hbg⟩, bn, bel⟩
        | true =>
          have c4 := bx.cell 4
          have c3 := bx.cell 3
          have f3 := bx.frozen 3
          go_wp2_with fail
          go_meet
          replace bx : Blk (wc.setCell ⟨g5, 3, none⟩ (.int .u16 vb)) g5 45 #[.int .i64 wt, .int .u32 vs, .int .u32 vd, .int .u16 vb, .int .u16 vb, .int .i64 f, .slice A m cap] := bx.set_ 3 (.int .u16 vb)
          exact ⟨⟨_, _, _, _, hvs, hvd, hvb, hvb, bx, hbg⟩, bn.far (p := ⟨g5, 3, none⟩) hgn _, bel.setCell (p := ⟨g5, 3, none⟩) hbg _⟩
      case rest =>
        clear bx bn bel hbg hvs hvd hva hvb
        obtain ⟨⟨vs, vd, va, vb, hvs, hvd, hva, hvb, bx, hbg⟩, bn, bel⟩ := hcut
        obtain ⟨x6, h6⟩ : ∃ x6, ((k : Int) == 6) = x6 := ⟨_, rfl⟩
        have q1 := bn.cell 1
        go_upto_if 88 with fail
        clear q1
        go_cut [] (fun wx => XB wx w.heap.size g5 wt f A m cap ∧ Blk wx w.heap.size 24 #[.bool out, .int .i64 wt, .int .i64 wo, .int .i64 po, .int .i64 f, .slice A len cap, .int .i64 be, .int .u8 by_, .int .i64 ti] ∧ Below w.heap.size w wx)
        case first =>
          have q0 := bn.cell 0
          have q3 := bn.cell 3
          have c4 := bx.cell 4
          have c3 := bx.cell 3
          have f4 := bx.frozen 4
          cases x6 with
          | false =>
            go_wp2_with fail
            go_meet
            exact ⟨⟨_, _, _, _, hvs, hvd, hva, hvb, bx, hbg⟩, bn, bel⟩
          | true =>
            cases no with
            | false =>
              go_wp2_with fail
              go_meet
              replace bx : Blk (wc.setCell ⟨g5, 4, none⟩ (.int .u16 va)) g5 45 #[.int .i64 wt, .int .u32 vs, .int .u32 vd, .int .u16 va, .int .u16 va, .int .i64 f, .slice A m cap] := bx.set_ 4 (.int .u16 va)
              exact ⟨⟨_, _, _, _, hvs, hvd, hva, hva, bx, hbg⟩, bn.far (p := ⟨g5, 4, none⟩) hgn _, bel.setCell (p := ⟨g5, 4, none⟩) hbg _⟩
            | true =>
              go_wp2_with fail
              go_meet
              replace bx : Blk ((wc.setCell ⟨g5, 4, none⟩ (.int .u16 va)).setCell ⟨g5, 4, none⟩ (.int .u16 (998 + (p44 : Int)))) g5 45 #[.int .i64 wt, .int .u32 vs, .int .u32 vd, .int .u16 va, .int .u16 (998 + (p44 : Int)), .int .i64 f, .slice A m cap] := (bx.set_ 4 (.int .u16 va)).set_ 4 (.int .u16 (998 + (p44 : Int)))
              exact ⟨⟨_, _, _, _, hvs, hvd, hva, ⟨by omega, by omega⟩, bx, hbg⟩, (bn.far (p := ⟨g5, 4, none⟩) hgn _).far (p := ⟨g5, 4, none⟩) hgn _, (bel.setCell (p := ⟨g5, 4, none⟩) hbg _).setCell (p := ⟨g5, 4, none⟩) hbg _⟩
        case rest =>
          clear bx bn bel hbg hvs hvd hva hvb
          obtain ⟨⟨vs, vd, va, vb, hvs, hvd, hva, hvb, bx, hbg⟩, bn, bel⟩ := hcut
          go_wp2_with (refine wpList_ldRow rfl rfl rfl bx Try.underlying45 sn_size ?_)
          refine (hfr.out _ bel vs vd va vb hvs hvd hva hvb).mono ?_
          rintro e w1 ⟨v1, rfl, own1, bel1⟩
          replace own1 := own1.mono_ bel.size
          replace bn := bn.bel bel1
          replace bel := bel_after bel bel1
          clear bel1 bx hbg
          replace hbd := hbd.out vs vd va vb
          clear hfr hpv5 hpv44 hkv
          generalize frameL k vs vd va vb f (L.take 40) = X at *
          obtain ⟨n, hX⟩ : ∃ n, X.length = n := ⟨_, rfl⟩
          rw [hX] at hbd
          replace hX := Lib.hid hX
          have q7 := bn.cell 7
          go_upto_if 106 with fail
          go_cut [6] (fun s6 wx => ∃ F : List Int, F.length = n ∧ Own .u8 5 wx w.heap.size s6 F ∧ Below w.heap.size w wx)
          case first =>
            by_cases hb0 : by_ = 0
            · have d1 : (by_ != 0) = false := by simpa using hb0
              replace hb0 := Lib.hid hb0
              go_wp2_with fail
              go_meet
              exact ⟨X, hX.out, own1, bel⟩
            · have d1 : (by_ != 0) = true := by simpa using hb0
              clear hb0
              obtain ⟨g, c1, rfl, hc1, hc2, hg1, hg2⟩ := own1.formG hX.out (by omega)
              unfold maxLen at hc2
              obtain ⟨j, hj, hjn⟩ := modn be (n : Int) (by omega)
              have hjv : Value.int .u64 ((IntKind.u64.wrap be).tmod (n : Int)) = .int .u64 (j : Int) := by rw [hj]
              clear hj
              have hjn2 : j < n := by omega
              have hj0 : (0 : Int) ≤ (j : Int) := by omega
              obtain ⟨cj, fj, xj⟩ := own1.at_ hX.out (j := j) hjn2
              obtain ⟨xo, hxo⟩ : ∃ v, v = X.getD j 0 := ⟨_, rfl⟩
              rw [← hxo] at cj
              clear hxo xj
              obtain ⟨xv, hxv⟩ : ∃ v, bits .xor .u8 xo by_ = v := ⟨_, rfl⟩
              have hxb : 0 ≤ xv ∧ xv ≤ 255 := by
                rw [← hxv]
                have h : ∀ v : Int, 0 ≤ IntKind.u8.wrap v ∧ IntKind.u8.wrap v ≤ 255 := fun v => by rw [IntKind.wrap_u8' v]; omega
                exact h _
              have hne := own1.ne bn (by decide)
              have q6 := bn.cell 6
              go_upto_region 13 with fail
              go_region
              have own2 := (own1.set hX.out j (x := xv) (u8_inr hxb)).drew
              have hl2 : (X.set j xv).length = n := by rw [List.length_set]; exact hX.out
              replace bn := (bn.far (p := ⟨g, j, none⟩) hne (.int .u8 xv)).drew
              replace bel := (bel.setCell (p := ⟨g, j, none⟩) hg1 (.int .u8 xv)).drew
              clear cj fj own1 q6 q7
              generalize X.set j xv = F at *
              generalize (w1.setCell ⟨g, j, none⟩ (.int .u8 xv)).drew = W9 at *
              obtain ⟨x2, h2⟩ : ∃ x2, (be.tmod 2 == 0) = x2 := ⟨_, rfl⟩
              have q6 := bn.cell 6
              cases x2 with
              | false =>
                go_wp2_with fail
                go_meet
                exact ⟨F, hl2, own2, bel⟩
              | true =>
                go_wp2_with fail
                clear q6
                refine (rFix_any F (some ⟨g, 0, none⟩) n c1 _ W9 (own2.rd hl2) (Nat.le_refl _) (by omega) (by omega)).mono ?_
                rintro e w3 ⟨v3, rfl, own3, bel3⟩
                replace own3 := own3.mono_ bel.size
                replace own2 := own2.below bel3
                replace bel := bel_after bel bel3
                clear bel3 bn hne hjv hjn2 hj0 hxv hxb h2
                have hl3 : (fixL F).length = n := by rw [fixL_len]; exact hl2
                have hY8 : ∀ x, x ∈ fixL F → 0 ≤ x ∧ x ≤ 255 := fun x hx => inr_u8 (own3.rng x hx)
                obtain ⟨g3, c3, rfl, hd1, hd2, hd3, hd4⟩ := own3.formG hl3 (by omega)
                unfold maxLen at hd2
                have hge := rGet_any (fixL F) false (some ⟨g3, 0, none⟩) n c3 _ w3 (own3.rd hl3) (Nat.le_refl _) hd1 (by omega) (by omega)
                rw [show getP (fixL F) false = getE (fixL F) from rfl] at hge
                by_cases hE : getE (fixL F) = 0
                · have hb := hd_bds hY8 hE
                  rw [hE] at hge
                  clear hE hY8
                  generalize hdIf (fixL F) 0 = H at *
                  obtain ⟨h0, h1, h2, h3, h4, h5⟩ := H
                  simp only [Hd.val] at hge hb
                  replace hge := Lib.hid hge
                  clear hl3 own3
                  go_wp2_with fail
                  refine hge.out.mono ?_
                  rintro e w4 ⟨rfl, hb4⟩
                  replace own2 := own2.below hb4
                  replace bel := bel_after bel hb4
                  clear hb4 hge
                  have hgl : g < w4.heap.size := (own2.lt g rfl).2
                  have bh := (Blk.new w4 50 #[.int .i64 0, .int .i64 0, .int .i64 0, .int .i64 0, .int .u32 0, .int .u32 0]).setRow #[.int .i64 h0, .int .i64 h1, .int .i64 h2, .int .i64 h3, .int .u32 h4, .int .u32 h5]
                  replace own2 := (own2.alloc (.cells #[.int .i64 0, .int .i64 0, .int .i64 0, .int .i64 0, .int .u32 0, .int .u32 0] 50)).upd (Upd.row (w4.alloc (.cells #[.int .i64 0, .int .i64 0, .int .i64 0, .int .i64 0, .int .u32 0, .int .u32 0] 50)) w4.heap.size #[.int .i64 h0, .int .i64 h1, .int .i64 h2, .int .i64 h3, .int .u32 h4, .int .u32 h5]) (by intro x hx e; simp [Value.ownBlock] at hx; omega)
                  replace bel := below_setRow (bel.alloc bel.size (.cells #[.int .i64 0, .int .i64 0, .int .i64 0, .int .i64 0, .int .u32 0, .int .u32 0] 50)) bel.size #[.int .i64 h0, .int .i64 h1, .int .i64 h2, .int .i64 h3, .int .u32 h4, .int .u32 h5]
                  go_upto_region 17 with (refine wpList_stRow rfl rfl rfl rfl rfl (Blk.new w4 _ _) rhd_size rfl (by simp [Value.oneCell']) ?_; generalize (w4.alloc (.cells #[.int .i64 0, .int .i64 0, .int .i64 0, .int .i64 0, .int .u32 0, .int .u32 0] 50)).setRow w4.heap.size #[.int .i64 h0, .int .i64 h1, .int .i64 h2, .int .i64 h3, .int .u32 h4, .int .u32 h5] = W4 at *; generalize w4.heap.size = g7 at *)
                  have z0 : ∀ t : Tw (fun w' => Blk w' g7 50 #[.int .i64 h0, .int .i64 h1, .int .i64 h2, .int .i64 h3, .int .u32 h4, .int .u32 h5]), t.w.cell? ⟨g7, 0, none⟩ = some (.int .i64 h0) := fun t => t.h.cell 0
                  have z1 : ∀ t : Tw (fun w' => Blk w' g7 50 #[.int .i64 h0, .int .i64 h1, .int .i64 h2, .int .i64 h3, .int .u32 h4, .int .u32 h5]), t.w.cell? ⟨g7, 1, none⟩ = some (.int .i64 h1) := fun t => t.h.cell 1
                  have z2 : ∀ t : Tw (fun w' => Blk w' g7 50 #[.int .i64 h0, .int .i64 h1, .int .i64 h2, .int .i64 h3, .int .u32 h4, .int .u32 h5]), t.w.cell? ⟨g7, 2, none⟩ = some (.int .i64 h2) := fun t => t.h.cell 2
                  have z3 : ∀ t : Tw (fun w' => Blk w' g7 50 #[.int .i64 h0, .int .i64 h1, .int .i64 h2, .int .i64 h3, .int .u32 h4, .int .u32 h5]), t.w.cell? ⟨g7, 3, none⟩ = some (.int .i64 h3) := fun t => t.h.cell 3
                  have z4 : ∀ t : Tw (fun w' => Blk w' g7 50 #[.int .i64 h0, .int .i64 h1, .int .i64 h2, .int .i64 h3, .int .u32 h4, .int .u32 h5]), t.w.cell? ⟨g7, 4, none⟩ = some (.int .u32 h4) := fun t => t.h.cell 4
                  have z5 : ∀ t : Tw (fun w' => Blk w' g7 50 #[.int .i64 h0, .int .i64 h1, .int .i64 h2, .int .i64 h3, .int .u32 h4, .int .u32 h5]), t.w.cell? ⟨g7, 5, none⟩ = some (.int .u32 h5) := fun t => t.h.cell 5
                  have ne : Nonempty (Tw (fun w' => Blk w' g7 50 #[.int .i64 h0, .int .i64 h1, .int .i64 h2, .int .i64 h3, .int .u32 h4, .int .u32 h5])) := ⟨⟨_, bh⟩⟩
                  refine wp_region_plan (fun w' => Blk w' g7 50 #[.int .i64 h0, .int .i64 h1, .int .i64 h2, .int .i64 h3, .int .u32 h4, .int .u32 h5]) [(0, true), (1, true), (2, false), (3, false), (4, true)] (by kernel_rfl) (by kernel_rfl) (by kernel_rfl) (by kernel_rfl) bh.drew ?_
                  replace bh := bh.drew
                  replace own2 := own2.drew
                  replace bel := bel.drew
                  generalize W4.drew = W5 at *
                  refine wpPl_qs 2 _ _ _ (by kernel_rfl) (by kernel_rfl) (by simp) ?_
                  unfold clsS
                  simp only [List.take_succ_cons, List.take_zero, List.drop_succ_cons, List.drop_zero, List.filterMap_cons, List.filterMap_nil, List.getElem?_toArray, List.getElem?_cons_zero, List.getElem?_cons_succ]
                  repeat (first
                    | go_big_quiet_skip
                    | (go_big_quiet_want; go_big_quiet_op; go_big_quiet_on)
                    | (refine id (?_ : wpQuiet _ _ _ _ (_ :: _) _); first | go_big_quiet_skip | (go_big_quiet_want; go_big_quiet_op; go_big_quiet_on)))
                  refine wpQuiet_nil ?_
                  clear z0 z1 z2 z3 z4 z5
                  refine wpPl_e _ (by rfl) (by kernel_rfl) (fun K hK => ?_)
                  go_simp
                  refine (rFix_any F (some ⟨g, 0, none⟩) n c1 _ W5 (own2.rd hl2) (Nat.le_refl _) (by omega) (by omega)).mono ?_
                  rintro e w5 ⟨v5, rfl, own5, bel5⟩
                  replace own5 := own5.mono_ bel.size
                  replace bh := bh.bel bel5
                  replace bel := bel_after bel bel5
                  clear bel5
                  have hl5 : (fixL F).length = n := by rw [fixL_len]; exact hl2
                  obtain ⟨g5', c5, rfl, hf1, hf2, hf3, hf4⟩ := own5.formG hl5 (by omega)
                  refine hK _ _ bh ?_
                  clear hK K
                  refine wpPl_e _ (by rfl) (by kernel_rfl) (fun K hK => ?_)
                  go_simp
                  refine (Right_any ⟨h0, h1, h2, h3, h4, h5⟩ (fixL F) (some ⟨g5', 0, none⟩) n c5 w5 (own5.rd hl5) (by omega) hb.1 hb.2).mono ?_
                  rintro e w6 ⟨R, hRl, v6, rfl, own6, bel6⟩
                  replace own6 := own6.mono_ bel.size
                  replace bh := bh.bel bel6
                  replace bel := bel_after bel bel6
                  refine hK _ _ bh ?_
                  clear hK K
                  refine wpPl_qs 1 _ _ _ (by kernel_rfl) (by kernel_rfl) (by simp) ?_
                  unfold clsS
                  simp only [List.take_succ_cons, List.take_zero, List.drop_succ_cons, List.drop_zero, List.filterMap_cons, List.filterMap_nil, List.getElem?_toArray, List.getElem?_cons_zero, List.getElem?_cons_succ]
                  repeat (first
                    | go_big_quiet_skip
                    | (go_big_quiet_want; go_big_quiet_op; go_big_quiet_on)
                    | (refine id (?_ : wpQuiet _ _ _ _ (_ :: _) _); first | go_big_quiet_skip | (go_big_quiet_want; go_big_quiet_op; go_big_quiet_on)))
                  refine wpQuiet_nil ?_
                  unfold wpPl
                  refine NoPanic.normal ?_
                  go_wp2_with fail
                  go_meet
                  exact ⟨R, hRl, own6, bel⟩
                · have hE1 : (getE (fixL F) == 0) = false := by simpa using hE
                  have hv : (hdIf (fixL F) (getE (fixL F))).val = Hd.z.val := by unfold hdIf; rw [if_neg hE]
                  rw [hv] at hge
                  simp only [Hd.val, Hd.z] at hge
                  clear hv hE hY8
                  generalize getE (fixL F) = E at *
                  replace hge := Lib.hid hge
                  clear hl3 own3
                  go_wp2_with fail
                  refine hge.out.mono ?_
                  rintro e w4 ⟨rfl, hb4⟩
                  replace own2 := own2.below hb4
                  replace bel := bel_after bel hb4
                  clear hb4 hge
                  have hgl : g < w4.heap.size := (own2.lt g rfl).2
                  replace own2 := (own2.alloc (.cells #[.int .i64 0, .int .i64 0, .int .i64 0, .int .i64 0, .int .u32 0, .int .u32 0] 50)).upd (Upd.row (w4.alloc (.cells #[.int .i64 0, .int .i64 0, .int .i64 0, .int .i64 0, .int .u32 0, .int .u32 0] 50)) w4.heap.size #[.int .i64 0, .int .i64 0, .int .i64 0, .int .i64 0, .int .u32 0, .int .u32 0]) (by intro x hx e; simp [Value.ownBlock] at hx; omega)
                  replace bel := below_setRow (bel.alloc bel.size (.cells #[.int .i64 0, .int .i64 0, .int .i64 0, .int .i64 0, .int .u32 0, .int .u32 0] 50)) bel.size #[.int .i64 0, .int .i64 0, .int .i64 0, .int .i64 0, .int .u32 0, .int .u32 0]
                  go_wp2_with (refine wpList_stRow rfl rfl rfl rfl rfl (Blk.new w4 _ _) rhd_size rfl (by simp [Value.oneCell']) ?_; generalize (w4.alloc (.cells #[.int .i64 0, .int .i64 0, .int .i64 0, .int .i64 0, .int .u32 0, .int .u32 0] 50)).setRow w4.heap.size #[.int .i64 0, .int .i64 0, .int .i64 0, .int .i64 0, .int .u32 0, .int .u32 0] = W4 at *; generalize w4.heap.size = g7 at *)
                  go_meet
                  exact ⟨F, hl2, own2, bel⟩
          case rest =>
            obtain ⟨F, hF, own2, bel⟩ := hcut
            go_wp2
            go_ret
            exact ⟨F, by omega, _, rfl, own2, bel⟩
/- A plain frame by few numbers; tells. -/
set_option maxRecDepth 100000 in
set_option maxHeartbeats 4000000 in
theorem Frame15_out (wt wo po f be ti : Int) (A : Option Addr) (len cap : Nat) (l : List Int) (a1 a2 p5 m : Nat) (w : World) (hr : Rd .u8 w w.heap.size A len l) (hlc : len ≤ cap) (hcm : cap ≤ 9223372036854775807)
    (hmn : (if (20 : Int) < (len : Int) then (20 : Int) else (len : Int)) = (m : Int)) (hm1 : m ≤ len) (hk : (IntKind.u64.wrap wt).tmod 7 = ((0 : Nat) : Int)) (ha1 : (IntKind.u64.wrap wo).tmod 3 = (a1 : Int)) (ha1b : (a1 : Int) < 3) (ha2 : (IntKind.u64.wrap ((IntKind.u64.wrap wo).tdiv 3)).tmod 3 = (a2 : Int)) (ha2b : (a2 : Int) < 3) (hp5 : (IntKind.u64.wrap po).tmod 5 = (p5 : Int)) (hp5b : (p5 : Int) < 5) :
    Calls Try.prog 6 #[.agg #[.bool true, .int .i64 wt, .int .i64 wo, .int .i64 po, .int .i64 f, .slice A len cap, .int .i64 be, .int .u8 0, .int .i64 ti]] w (Gives w (frameL 0 (167772161 + (a1 : Int)) (134744065 + (a2 : Int)) (5 + (p5 : Int)) 53 f ((l.take m).take 40))) := by
  have hj0 : (0 : Int) ≤ (m : Int) := by omega
  have hj1 : (m : Int) ≤ (cap : Int) := by omega
  have hj2 : m ≤ cap := by omega
  have hrt := hr.take hm1
  obtain ⟨L, hL⟩ : ∃ L, L = l.take m := ⟨_, rfl⟩
  rw [← hL] at hrt ⊢
  clear hL hr
  have hkv : Value.int .u64 ((IntKind.u64.wrap wt).tmod 7) = .int .u64 0 := by rw [hk]; rfl
  have hav : Value.int .u64 ((IntKind.u64.wrap wo).tmod 3) = .int .u64 (a1 : Int) := by rw [ha1]
  have hav2 : Value.int .u64 ((IntKind.u64.wrap ((IntKind.u64.wrap wo).tdiv 3)).tmod 3) = .int .u64 (a2 : Int) := by rw [ha2]
  have hpv5 : Value.int .u64 ((IntKind.u64.wrap po).tmod 5) = .int .u64 (p5 : Int) := by rw [hp5]
  have hfr := fun w' (h : Below w.heap.size w w') => Frame_any wt (167772161 + (a1 : Int)) (134744065 + (a2 : Int)) (5 + (p5 : Int)) 53 f L A m cap 0 w' ((hrt.below h).more h.size) hj2 hcm (by omega) (by omega) (by omega) (by omega) hk (by omega)
  unfold Gives at hfr
  obtain ⟨X, hX⟩ : ∃ X, X = frameL 0 (167772161 + (a1 : Int)) (134744065 + (a2 : Int)) (5 + (p5 : Int)) 53 f (L.take 40) := ⟨_, rfl⟩
  rw [← hX]
  simp only [← hX] at hfr
  clear hX hk ha1 ha2 hp5
  replace hfr := Lib.hid hfr
  go_enter Try.func6, Try.ntmps6
  go_upto_region 1 with fail
  have bn := Blk.new w 24 #[.bool true, .int .i64 wt, .int .i64 wo, .int .i64 po, .int .i64 f, .slice A len cap, .int .i64 be, .int .u8 0, .int .i64 ti]
  have bel := bel_alloc w (.cells #[.bool true, .int .i64 wt, .int .i64 wo, .int .i64 po, .int .i64 f, .slice A len cap, .int .i64 be, .int .u8 0, .int .i64 ti] 24)
  generalize w.alloc (.cells #[.bool true, .int .i64 wt, .int .i64 wo, .int .i64 po, .int .i64 f, .slice A len cap, .int .i64 be, .int .u8 0, .int .i64 ti] 24) = W at *
  have q2 := bn.cell 2
  go_region
  clear q2
  replace bn := bn.drew
  replace bel := bel.drew
  generalize W.drew = W1 at *
  go_upto_region 2 with fail
  have z0 : ∀ t : Tw (fun w' => Blk w' w.heap.size 24 #[.bool true, .int .i64 wt, .int .i64 wo, .int .i64 po, .int .i64 f, .slice A len cap, .int .i64 be, .int .u8 0, .int .i64 ti]), t.w.cell? ⟨w.heap.size, 0, none⟩ = some (.bool true) := fun t => t.h.cell 0
  have z1 : ∀ t : Tw (fun w' => Blk w' w.heap.size 24 #[.bool true, .int .i64 wt, .int .i64 wo, .int .i64 po, .int .i64 f, .slice A len cap, .int .i64 be, .int .u8 0, .int .i64 ti]), t.w.cell? ⟨w.heap.size, 1, none⟩ = some (.int .i64 wt) := fun t => t.h.cell 1
  have z2 : ∀ t : Tw (fun w' => Blk w' w.heap.size 24 #[.bool true, .int .i64 wt, .int .i64 wo, .int .i64 po, .int .i64 f, .slice A len cap, .int .i64 be, .int .u8 0, .int .i64 ti]), t.w.cell? ⟨w.heap.size, 2, none⟩ = some (.int .i64 wo) := fun t => t.h.cell 2
  have z3 : ∀ t : Tw (fun w' => Blk w' w.heap.size 24 #[.bool true, .int .i64 wt, .int .i64 wo, .int .i64 po, .int .i64 f, .slice A len cap, .int .i64 be, .int .u8 0, .int .i64 ti]), t.w.cell? ⟨w.heap.size, 3, none⟩ = some (.int .i64 po) := fun t => t.h.cell 3
  have z4 : ∀ t : Tw (fun w' => Blk w' w.heap.size 24 #[.bool true, .int .i64 wt, .int .i64 wo, .int .i64 po, .int .i64 f, .slice A len cap, .int .i64 be, .int .u8 0, .int .i64 ti]), t.w.cell? ⟨w.heap.size, 4, none⟩ = some (.int .i64 f) := fun t => t.h.cell 4
  have z5 : ∀ t : Tw (fun w' => Blk w' w.heap.size 24 #[.bool true, .int .i64 wt, .int .i64 wo, .int .i64 po, .int .i64 f, .slice A len cap, .int .i64 be, .int .u8 0, .int .i64 ti]), t.w.cell? ⟨w.heap.size, 5, none⟩ = some (.slice A len cap) := fun t => t.h.cell 5
  have ne : Nonempty (Tw (fun w' => Blk w' w.heap.size 24 #[.bool true, .int .i64 wt, .int .i64 wo, .int .i64 po, .int .i64 f, .slice A len cap, .int .i64 be, .int .u8 0, .int .i64 ti])) := ⟨⟨_, bn⟩⟩
  refine wp_region_plan (fun w' => Blk w' w.heap.size 24 #[.bool true, .int .i64 wt, .int .i64 wo, .int .i64 po, .int .i64 f, .slice A len cap, .int .i64 be, .int .u8 0, .int .i64 ti]) [(0, true), (1, true), (2, true), (3, true), (4, true), (5, true), (6, true), (7, true), (8, true), (9, true), (10, true), (11, true), (12, true), (13, true), (14, true), (15, true), (16, true), (17, true), (18, true), (19, true), (20, false), (21, false)] (by kernel_rfl) (by kernel_rfl) (by kernel_rfl) (by kernel_rfl) bn.drew ?_
  replace bn := bn.drew
  replace bel := bel.drew
  generalize W1.drew = W2 at *
  refine wpPl_qs 20 _ _ _ (by kernel_rfl) (by kernel_rfl) (by simp) ?_
  unfold clsS
  simp only [List.take_succ_cons, List.take_zero, List.drop_succ_cons, List.drop_zero, List.filterMap_cons, List.filterMap_nil, List.getElem?_toArray, List.getElem?_cons_zero, List.getElem?_cons_succ]
  repeat (first
    | go_big_quiet_skip
    | (go_big_quiet_want; go_big_quiet_op; go_big_quiet_on)
    | (refine id (?_ : wpQuiet _ _ _ _ (_ :: _) _); first | go_big_quiet_skip | (go_big_quiet_want; go_big_quiet_op; go_big_quiet_on)))
  refine wpQuiet_nil ?_
  clear z0 z1 z2 z3 z4 z5 hav hav2 hmn hj0 hj1
  refine wpPl_e _ (by rfl) (by kernel_rfl) (fun K hK => ?_)
  go_simp
  refine hK _ _ (bn.alloc _) ?_
  clear hK K
  refine wpPl_e _ (by rfl) (by kernel_rfl) (fun K hK => ?_)
  have hnl := bn.lt
  refine wp_stRow rfl rfl rfl rfl (Blk.new W2 _ _) sn_size rfl (by simp [Value.oneCell']) ?_
  refine hK _ _ ((bn.alloc _).setRow_far (by omega) _) ?_
  clear hK K ne
  unfold wpPl
  refine NoPanic.normal ?_
  have bx := (Blk.new W2 45 #[.int .i64 0, .int .u32 0, .int .u32 0, .int .u16 0, .int .u16 0, .int .i64 0, .slice none 0 0]).setRow #[.int .i64 wt, .int .u32 (167772161 + (a1 : Int)), .int .u32 (134744065 + (a2 : Int)), .int .u16 (5 + (p5 : Int)), .int .u16 53, .int .i64 f, .slice A m cap]
  have hbg : w.heap.size ≤ W2.heap.size := bel.size
  replace bn := (bn.alloc (.cells #[.int .i64 0, .int .u32 0, .int .u32 0, .int .u16 0, .int .u16 0, .int .i64 0, .slice none 0 0] 45)).setRow_far (g' := W2.heap.size) (by omega) #[.int .i64 wt, .int .u32 (167772161 + (a1 : Int)), .int .u32 (134744065 + (a2 : Int)), .int .u16 (5 + (p5 : Int)), .int .u16 53, .int .i64 f, .slice A m cap]
  replace bel := below_setRow (bel.alloc bel.size (.cells #[.int .i64 0, .int .u32 0, .int .u32 0, .int .u16 0, .int .u16 0, .int .i64 0, .slice none 0 0] 45)) bel.size #[.int .i64 wt, .int .u32 (167772161 + (a1 : Int)), .int .u32 (134744065 + (a2 : Int)), .int .u16 (5 + (p5 : Int)), .int .u16 53, .int .i64 f, .slice A m cap]
  generalize (W2.alloc (.cells #[.int .i64 0, .int .u32 0, .int .u32 0, .int .u16 0, .int .u16 0, .int .i64 0, .slice none 0 0] 45)).setRow W2.heap.size #[.int .i64 wt, .int .u32 (167772161 + (a1 : Int)), .int .u32 (134744065 + (a2 : Int)), .int .u16 (5 + (p5 : Int)), .int .u16 53, .int .i64 f, .slice A m cap] = W3 at *
  generalize W2.heap.size = g5 at *
  have q0 := bn.cell 0
  have q1 := bn.cell 1
  have q7 := bn.cell 7
  go_wp2_with (refine wpList_ldRow rfl rfl rfl bx Try.underlying45 sn_size ?_)
  refine (hfr.out _ bel).mono ?_
  rintro e w1 ⟨v1, rfl, own1, bel1⟩
  replace own1 := own1.mono_ bel.size
  replace bn := bn.bel bel1
  replace bel := bel_after bel bel1
  clear bel1 bx hbg q0 q1 q7
  have q7 := bn.cell 7
  go_wp2
  go_ret
  exact ⟨_, rfl, own1, bel⟩
/- tells. -/
theorem hashR_z : hashR ⟨0, 0, 0⟩ = 0 := by decide +kernel
set_option maxRecDepth 100000 in
set_option maxHeartbeats 1000000 in
theorem tells_any (w : World) :
    Calls Try.prog 12 #[] w fun e w' => e = .returned (.bool true) ∧ Below w.heap.size w w' := by
  have hlt : ([] : List Int).length ≤ 40 := by decide
  have hget := frame_get (k := 0) (s := 167772161) (d := 134744065) (a := 5) (b := 53) (f := 0) (l := []) (by omega) (by omega) hlt
  have hgot := frame_got (k := 0) (s := 167772161) (d := 134744065) (a := 5) (b := 53) (f := 0) (l := []) (by omega) (by omega) (by omega) (by omega) (fun x hx => by cases hx) (by omega)
  have hbd := frame_bd (k := 0) (s := 167772161) (d := 134744065) (a := 5) (b := 53) (f := 0) (l := []) hlt
  have hfr := fun W => Frame15_out 0 0 0 0 0 0 none 0 0 [] 0 0 0 0 W (Rd.nil _ _ _ _) (Nat.le_refl _) (by omega) (by rfl) (Nat.le_refl _) (by rfl) (by rfl) (by omega) (by rfl) (by omega) (by rfl) (by omega)
  have e1 : frameL 0 (167772161 + ((0 : Nat) : Int)) (134744065 + ((0 : Nat) : Int)) (5 + ((0 : Nat) : Int)) 53 0 ((([] : List Int).take 0).take 40) = frameL 0 167772161 134744065 5 53 0 [] := rfl
  rw [e1] at hfr
  clear e1
  generalize frameL 0 167772161 134744065 5 53 0 [] = X at *
  obtain ⟨n, hX⟩ : ∃ n, X.length = n := ⟨_, rfl⟩
  rw [hX] at hget hgot hbd
  have hR : farR true X = (0, ⟨17, 134744065, 53⟩) := by
    unfold farR
    rw [if_neg (fun h => h hget.1), hget.2, hgot]
    rfl
  have hfar := fun W A c (ho : Rd .u8 W W.heap.size A n X) (h1 : n ≤ c) (h2 : c ≤ 9223372036854775807) => Far_any true X A n c _ W ho (Nat.le_refl _) h1 h2 (by omega)
  rw [hR] at hfar
  simp only at hfar
  have hh0 := fun W => Hash_any 0 0 0 W (by omega) (by omega)
  rw [hashR_z] at hh0
  have hh1 := fun W => Hash_any 17 134744065 53 W (by omega) (by omega)
  have hh2 := fun W => rHash_any 17 134744065 53 W (by omega) (by omega)
  generalize hashR ⟨17, 134744065, 53⟩ = H at *
  clear hget hgot hR
  replace hX := Lib.hid hX
  replace hfr := Lib.hid hfr
  replace hfar := Lib.hid hfar
  replace hh0 := Lib.hid hh0
  replace hh1 := Lib.hid hh1
  replace hh2 := Lib.hid hh2
  go_enter Try.func12, Try.ntmps12
  go_wp2_with fail
  refine (hfr.out _).mono ?_
  rintro e w1 ⟨v1, rfl, own1, bel⟩
  obtain ⟨A1, c1, rfl, hc1, hc2, rd1⟩ := own1.form hX.out
  clear own1
  unfold maxLen at hc2
  go_wp2_with fail
  refine (hfar.out _ A1 c1 rd1 hc1 (by omega)).mono ?_
  rintro e w2 ⟨rfl, hb2⟩
  replace bel := bel_after bel hb2
  clear hb2 rd1
  have bx := Blk.new w2 30 #[.int .i64 17, .int .u32 134744065, .int .u16 53]
  replace bel := bel.alloc bel.size (.cells #[.int .i64 17, .int .u32 134744065, .int .u16 53] 30)
  go_wp2_with fail
  refine (hh0.out _).mono ?_
  rintro e w3 ⟨rfl, hb3⟩
  replace bx := bx.bel hb3
  replace bel := bel_after bel hb3
  clear hb3
  have q0 := bx.cell 0
  have q1 := bx.cell 1
  have q2 := bx.cell 2
  go_wp2_with fail
  refine (hh1.out _).mono ?_
  rintro e w4 ⟨rfl, hb4⟩
  replace bel := bel_after bel hb4
  clear hb4 q0 q1 q2
  go_wp2_with fail
  refine (hh2.out _).mono ?_
  rintro e w5 ⟨rfl, hb5⟩
  replace bel := bel_after bel hb5
  go_wp2
  go_ret
  exact ⟨rfl, bel⟩
end Go.Proofs.Ytcigiahpgnjekaa
