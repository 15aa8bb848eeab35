/- What the laws' proofs lean on: plain facts and contracts of the program's functions, laid together (1). -/
import Derived.WalkKit
import Derived.Lib.Hide
import Derived.Test.YtbckoohljkmahaaGreatPa01
import Derived.Laws.OwnMore
import Derived.Deep.AppendLies
import Derived.Deep.Draws
import Derived.Maps.AppendAt
import Derived.Test.YtbckoohljkmahaaGreatPa02
import Derived.Deep.QuietTactic
import Derived.BigQuiet
import Derived.Deep.RegionWith
import Derived.Deep.DeepMust
import Derived.Laws.MakeOwn
import Derived.Laws.Rows
import Derived.Test.YtbckoohljkmahaaGreatProg
import Derived.Test.YtbckoohljkmahaaGreatRows
import Derived.StillTailTactics
import Derived.Deep.RegionHeld3
import Derived.Test.YtbckoohljkmahaaGreatPa03
import Derived.Deep.WholeRow
import Derived.Deep.DeepCutAuto
import Derived.Deep.CutBlock
import Derived.Test.YtbckoohljkmahaaGreatPa04
import Derived.Test.YtbckoohljkmahaaGreatPa05
import Derived.Test.YtbckoohljkmahaaGreatPa09
import Derived.Test.YtbckoohljkmahaaGreatPa10
import Derived.Test.YtbckoohljkmahaaGreatPa11
import Derived.Test.YtbckoohljkmahaaGreatPa12
import Derived.ProofKit
import Derived.OpenShut
import Derived.ShutString
import Derived.ChangeOld
import Derived.Deep.Slices
import Derived.Test.YtbckoohljkmahaaGreatPa07
import Derived.Test.YtbckoohljkmahaaGreatPa13
import Derived.Test.YtbckoohljkmahaaGreatPa15
import Derived.Test.YtbckoohljkmahaaGreatPa14
import Derived.RegionTactic
import Derived.Test.YtbckoohljkmahaaGreatPa06
import Derived.Maps.OwnOps
import Derived.Maps.OwnSet
import Derived.Maps.Views
import Derived.DeepKeys5
import Derived.Test.YtbckoohljkmahaaGreatPa08
import Derived.Lib.LazyBuf
import Derived.Test.YtbckoohljkmahaaGreatPa16
namespace Go.Proofs.YtbckoohljkmahaaGreat
set_option linter.unusedVariables false
set_option linter.unusedSimpArgs false
open Go.RowKit
section
variable {P : Program} {ops : Array Oper} {Q : Exit → Act → World → Prop} {S : World → Prop}
theorem q_tw {B : Nat} {W : World} {f : FuncId} {args : Array Value} {v : Value} {t : Tw (fun w' => Below B W w')} (hB : B ≤ W.heap.size) (h : Calls P f args t.w fun e w' => e = .returned v ∧ Below t.w.heap.size t.w w') :
    Calls P f args t.w fun e w'' => e = .returned v ∧ ∃ t' : Tw (fun w' => Below B W w'), w'' = t'.w :=
  h.mono fun e w'' ⟨he, hb⟩ => ⟨he, ⟨w'', t.h.trans (hb.mono (Nat.le_trans hB t.h.size))⟩, rfl⟩
end
end Go.Proofs.YtbckoohljkmahaaGreat
namespace Go.Proofs.YtbckoohljkmahaaGreat
set_option linter.unusedVariables false
set_option linter.unusedSimpArgs false
open Go.RowKit
section
variable {s d a b : Int} {l : List Int} (hs : 0 ≤ s ∧ s ≤ 4294967295) (hd : 0 ≤ d ∧ d ≤ 4294967295) (ha : 0 ≤ a ∧ a ≤ 65535) (hb : 0 ≤ b ∧ b ≤ 65535) (hl : Bytes8 l)
include hs hd ha hb hl
end
section
variable {k a c : Int} {l : List Int} (hl : Bytes8 l)
include hl
end
end Go.Proofs.YtbckoohljkmahaaGreat
namespace Go.Proofs.YtbckoohljkmahaaGreat
set_option linter.unusedVariables false
set_option linter.unusedSimpArgs false
open Go.RowKit
section
variable {s d a b f : Int} {l : List Int} {h : Hd} (hs : 0 ≤ s ∧ s ≤ 4294967295) (hd : 0 ≤ d ∧ d ≤ 4294967295) (ha : 0 ≤ a ∧ a ≤ 65535) (hb : 0 ≤ b ∧ b ≤ 65535) (hl : Bytes8 l) (h1 : h.src = s) (h2 : h.dst = d)
include hs hd ha hb hl h1 h2
end
end Go.Proofs.YtbckoohljkmahaaGreat
namespace Go.Proofs.YtbckoohljkmahaaGreat
set_option linter.unusedVariables false
set_option linter.unusedSimpArgs false
open Go.RowKit
section
variable {k : Nat} {s d a b f : Int} {l : List Int} (hs : 0 ≤ s ∧ s ≤ 4294967295) (hd : 0 ≤ d ∧ d ≤ 4294967295) (ha : 0 ≤ a ∧ a ≤ 65535) (hb : 0 ≤ b ∧ b ≤ 65535) (hl : Bytes8 l) (hn : l.length ≤ 40)
include hn in
include hs hd hn in
include hs hd ha hb hl hn
end
section
variable {s d a b f : Int} {l : List Int} (hs : 0 ≤ s ∧ s ≤ 4294967295) (hd : 0 ≤ d ∧ d ≤ 4294967295) (ha : 0 ≤ a ∧ a ≤ 65535) (hb : 0 ≤ b ∧ b ≤ 65535) (hl : Bytes8 l) (hn : l.length ≤ 40)
include hs hd ha hb hl hn
end
end Go.Proofs.YtbckoohljkmahaaGreat
namespace Go.Proofs.YtbckoohljkmahaaGreat
set_option linter.unusedVariables false
set_option linter.unusedSimpArgs false
open Go.RowKit
def fixN (l : List Int) : Nat := if l.getD 0 0 % 16 * 4 < 20 ∨ (l.length : Int) < l.getD 0 0 % 16 * 4 then 20 else (l.getD 0 0 % 16 * 4).toNat
def fixZ (l : List Int) : List Int := (l.set 10 0).set 11 0
def fixL (l : List Int) : List Int := ((fixZ l).set 10 (sumOf ((fixZ l).take (fixN l)) / 256)).set 11 (sumOf ((fixZ l).take (fixN l)) % 256)
theorem fixL_len (l : List Int) : (fixL l).length = l.length := by simp [fixL, fixZ]
def FixRes (w : World) (l : List Int) (e : Ending) (w' : World) : Prop := ∃ v', e = .returned v' ∧ Own .u8 5 w' w.heap.size v' l ∧ Below w.heap.size w w'
set_option maxRecDepth 100000 in
set_option maxHeartbeats 4000000 in
theorem rHFix_any (l : List Int) (A : Option Addr) (len c B : Nat) (w : World) (hr : Rd .u8 w B A len l) (hB : B ≤ w.heap.size) (h20 : 20 ≤ len) (hl : len ≤ 100000) :
    Calls Tryz.prog 38 #[.slice A len c] w (FixRes w (fixL l)) := by
  obtain ⟨i0, hi, hz0, hz1, hz2⟩ := info_parts info_u8_
  have hr2 := ((hr.more hB).alloc (Nat.le_refl _) (.cells #[] 5)).more (Nat.le_succ _)
  have hlen := hr.len
  have own0 := Own.new .u8 w 5 w.heap.size (Nat.le_refl _) [] (by simp) #[] rfl 0 rfl (by simp)
  have hcs : (l.getD 0 0 % 16 * 4 < 20 ∧ fixN l = 20) ∨ (20 ≤ l.getD 0 0 % 16 * 4 ∧ (len : Int) < l.getD 0 0 % 16 * 4 ∧ fixN l = 20) ∨ (20 ≤ l.getD 0 0 % 16 * 4 ∧ l.getD 0 0 % 16 * 4 ≤ len ∧ ((fixN l : Nat) : Int) = l.getD 0 0 % 16 * 4) := by
    unfold fixN; rw [hlen]
    by_cases h1 : l.getD 0 0 % 16 * 4 < 20
    · rw [if_pos (.inl h1)]; exact .inl ⟨h1, rfl⟩
    · by_cases h2 : (len : Int) < l.getD 0 0 % 16 * 4
      · rw [if_pos (.inr h2)]; exact .inr (.inl ⟨by omega, h2, rfl⟩)
      · rw [if_neg (by omega)]; exact .inr (.inr ⟨by omega, by omega, by omega⟩)
  have hk20 : 20 ≤ fixN l ∧ fixN l ≤ len := by omega
  have hX : Hid (fixL l = ((fixZ l).set 10 (sumOf ((fixZ l).take (fixN l)) / 256)).set 11 (sumOf ((fixZ l).take (fixN l)) % 256)) := rfl
  have hZ : Hid (fixZ l = (l.set 10 0).set 11 0) := rfl
  generalize fixL l = X at *
  generalize fixN l = k at *
  generalize fixZ l = Z at *
  have hZl : Hid (Z.length = len) := Lib.hid (by rw [hZ.out]; simp [hlen])
  have hsb : 0 ≤ sumOf (Z.take k) ∧ sumOf (Z.take k) ≤ 65535 := by
    refine sumOf_bd fun x hx => ?_
    have := List.mem_of_mem_take hx
    rw [hZ.out] at this
    rcases List.mem_or_eq_of_mem_set this with h | h
    · rcases List.mem_or_eq_of_mem_set h with h | h
      · exact inr_u8 (hr.rng x h)
      · omega
    · omega
  obtain ⟨S, hS⟩ : ∃ S, S = sumOf (Z.take k) := ⟨_, rfl⟩
  rw [← hS] at hX hsb
  have hof := fun W' A' c' B' h => rOf_any (Z.take k) A' k c' B' W' (by omega) h
  rw [← hS] at hof
  replace hof := Lib.hid hof
  have hSw : IntKind.u8.wrap S = S % 256 := IntKind.wrap_u8' S
  replace hSw := Lib.hid hSw
  clear hS
  replace hlen := Lib.hid hlen
  obtain ⟨f0, hf0⟩ : ∃ f, f = l.getD 0 0 := ⟨_, rfl⟩
  rw [← hf0] at hcs
  have x0 : 0 ≤ f0 ∧ f0 ≤ 255 := by rw [hf0]; exact inr_u8 (hr.at_ (j := 0) (by omega)).choose_spec.choose_spec.2.2.2
  replace hf0 := Lib.hid hf0
  have hkc : k ≤ len := hk20.2
  have hkI : (0 : Int) ≤ (k : Int) := by omega
  rcases hcs with ⟨h1, rfl⟩ | ⟨h1, h2, rfl⟩ | ⟨h1, h2, h3⟩
  · go_enter Tryz.func38, Tryz.ntmps38
    go_wp2_with (at_builtin; refine wpList_app _ rfl (.tmp 6) (.tmp 7) 22 rfl .u8 w.heap.size 5 i0 (.int .u8 0) 1 Tryz.underlying22 hi hz0 hz1 hz2 rfl (.slice (some ⟨w.heap.size, 0, none⟩) 0 0) rfl [] own0 (w.heap.size + 1) _ _ _ rfl l hr2 (by simp; omega) (by decide) (by simp) ?_; intro v1 w1 own1 hg1 _; rw [List.nil_append] at own1; obtain ⟨g, c1, rfl, hc1, hc2, hgb, hgw⟩ := own1.formG hlen.out (by omega); have bel1 : Below w.heap.size w w1 := ((Below.refl _ _).alloc (Nat.le_refl _) _).grown hg1 (by simp) (fun k h => by simp [Value.ownBlock] at h; omega); clear hg1; obtain ⟨k0, _, _⟩ := own1.at_ hlen.out (j := 0) (by omega); obtain ⟨k10, z10, _⟩ := own1.at_ hlen.out (j := 10) (by omega); obtain ⟨k11, z11, _⟩ := own1.at_ hlen.out (j := 11) (by omega); rw [← hf0.out] at k0; unfold maxLen at hc2; have hkc1 : 20 ≤ c1 := (by omega))
    have own2 := (own1.set hlen.out 10 (x := 0) (u8_inr (by omega))).set (by rw [List.length_set]; exact hlen.out) 11 (x := 0) (u8_inr (by omega))
    rw [← hZ.out] at own2
    have rd2 := own2.rd hZl.out
    have bel2 : Below w.heap.size w ((w1.setCell ⟨g, 10, none⟩ (.int .u8 0)).setCell ⟨g, 11, none⟩ (.int .u8 0)) := (bel1.setCell (p := ⟨g, 10, none⟩) hgb _).setCell (p := ⟨g, 11, none⟩) hgb _
    refine (hof.out _ _ _ _ (rd2.take hkc)).mono ?_
    rintro e w' ⟨rfl, rfl⟩
    have own3 := (own2.set hZl.out 10 (x := S / 256) (u8_inr (by omega))).set (by rw [List.length_set]; exact hZl.out) 11 (x := S % 256) (u8_inr (by omega))
    rw [← hX.out] at own3
    replace hSw := hSw.out
    go_wp2
    go_ret
    refine ⟨_, rfl, ?_, ?_⟩
    · exact own3
    · exact (bel2.setCell (p := ⟨g, 10, none⟩) hgb _).setCell (p := ⟨g, 11, none⟩) hgb _
  · go_enter Tryz.func38, Tryz.ntmps38
    go_wp2_with (at_builtin; refine wpList_app _ rfl (.tmp 6) (.tmp 7) 22 rfl .u8 w.heap.size 5 i0 (.int .u8 0) 1 Tryz.underlying22 hi hz0 hz1 hz2 rfl (.slice (some ⟨w.heap.size, 0, none⟩) 0 0) rfl [] own0 (w.heap.size + 1) _ _ _ rfl l hr2 (by simp; omega) (by decide) (by simp) ?_; intro v1 w1 own1 hg1 _; rw [List.nil_append] at own1; obtain ⟨g, c1, rfl, hc1, hc2, hgb, hgw⟩ := own1.formG hlen.out (by omega); have bel1 : Below w.heap.size w w1 := ((Below.refl _ _).alloc (Nat.le_refl _) _).grown hg1 (by simp) (fun k h => by simp [Value.ownBlock] at h; omega); clear hg1; obtain ⟨k0, _, _⟩ := own1.at_ hlen.out (j := 0) (by omega); obtain ⟨k10, z10, _⟩ := own1.at_ hlen.out (j := 10) (by omega); obtain ⟨k11, z11, _⟩ := own1.at_ hlen.out (j := 11) (by omega); rw [← hf0.out] at k0; unfold maxLen at hc2; have hkc1 : 20 ≤ c1 := (by omega))
    have own2 := (own1.set hlen.out 10 (x := 0) (u8_inr (by omega))).set (by rw [List.length_set]; exact hlen.out) 11 (x := 0) (u8_inr (by omega))
    rw [← hZ.out] at own2
    have rd2 := own2.rd hZl.out
    have bel2 : Below w.heap.size w ((w1.setCell ⟨g, 10, none⟩ (.int .u8 0)).setCell ⟨g, 11, none⟩ (.int .u8 0)) := (bel1.setCell (p := ⟨g, 10, none⟩) hgb _).setCell (p := ⟨g, 11, none⟩) hgb _
    refine (hof.out _ _ _ _ (rd2.take hkc)).mono ?_
    rintro e w' ⟨rfl, rfl⟩
    have own3 := (own2.set hZl.out 10 (x := S / 256) (u8_inr (by omega))).set (by rw [List.length_set]; exact hZl.out) 11 (x := S % 256) (u8_inr (by omega))
    rw [← hX.out] at own3
    replace hSw := hSw.out
    go_wp2
    go_ret
    refine ⟨_, rfl, ?_, ?_⟩
    · exact own3
    · exact (bel2.setCell (p := ⟨g, 10, none⟩) hgb _).setCell (p := ⟨g, 11, none⟩) hgb _
  · replace h3 := h3.symm
    go_enter Tryz.func38, Tryz.ntmps38
    go_wp2_with (at_builtin; refine wpList_app _ rfl (.tmp 6) (.tmp 7) 22 rfl .u8 w.heap.size 5 i0 (.int .u8 0) 1 Tryz.underlying22 hi hz0 hz1 hz2 rfl (.slice (some ⟨w.heap.size, 0, none⟩) 0 0) rfl [] own0 (w.heap.size + 1) _ _ _ rfl l hr2 (by simp; omega) (by decide) (by simp) ?_; intro v1 w1 own1 hg1 _; rw [List.nil_append] at own1; obtain ⟨g, c1, rfl, hc1, hc2, hgb, hgw⟩ := own1.formG hlen.out (by omega); have bel1 : Below w.heap.size w w1 := ((Below.refl _ _).alloc (Nat.le_refl _) _).grown hg1 (by simp) (fun k h => by simp [Value.ownBlock] at h; omega); clear hg1; obtain ⟨k0, _, _⟩ := own1.at_ hlen.out (j := 0) (by omega); obtain ⟨k10, z10, _⟩ := own1.at_ hlen.out (j := 10) (by omega); obtain ⟨k11, z11, _⟩ := own1.at_ hlen.out (j := 11) (by omega); rw [← hf0.out] at k0; unfold maxLen at hc2; have hkc1 : k ≤ c1 := (by omega))
    have own2 := (own1.set hlen.out 10 (x := 0) (u8_inr (by omega))).set (by rw [List.length_set]; exact hlen.out) 11 (x := 0) (u8_inr (by omega))
    rw [← hZ.out] at own2
    have rd2 := own2.rd hZl.out
    have bel2 : Below w.heap.size w ((w1.setCell ⟨g, 10, none⟩ (.int .u8 0)).setCell ⟨g, 11, none⟩ (.int .u8 0)) := (bel1.setCell (p := ⟨g, 10, none⟩) hgb _).setCell (p := ⟨g, 11, none⟩) hgb _
    refine (hof.out _ _ _ _ (rd2.take hkc)).mono ?_
    rintro e w' ⟨rfl, rfl⟩
    have own3 := (own2.set hZl.out 10 (x := S / 256) (u8_inr (by omega))).set (by rw [List.length_set]; exact hZl.out) 11 (x := S % 256) (u8_inr (by omega))
    rw [← hX.out] at own3
    replace hSw := hSw.out
    go_wp2
    go_ret
    refine ⟨_, rfl, ?_, ?_⟩
    · exact own3
    · exact (bel2.setCell (p := ⟨g, 10, none⟩) hgb _).setCell (p := ⟨g, 11, none⟩) hgb _
end Go.Proofs.YtbckoohljkmahaaGreat
namespace Go.Proofs.YtbckoohljkmahaaGreat
set_option linter.unusedVariables false
set_option linter.unusedSimpArgs false
open Go.RowKit
def FR (w : World) (e : Ending) (w' : World) : Prop := ∃ L : List Int, (1 ≤ L.length ∧ L.length ≤ 130) ∧ Gives w L e w'
def XB (w' : World) (base g5 : Nat) (wt f : Int) (A : Option Addr) (m cap : Nat) : Prop := ∃ vs vd va vb : Int, B32 vs ∧ B32 vd ∧ B16 va ∧ B16 vb ∧ Blk w' g5 73 #[.int .i64 wt, .int .u32 vs, .int .u32 vd, .int .u16 va, .int .u16 vb, .int .i64 f, .slice A m cap] ∧ base ≤ g5
set_option maxRecDepth 100000 in
set_option maxHeartbeats 4000000 in
theorem Frame15_any (out : Bool) (wt wo po f be by_ ti : Int) (A : Option Addr) (len cap : Nat) (l : List Int) (w : World) (hr : Rd .u8 w w.heap.size A len l) (hlc : len ≤ cap) (hcm : cap ≤ 9223372036854775807) (hby : 0 ≤ by_ ∧ by_ ≤ 255) :
    Calls Tryz.prog 12 #[.agg #[.bool out, .int .i64 wt, .int .i64 wo, .int .i64 po, .int .i64 f, .slice A len cap, .int .i64 be, .int .u8 by_, .int .i64 ti]] w (FR w) := by
  obtain ⟨no, hno⟩ : ∃ no, (!out) = no := ⟨_, rfl⟩
  obtain ⟨m, hmn, hm1, hm2⟩ := minc 20 (by omega) len
  have hj0 : (0 : Int) ≤ (m : Int) := by omega
  have hj1 : (m : Int) ≤ (cap : Int) := by omega
  have hj2 : m ≤ cap := by omega
  have hrt := hr.take hm1
  obtain ⟨L, hL⟩ : ∃ L, L = l.take m := ⟨_, rfl⟩
  rw [← hL] at hrt
  clear hL hr
  obtain ⟨k, hk, hk7⟩ := modn wt 7 (by omega)
  have hkv : Value.int .u64 ((IntKind.u64.wrap wt).tmod 7) = .int .u64 (k : Int) := by rw [hk]
  obtain ⟨a1, ha1, ha1b⟩ := modn wo 3 (by omega)
  have hav : Value.int .u64 ((IntKind.u64.wrap wo).tmod 3) = .int .u64 (a1 : Int) := by rw [ha1]
  obtain ⟨a2, ha2, ha2b⟩ := modn ((IntKind.u64.wrap wo).tdiv 3) 3 (by omega)
  have hav2 : Value.int .u64 ((IntKind.u64.wrap ((IntKind.u64.wrap wo).tdiv 3)).tmod 3) = .int .u64 (a2 : Int) := by rw [ha2]
  obtain ⟨p5, hp5, hp5b⟩ := modn po 5 (by omega)
  have hpv5 : Value.int .u64 ((IntKind.u64.wrap po).tmod 5) = .int .u64 (p5 : Int) := by rw [hp5]
  obtain ⟨p44, hp44, hp44b⟩ := modn po 44 (by omega)
  have hpv44 : Value.int .u64 ((IntKind.u64.wrap po).tmod 44) = .int .u64 (p44 : Int) := by rw [hp44]
  have hfr := fun w' (h : Below w.heap.size w w') vs vd va vb (h1 : B32 vs) (h2 : B32 vd) (h3 : B16 va) (h4 : B16 vb) => Frame_any wt vs vd va vb f L A m cap k w' ((hrt.below h).more h.size) hj2 hcm h1 h2 h3 h4 hk (by omega)
  have hbd := fun vs vd va vb => frame_bd (k := k) (s := vs) (d := vd) (a := va) (b := vb) (f := f) (l := L.take 40) (by rw [List.length_take]; omega)
  clear hk ha1 ha2 hp5 hp44
  replace hfr := Lib.hid hfr
  replace hbd := Lib.hid hbd
  go_enter Tryz.func12, Tryz.ntmps12
  go_upto_region 1 with fail
  have bn := Blk.new w 24 #[.bool out, .int .i64 wt, .int .i64 wo, .int .i64 po, .int .i64 f, .slice A len cap, .int .i64 be, .int .u8 by_, .int .i64 ti]
  have bel := bel_alloc w (.cells #[.bool out, .int .i64 wt, .int .i64 wo, .int .i64 po, .int .i64 f, .slice A len cap, .int .i64 be, .int .u8 by_, .int .i64 ti] 24)
  generalize w.alloc (.cells #[.bool out, .int .i64 wt, .int .i64 wo, .int .i64 po, .int .i64 f, .slice A len cap, .int .i64 be, .int .u8 by_, .int .i64 ti] 24) = W at *
  have q2 := bn.cell 2
  go_region
  clear q2
  replace bn := bn.drew
  replace bel := bel.drew
  generalize W.drew = W1 at *
  go_upto_region 2 with fail
  have z0 : ∀ t : Tw (fun w' => Blk w' w.heap.size 24 #[.bool out, .int .i64 wt, .int .i64 wo, .int .i64 po, .int .i64 f, .slice A len cap, .int .i64 be, .int .u8 by_, .int .i64 ti]), t.w.cell? ⟨w.heap.size, 0, none⟩ = some (.bool out) := fun t => t.h.cell 0
  have z1 : ∀ t : Tw (fun w' => Blk w' w.heap.size 24 #[.bool out, .int .i64 wt, .int .i64 wo, .int .i64 po, .int .i64 f, .slice A len cap, .int .i64 be, .int .u8 by_, .int .i64 ti]), t.w.cell? ⟨w.heap.size, 1, none⟩ = some (.int .i64 wt) := fun t => t.h.cell 1
  have z2 : ∀ t : Tw (fun w' => Blk w' w.heap.size 24 #[.bool out, .int .i64 wt, .int .i64 wo, .int .i64 po, .int .i64 f, .slice A len cap, .int .i64 be, .int .u8 by_, .int .i64 ti]), t.w.cell? ⟨w.heap.size, 2, none⟩ = some (.int .i64 wo) := fun t => t.h.cell 2
  have z3 : ∀ t : Tw (fun w' => Blk w' w.heap.size 24 #[.bool out, .int .i64 wt, .int .i64 wo, .int .i64 po, .int .i64 f, .slice A len cap, .int .i64 be, .int .u8 by_, .int .i64 ti]), t.w.cell? ⟨w.heap.size, 3, none⟩ = some (.int .i64 po) := fun t => t.h.cell 3
  have z4 : ∀ t : Tw (fun w' => Blk w' w.heap.size 24 #[.bool out, .int .i64 wt, .int .i64 wo, .int .i64 po, .int .i64 f, .slice A len cap, .int .i64 be, .int .u8 by_, .int .i64 ti]), t.w.cell? ⟨w.heap.size, 4, none⟩ = some (.int .i64 f) := fun t => t.h.cell 4
  have z5 : ∀ t : Tw (fun w' => Blk w' w.heap.size 24 #[.bool out, .int .i64 wt, .int .i64 wo, .int .i64 po, .int .i64 f, .slice A len cap, .int .i64 be, .int .u8 by_, .int .i64 ti]), t.w.cell? ⟨w.heap.size, 5, none⟩ = some (.slice A len cap) := fun t => t.h.cell 5
  have ne : Nonempty (Tw (fun w' => Blk w' w.heap.size 24 #[.bool out, .int .i64 wt, .int .i64 wo, .int .i64 po, .int .i64 f, .slice A len cap, .int .i64 be, .int .u8 by_, .int .i64 ti])) := ⟨⟨_, bn⟩⟩
  refine wp_region_plan (fun w' => Blk w' w.heap.size 24 #[.bool out, .int .i64 wt, .int .i64 wo, .int .i64 po, .int .i64 f, .slice A len cap, .int .i64 be, .int .u8 by_, .int .i64 ti]) [(0, true), (1, true), (2, true), (3, true), (4, true), (5, true), (6, true), (7, true), (8, true), (9, true), (10, true), (11, true), (12, true), (13, true), (14, true), (15, true), (16, true), (17, true), (18, true), (19, true), (20, false), (21, false)] (by kernel_rfl) (by kernel_rfl) (by kernel_rfl) (by kernel_rfl) bn.drew ?_
  replace bn := bn.drew
  replace bel := bel.drew
  generalize W1.drew = W2 at *
  refine wpPl_qs 20 _ _ _ (by kernel_rfl) (by kernel_rfl) (by simp) ?_
  unfold clsS
  simp only [List.take_succ_cons, List.take_zero, List.drop_succ_cons, List.drop_zero, List.filterMap_cons, List.filterMap_nil, List.getElem?_toArray, List.getElem?_cons_zero, List.getElem?_cons_succ]
  repeat (first
    | go_big_quiet_skip
    | (go_big_quiet_want; go_big_quiet_op; go_big_quiet_on)
    | (refine id (?_ : wpQuiet _ _ _ _ (_ :: _) _); first | go_big_quiet_skip | (go_big_quiet_want; go_big_quiet_op; go_big_quiet_on)))
  refine wpQuiet_nil ?_
  clear z0 z1 z2 z3 z4 z5 hav hav2 hmn hj0 hj1
  refine wpPl_e _ (by rfl) (by kernel_rfl) (fun K hK => ?_)
  go_simp
  refine hK _ _ (bn.alloc _) ?_
  clear hK K
  refine wpPl_e _ (by rfl) (by kernel_rfl) (fun K hK => ?_)
  have hnl := bn.lt
  refine wp_stRow rfl rfl rfl rfl (Blk.new W2 _ _) sn_size rfl (by simp [Value.oneCell']) ?_
  refine hK _ _ ((bn.alloc _).setRow_far (by omega) _) ?_
  clear hK K ne
  unfold wpPl
  refine NoPanic.normal ?_
  have bx := (Blk.new W2 73 #[.int .i64 0, .int .u32 0, .int .u32 0, .int .u16 0, .int .u16 0, .int .i64 0, .slice none 0 0]).setRow #[.int .i64 wt, .int .u32 (167772161 + (a1 : Int)), .int .u32 (134744065 + (a2 : Int)), .int .u16 (5 + (p5 : Int)), .int .u16 53, .int .i64 f, .slice A m cap]
  have hbg : w.heap.size ≤ W2.heap.size := bel.size
  replace bn := (bn.alloc (.cells #[.int .i64 0, .int .u32 0, .int .u32 0, .int .u16 0, .int .u16 0, .int .i64 0, .slice none 0 0] 73)).setRow_far (g' := W2.heap.size) (by omega) #[.int .i64 wt, .int .u32 (167772161 + (a1 : Int)), .int .u32 (134744065 + (a2 : Int)), .int .u16 (5 + (p5 : Int)), .int .u16 53, .int .i64 f, .slice A m cap]
  replace bel := below_setRow (bel.alloc bel.size (.cells #[.int .i64 0, .int .u32 0, .int .u32 0, .int .u16 0, .int .u16 0, .int .i64 0, .slice none 0 0] 73)) bel.size #[.int .i64 wt, .int .u32 (167772161 + (a1 : Int)), .int .u32 (134744065 + (a2 : Int)), .int .u16 (5 + (p5 : Int)), .int .u16 53, .int .i64 f, .slice A m cap]
  generalize (W2.alloc (.cells #[.int .i64 0, .int .u32 0, .int .u32 0, .int .u16 0, .int .u16 0, .int .i64 0, .slice none 0 0] 73)).setRow W2.heap.size #[.int .i64 wt, .int .u32 (167772161 + (a1 : Int)), .int .u32 (134744065 + (a2 : Int)), .int .u16 (5 + (p5 : Int)), .int .u16 53, .int .i64 f, .slice A m cap] = W3 at *
  generalize W2.heap.size = g5 at *
  have q0 := bn.cell 0
  go_upto_if 44 with fail
  go_cut [] (fun wx => XB wx w.heap.size g5 wt f A m cap ∧ Blk wx w.heap.size 24 #[.bool out, .int .i64 wt, .int .i64 wo, .int .i64 po, .int .i64 f, .slice A len cap, .int .i64 be, .int .u8 by_, .int .i64 ti] ∧ Below w.heap.size w wx)
  case first =>
    cases no with
    | false =>
      go_wp2_with fail
      go_meet
      exact ⟨⟨_, _, _, _, ⟨by omega, by omega⟩, ⟨by omega, by omega⟩, ⟨by omega, by omega⟩, ⟨by omega, by omega⟩, bx, hbg⟩, bn, bel⟩
    | true =>
      go_upto_region 4 with fail
      clear q0
      have z3 : ∀ t : Tw (fun w' => Blk w' w.heap.size 24 #[.bool out, .int .i64 wt, .int .i64 wo, .int .i64 po, .int .i64 f, .slice A len cap, .int .i64 be, .int .u8 by_, .int .i64 ti]), t.w.cell? ⟨w.heap.size, 3, none⟩ = some (.int .i64 po) := fun t => t.h.cell 3
      have ne : Nonempty (Tw (fun w' => Blk w' w.heap.size 24 #[.bool out, .int .i64 wt, .int .i64 wo, .int .i64 po, .int .i64 f, .slice A len cap, .int .i64 be, .int .u8 by_, .int .i64 ti])) := ⟨⟨_, bn⟩⟩
      refine wp_region_plan (fun w' => Blk w' w.heap.size 24 #[.bool out, .int .i64 wt, .int .i64 wo, .int .i64 po, .int .i64 f, .slice A len cap, .int .i64 be, .int .u8 by_, .int .i64 ti]) [(0, true), (1, true), (2, true), (3, true), (4, true), (5, true), (6, true), (7, true), (8, false), (9, true), (10, false), (11, true), (12, false), (13, true), (14, false)] (by kernel_rfl) (by kernel_rfl) (by kernel_rfl) (by kernel_rfl) bn.drew ?_
      have hgn : w.heap.size ≠ g5 := bn.ne_ bx (by decide)
      replace bn := bn.drew
      replace bx := bx.drew
      replace bel := bel.drew
      generalize W3.drew = W4 at *
      refine wpPl_qs 8 _ _ _ (by kernel_rfl) (by kernel_rfl) (by simp) ?_
      unfold clsS
      simp only [List.take_succ_cons, List.take_zero, List.drop_succ_cons, List.drop_zero, List.filterMap_cons, List.filterMap_nil, List.getElem?_toArray, List.getElem?_cons_zero, List.getElem?_cons_succ]
      repeat (first
        | go_big_quiet_skip
        | (go_big_quiet_want; go_big_quiet_op; go_big_quiet_on)
        | (refine id (?_ : wpQuiet _ _ _ _ (_ :: _) _); first | go_big_quiet_skip | (go_big_quiet_want; go_big_quiet_op; go_big_quiet_on)))
      refine wpQuiet_nil ?_
      clear z3
      have c1 := bx.cell 1
      have f1 := bx.frozen 1
      refine wpPl_e _ (by rfl) (by kernel_rfl) (fun K hK => ?_)
      go_simp
      replace bn := bn.far (p := ⟨g5, 1, none⟩) hgn (.int .u32 (134744065 + (a2 : Int)))
      replace bx := bx.set_ 1 (.int .u32 (134744065 + (a2 : Int)))
      replace bel := bel.setCell (p := ⟨g5, 1, none⟩) hbg (.int .u32 (134744065 + (a2 : Int)))
      refine hK _ _ bn ?_
      clear hK K c1 f1
      generalize W4.setCell ⟨g5, 1, none⟩ (.int .u32 (134744065 + (a2 : Int))) = W5 at *
      refine wpPl_qs 1 _ _ _ (by kernel_rfl) (by kernel_rfl) (by simp) ?_
      unfold clsS
      simp only [List.take_succ_cons, List.take_zero, List.drop_succ_cons, List.drop_zero, List.filterMap_cons, List.filterMap_nil, List.getElem?_toArray, List.getElem?_cons_zero, List.getElem?_cons_succ]
      repeat (first
        | go_big_quiet_skip
        | (go_big_quiet_want; go_big_quiet_op; go_big_quiet_on)
        | (refine id (?_ : wpQuiet _ _ _ _ (_ :: _) _); first | go_big_quiet_skip | (go_big_quiet_want; go_big_quiet_op; go_big_quiet_on)))
      refine wpQuiet_nil ?_
      have c1 := bx.cell 2
      have f1 := bx.frozen 2
      refine wpPl_e _ (by rfl) (by kernel_rfl) (fun K hK => ?_)
      go_simp
      replace bn := bn.far (p := ⟨g5, 2, none⟩) hgn (.int .u32 3221225985)
      replace bx := bx.set_ 2 (.int .u32 3221225985)
      replace bel := bel.setCell (p := ⟨g5, 2, none⟩) hbg (.int .u32 3221225985)
      refine hK _ _ bn ?_
      clear hK K c1 f1
      generalize W5.setCell ⟨g5, 2, none⟩ (.int .u32 3221225985) = W6 at *
      refine wpPl_qs 1 _ _ _ (by kernel_rfl) (by kernel_rfl) (by simp) ?_
      unfold clsS
      simp only [List.take_succ_cons, List.take_zero, List.drop_succ_cons, List.drop_zero, List.filterMap_cons, List.filterMap_nil, List.getElem?_toArray, List.getElem?_cons_zero, List.getElem?_cons_succ]
      repeat (first
        | go_big_quiet_skip
        | (go_big_quiet_want; go_big_quiet_op; go_big_quiet_on)
        | (refine id (?_ : wpQuiet _ _ _ _ (_ :: _) _); first | go_big_quiet_skip | (go_big_quiet_want; go_big_quiet_op; go_big_quiet_on)))
      refine wpQuiet_nil ?_
      have c1 := bx.cell 3
      have f1 := bx.frozen 3
      refine wpPl_e _ (by rfl) (by kernel_rfl) (fun K hK => ?_)
      go_simp
      replace bn := bn.far (p := ⟨g5, 3, none⟩) hgn (.int .u16 53)
      replace bx := bx.set_ 3 (.int .u16 53)
      replace bel := bel.setCell (p := ⟨g5, 3, none⟩) hbg (.int .u16 53)
      refine hK _ _ bn ?_
      clear hK K c1 f1
      generalize W6.setCell ⟨g5, 3, none⟩ (.int .u16 53) = W7 at *
      refine wpPl_qs 1 _ _ _ (by kernel_rfl) (by kernel_rfl) (by simp) ?_
      unfold clsS
      simp only [List.take_succ_cons, List.take_zero, List.drop_succ_cons, List.drop_zero, List.filterMap_cons, List.filterMap_nil, List.getElem?_toArray, List.getElem?_cons_zero, List.getElem?_cons_succ]
      repeat (first
        | go_big_quiet_skip
        | (go_big_quiet_want; go_big_quiet_op; go_big_quiet_on)
        | (refine id (?_ : wpQuiet _ _ _ _ (_ :: _) _); first | go_big_quiet_skip | (go_big_quiet_want; go_big_quiet_op; go_big_quiet_on)))
      refine wpQuiet_nil ?_
      have c1 := bx.cell 4
      have f1 := bx.frozen 4
      refine wpPl_e _ (by rfl) (by kernel_rfl) (fun K hK => ?_)
      go_simp
      replace bn := bn.far (p := ⟨g5, 4, none⟩) hgn (.int .u16 (998 + (p44 : Int)))
      replace bx := bx.set_ 4 (.int .u16 (998 + (p44 : Int)))
      replace bel := bel.setCell (p := ⟨g5, 4, none⟩) hbg (.int .u16 (998 + (p44 : Int)))
      refine hK _ _ bn ?_
      clear hK K c1 f1
      generalize W7.setCell ⟨g5, 4, none⟩ (.int .u16 (998 + (p44 : Int))) = W8 at *
      unfold wpPl
      refine NoPanic.normal ?_
      go_wp2_with fail
      go_meet
      replace bx : Blk W8 g5 73 #[.int .i64 wt, .int .u32 (134744065 + (a2 : Int)), .int .u32 3221225985, .int .u16 53, .int .u16 (998 + (p44 : Int)), .int .i64 f, .slice A m cap] := bx
      exact ⟨⟨_, _, _, _, ⟨by omega, by omega⟩, ⟨by omega, by omega⟩, ⟨by omega, by omega⟩, ⟨by omega, by omega⟩, bx, hbg⟩, bn, bel⟩
  case rest =>
    clear bx bn bel hbg q0
    obtain ⟨⟨vs, vd, va, vb, hvs, hvd, hva, hvb, bx, hbg⟩, bn, bel⟩ := hcut
    have q0 := bn.cell 0
    have q1 := bn.cell 1
    go_upto_region 5 with fail
    go_cut [79] (fun s79 wx => (∃ x : Bool, s79 = .bool x) ∧ wc = wx)
    case first =>
      have hk' : k = 3 ∨ k = 2 ∨ (k ≠ 3 ∧ k ≠ 2) := by omega
      rcases hk' with hk0 | hk0 | hk0
      · have d3 : ((k : Int) == 3) = true := by simp; omega
        have d2 : ((k : Int) == 2) = false := by simp; omega
        replace hk0 := Lib.hid hk0
        cases no <;> (go_wp2_with fail; go_meet; exact ⟨⟨_, rfl⟩, rfl⟩)
      · have d3 : ((k : Int) == 3) = false := by simp; omega
        have d2 : ((k : Int) == 2) = true := by simp; omega
        replace hk0 := Lib.hid hk0
        cases no <;> (go_wp2_with fail; go_meet; exact ⟨⟨_, rfl⟩, rfl⟩)
      · have d3 : ((k : Int) == 3) = false := by simp; omega
        have d2 : ((k : Int) == 2) = false := by simp; omega
        replace hk0 := Lib.hid hk0
        cases no <;> (go_wp2_with fail; go_meet; exact ⟨⟨_, rfl⟩, rfl⟩)
    case rest =>
      obtain ⟨⟨x, rfl⟩, rfl⟩ := hcut
      clear q0 q1
      go_upto_if 79 with fail
      have hgn : w.heap.size ≠ g5 := bn.ne_ bx (by decide)
      go_cut [] (fun wx => XB wx w.heap.size g5 wt f A m cap ∧ Blk wx w.heap.size 24 #[.bool out, .int .i64 wt, .int .i64 wo, .int .i64 po, .int .i64 f, .slice A len cap, .int .i64 be, .int .u8 by_, .int .i64 ti] ∧ Below w.heap.size w wx)
      case first =>
        cases x with
        | false =>
          go_wp2_with fail
          go_meet
          exact ⟨⟨_, _, _, _, hvs, hvd, hva, hvb, bx, hbg⟩, bn, bel⟩
        | true =>
          have c4 := bx.cell 4
          have c3 := bx.cell 3
          have f3 := bx.frozen 3
          go_wp2_with fail
          go_meet
          replace bx : Blk (wc.setCell ⟨g5, 3, none⟩ (.int .u16 vb)) g5 73 #[.int .i64 wt, .int .u32 vs, .int .u32 vd, .int .u16 vb, .int .u16 vb, .int .i64 f, .slice A m cap] := bx.set_ 3 (.int .u16 vb)
          exact ⟨⟨_, _, _, _, hvs, hvd, hvb, hvb, bx, hbg⟩, bn.far (p := ⟨g5, 3, none⟩) hgn _, bel.setCell (p := ⟨g5, 3, none⟩) hbg _⟩
      case rest =>
        clear bx bn bel hbg hvs hvd hva hvb
        obtain ⟨⟨vs, vd, va, vb, hvs, hvd, hva, hvb, bx, hbg⟩, bn, bel⟩ := hcut
        obtain ⟨x6, h6⟩ : ∃ x6, ((k : Int) == 6) = x6 := ⟨_, rfl⟩
        have q1 := bn.cell 1
        go_upto_if 88 with fail
        clear q1
        go_cut [] (fun wx => XB wx w.heap.size g5 wt f A m cap ∧ Blk wx w.heap.size 24 #[.bool out, .int .i64 wt, .int .i64 wo, .int .i64 po, .int .i64 f, .slice A len cap, .int .i64 be, .int .u8 by_, .int .i64 ti] ∧ Below w.heap.size w wx)
        case first =>
          have q0 := bn.cell 0
          have q3 := bn.cell 3
          have c4 := bx.cell 4
          have c3 := bx.cell 3
          have f4 := bx.frozen 4
          cases x6 with
          | false =>
            go_wp2_with fail
            go_meet
            exact ⟨⟨_, _, _, _, hvs, hvd, hva, hvb, bx, hbg⟩, bn, bel⟩
          | true =>
            cases no with
            | false =>
              go_wp2_with fail
              go_meet
              replace bx : Blk (wc.setCell ⟨g5, 4, none⟩ (.int .u16 va)) g5 73 #[.int .i64 wt, .int .u32 vs, .int .u32 vd, .int .u16 va, .int .u16 va, .int .i64 f, .slice A m cap] := bx.set_ 4 (.int .u16 va)
              exact ⟨⟨_, _, _, _, hvs, hvd, hva, hva, bx, hbg⟩, bn.far (p := ⟨g5, 4, none⟩) hgn _, bel.setCell (p := ⟨g5, 4, none⟩) hbg _⟩
            | true =>
              go_wp2_with fail
              go_meet
              replace bx : Blk ((wc.setCell ⟨g5, 4, none⟩ (.int .u16 va)).setCell ⟨g5, 4, none⟩ (.int .u16 (998 + (p44 : Int)))) g5 73 #[.int .i64 wt, .int .u32 vs, .int .u32 vd, .int .u16 va, .int .u16 (998 + (p44 : Int)), .int .i64 f, .slice A m cap] := (bx.set_ 4 (.int .u16 va)).set_ 4 (.int .u16 (998 + (p44 : Int)))
              exact ⟨⟨_, _, _, _, hvs, hvd, hva, ⟨by omega, by omega⟩, bx, hbg⟩, (bn.far (p := ⟨g5, 4, none⟩) hgn _).far (p := ⟨g5, 4, none⟩) hgn _, (bel.setCell (p := ⟨g5, 4, none⟩) hbg _).setCell (p := ⟨g5, 4, none⟩) hbg _⟩
        case rest =>
          clear bx bn bel hbg hvs hvd hva hvb
          obtain ⟨⟨vs, vd, va, vb, hvs, hvd, hva, hvb, bx, hbg⟩, bn, bel⟩ := hcut
          go_wp2_with (refine wpList_ldRow rfl rfl rfl bx Tryz.underlying73 sn_size ?_)
          refine (hfr.out _ bel vs vd va vb hvs hvd hva hvb).mono ?_
          rintro e w1 ⟨v1, rfl, own1, bel1⟩
          replace own1 := own1.mono_ bel.size
          replace bn := bn.bel bel1
          replace bel := bel_after bel bel1
          clear bel1 bx hbg
          replace hbd := hbd.out vs vd va vb
          clear hfr hpv5 hpv44 hkv
          generalize frameL k vs vd va vb f (L.take 40) = X at *
          obtain ⟨n, hX⟩ : ∃ n, X.length = n := ⟨_, rfl⟩
          rw [hX] at hbd
          replace hX := Lib.hid hX
          have q7 := bn.cell 7
          go_upto_if 106 with fail
          go_cut [6] (fun s6 wx => ∃ F : List Int, F.length = n ∧ Own .u8 5 wx w.heap.size s6 F ∧ Below w.heap.size w wx)
          case first =>
            by_cases hb0 : by_ = 0
            · have d1 : (by_ != 0) = false := by simpa using hb0
              replace hb0 := Lib.hid hb0
              go_wp2_with fail
              go_meet
              exact ⟨X, hX.out, own1, bel⟩
            · have d1 : (by_ != 0) = true := by simpa using hb0
              clear hb0
              obtain ⟨g, c1, rfl, hc1, hc2, hg1, hg2⟩ := own1.formG hX.out (by omega)
              unfold maxLen at hc2
              obtain ⟨j, hj, hjn⟩ := modn be (n : Int) (by omega)
              have hjv : Value.int .u64 ((IntKind.u64.wrap be).tmod (n : Int)) = .int .u64 (j : Int) := by rw [hj]
              clear hj
              have hjn2 : j < n := by omega
              have hj0 : (0 : Int) ≤ (j : Int) := by omega
              obtain ⟨cj, fj, xj⟩ := own1.at_ hX.out (j := j) hjn2
              obtain ⟨xo, hxo⟩ : ∃ v, v = X.getD j 0 := ⟨_, rfl⟩
              rw [← hxo] at cj
              clear hxo xj
              obtain ⟨xv, hxv⟩ : ∃ v, bits .xor .u8 xo by_ = v := ⟨_, rfl⟩
              have hxb : 0 ≤ xv ∧ xv ≤ 255 := by
                rw [← hxv]
                have h : ∀ v : Int, 0 ≤ IntKind.u8.wrap v ∧ IntKind.u8.wrap v ≤ 255 := fun v => by rw [IntKind.wrap_u8' v]; omega
                exact h _
              have hne := own1.ne bn (by decide)
              have q6 := bn.cell 6
              go_upto_region 13 with fail
              go_region
              have own2 := (own1.set hX.out j (x := xv) (u8_inr hxb)).drew
              have hl2 : (X.set j xv).length = n := by rw [List.length_set]; exact hX.out
              replace bn := (bn.far (p := ⟨g, j, none⟩) hne (.int .u8 xv)).drew
              replace bel := (bel.setCell (p := ⟨g, j, none⟩) hg1 (.int .u8 xv)).drew
              clear cj fj own1 q6 q7
              generalize X.set j xv = F at *
              generalize (w1.setCell ⟨g, j, none⟩ (.int .u8 xv)).drew = W9 at *
              obtain ⟨x2, h2⟩ : ∃ x2, (be.tmod 2 == 0) = x2 := ⟨_, rfl⟩
              have q6 := bn.cell 6
              cases x2 with
              | false =>
                go_wp2_with fail
                go_meet
                exact ⟨F, hl2, own2, bel⟩
              | true =>
                go_wp2_with fail
                clear q6
                refine (rHFix_any F (some ⟨g, 0, none⟩) n c1 _ W9 (own2.rd hl2) (Nat.le_refl _) (by omega) (by omega)).mono ?_
                rintro e w3 ⟨v3, rfl, own3, bel3⟩
                replace own3 := own3.mono_ bel.size
                replace own2 := own2.below bel3
                replace bel := bel_after bel bel3
                clear bel3 bn hne hjv hjn2 hj0 hxv hxb h2
                have hl3 : (fixL F).length = n := by rw [fixL_len]; exact hl2
                have hY8 : ∀ x, x ∈ fixL F → 0 ≤ x ∧ x ≤ 255 := fun x hx => inr_u8 (own3.rng x hx)
                obtain ⟨g3, c3, rfl, hd1, hd2, hd3, hd4⟩ := own3.formG hl3 (by omega)
                unfold maxLen at hd2
                have hge := rGet_any (fixL F) false (some ⟨g3, 0, none⟩) n c3 _ w3 (own3.rd hl3) (Nat.le_refl _) hd1 (by omega) (by omega)
                rw [show getP (fixL F) false = getE (fixL F) from rfl] at hge
                by_cases hE : getE (fixL F) = 0
                · have hb := hd_bds hY8 hE
                  rw [hE] at hge
                  clear hE hY8
                  generalize hdIf (fixL F) 0 = H at *
                  obtain ⟨h0, h1, h2, h3, h4, h5⟩ := H
                  simp only [Hd.val] at hge hb
                  replace hge := Lib.hid hge
                  clear hl3 own3
                  go_wp2_with fail
                  refine hge.out.mono ?_
                  rintro e w4 ⟨rfl, hb4⟩
                  replace own2 := own2.below hb4
                  replace bel := bel_after bel hb4
                  clear hb4 hge
                  have hgl : g < w4.heap.size := (own2.lt g rfl).2
                  have bh := (Blk.new w4 67 #[.int .i64 0, .int .i64 0, .int .i64 0, .int .i64 0, .int .u32 0, .int .u32 0]).setRow #[.int .i64 h0, .int .i64 h1, .int .i64 h2, .int .i64 h3, .int .u32 h4, .int .u32 h5]
                  replace own2 := (own2.alloc (.cells #[.int .i64 0, .int .i64 0, .int .i64 0, .int .i64 0, .int .u32 0, .int .u32 0] 67)).upd (Upd.row (w4.alloc (.cells #[.int .i64 0, .int .i64 0, .int .i64 0, .int .i64 0, .int .u32 0, .int .u32 0] 67)) w4.heap.size #[.int .i64 h0, .int .i64 h1, .int .i64 h2, .int .i64 h3, .int .u32 h4, .int .u32 h5]) (by intro x hx e; simp [Value.ownBlock] at hx; omega)
                  replace bel := below_setRow (bel.alloc bel.size (.cells #[.int .i64 0, .int .i64 0, .int .i64 0, .int .i64 0, .int .u32 0, .int .u32 0] 67)) bel.size #[.int .i64 h0, .int .i64 h1, .int .i64 h2, .int .i64 h3, .int .u32 h4, .int .u32 h5]
                  go_upto_region 17 with (refine wpList_stRow rfl rfl rfl rfl rfl (Blk.new w4 _ _) rhd_size rfl (by simp [Value.oneCell']) ?_; generalize (w4.alloc (.cells #[.int .i64 0, .int .i64 0, .int .i64 0, .int .i64 0, .int .u32 0, .int .u32 0] 67)).setRow w4.heap.size #[.int .i64 h0, .int .i64 h1, .int .i64 h2, .int .i64 h3, .int .u32 h4, .int .u32 h5] = W4 at *; generalize w4.heap.size = g7 at *)
                  have z0 : ∀ t : Tw (fun w' => Blk w' g7 67 #[.int .i64 h0, .int .i64 h1, .int .i64 h2, .int .i64 h3, .int .u32 h4, .int .u32 h5]), t.w.cell? ⟨g7, 0, none⟩ = some (.int .i64 h0) := fun t => t.h.cell 0
                  have z1 : ∀ t : Tw (fun w' => Blk w' g7 67 #[.int .i64 h0, .int .i64 h1, .int .i64 h2, .int .i64 h3, .int .u32 h4, .int .u32 h5]), t.w.cell? ⟨g7, 1, none⟩ = some (.int .i64 h1) := fun t => t.h.cell 1
                  have z2 : ∀ t : Tw (fun w' => Blk w' g7 67 #[.int .i64 h0, .int .i64 h1, .int .i64 h2, .int .i64 h3, .int .u32 h4, .int .u32 h5]), t.w.cell? ⟨g7, 2, none⟩ = some (.int .i64 h2) := fun t => t.h.cell 2
                  have z3 : ∀ t : Tw (fun w' => Blk w' g7 67 #[.int .i64 h0, .int .i64 h1, .int .i64 h2, .int .i64 h3, .int .u32 h4, .int .u32 h5]), t.w.cell? ⟨g7, 3, none⟩ = some (.int .i64 h3) := fun t => t.h.cell 3
                  have z4 : ∀ t : Tw (fun w' => Blk w' g7 67 #[.int .i64 h0, .int .i64 h1, .int .i64 h2, .int .i64 h3, .int .u32 h4, .int .u32 h5]), t.w.cell? ⟨g7, 4, none⟩ = some (.int .u32 h4) := fun t => t.h.cell 4
                  have z5 : ∀ t : Tw (fun w' => Blk w' g7 67 #[.int .i64 h0, .int .i64 h1, .int .i64 h2, .int .i64 h3, .int .u32 h4, .int .u32 h5]), t.w.cell? ⟨g7, 5, none⟩ = some (.int .u32 h5) := fun t => t.h.cell 5
                  have ne : Nonempty (Tw (fun w' => Blk w' g7 67 #[.int .i64 h0, .int .i64 h1, .int .i64 h2, .int .i64 h3, .int .u32 h4, .int .u32 h5])) := ⟨⟨_, bh⟩⟩
                  refine wp_region_plan (fun w' => Blk w' g7 67 #[.int .i64 h0, .int .i64 h1, .int .i64 h2, .int .i64 h3, .int .u32 h4, .int .u32 h5]) [(0, true), (1, true), (2, false), (3, false), (4, true)] (by kernel_rfl) (by kernel_rfl) (by kernel_rfl) (by kernel_rfl) bh.drew ?_
                  replace bh := bh.drew
                  replace own2 := own2.drew
                  replace bel := bel.drew
                  generalize W4.drew = W5 at *
                  refine wpPl_qs 2 _ _ _ (by kernel_rfl) (by kernel_rfl) (by simp) ?_
                  unfold clsS
                  simp only [List.take_succ_cons, List.take_zero, List.drop_succ_cons, List.drop_zero, List.filterMap_cons, List.filterMap_nil, List.getElem?_toArray, List.getElem?_cons_zero, List.getElem?_cons_succ]
                  repeat (first
                    | go_big_quiet_skip
                    | (go_big_quiet_want; go_big_quiet_op; go_big_quiet_on)
                    | (refine id (?_ : wpQuiet _ _ _ _ (_ :: _) _); first | go_big_quiet_skip | (go_big_quiet_want; go_big_quiet_op; go_big_quiet_on)))
                  refine wpQuiet_nil ?_
                  clear z0 z1 z2 z3 z4 z5
                  refine wpPl_e _ (by rfl) (by kernel_rfl) (fun K hK => ?_)
                  go_simp
                  refine (rHFix_any F (some ⟨g, 0, none⟩) n c1 _ W5 (own2.rd hl2) (Nat.le_refl _) (by omega) (by omega)).mono ?_
                  rintro e w5 ⟨v5, rfl, own5, bel5⟩
                  replace own5 := own5.mono_ bel.size
                  replace bh := bh.bel bel5
                  replace bel := bel_after bel bel5
                  clear bel5
                  have hl5 : (fixL F).length = n := by rw [fixL_len]; exact hl2
                  obtain ⟨g5', c5, rfl, hf1, hf2, hf3, hf4⟩ := own5.formG hl5 (by omega)
                  refine hK _ _ bh ?_
                  clear hK K
                  refine wpPl_e _ (by rfl) (by kernel_rfl) (fun K hK => ?_)
                  go_simp
                  refine (Right_any ⟨h0, h1, h2, h3, h4, h5⟩ (fixL F) (some ⟨g5', 0, none⟩) n c5 w5 (own5.rd hl5) (by omega) hb.1 hb.2).mono ?_
                  rintro e w6 ⟨R, hRl, v6, rfl, own6, bel6⟩
                  replace own6 := own6.mono_ bel.size
                  replace bh := bh.bel bel6
                  replace bel := bel_after bel bel6
                  refine hK _ _ bh ?_
                  clear hK K
                  refine wpPl_qs 1 _ _ _ (by kernel_rfl) (by kernel_rfl) (by simp) ?_
                  unfold clsS
                  simp only [List.take_succ_cons, List.take_zero, List.drop_succ_cons, List.drop_zero, List.filterMap_cons, List.filterMap_nil, List.getElem?_toArray, List.getElem?_cons_zero, List.getElem?_cons_succ]
                  repeat (first
                    | go_big_quiet_skip
                    | (go_big_quiet_want; go_big_quiet_op; go_big_quiet_on)
                    | (refine id (?_ : wpQuiet _ _ _ _ (_ :: _) _); first | go_big_quiet_skip | (go_big_quiet_want; go_big_quiet_op; go_big_quiet_on)))
                  refine wpQuiet_nil ?_
                  unfold wpPl
                  refine NoPanic.normal ?_
                  go_wp2_with fail
                  go_meet
                  exact ⟨R, hRl, own6, bel⟩
                · have hE1 : (getE (fixL F) == 0) = false := by simpa using hE
                  have hv : (hdIf (fixL F) (getE (fixL F))).val = Hd.z.val := by unfold hdIf; rw [if_neg hE]
                  rw [hv] at hge
                  simp only [Hd.val, Hd.z] at hge
                  clear hv hE hY8
                  generalize getE (fixL F) = E at *
                  replace hge := Lib.hid hge
                  clear hl3 own3
                  go_wp2_with fail
                  refine hge.out.mono ?_
                  rintro e w4 ⟨rfl, hb4⟩
                  replace own2 := own2.below hb4
                  replace bel := bel_after bel hb4
                  clear hb4 hge
                  have hgl : g < w4.heap.size := (own2.lt g rfl).2
                  replace own2 := (own2.alloc (.cells #[.int .i64 0, .int .i64 0, .int .i64 0, .int .i64 0, .int .u32 0, .int .u32 0] 67)).upd (Upd.row (w4.alloc (.cells #[.int .i64 0, .int .i64 0, .int .i64 0, .int .i64 0, .int .u32 0, .int .u32 0] 67)) w4.heap.size #[.int .i64 0, .int .i64 0, .int .i64 0, .int .i64 0, .int .u32 0, .int .u32 0]) (by intro x hx e; simp [Value.ownBlock] at hx; omega)
                  replace bel := below_setRow (bel.alloc bel.size (.cells #[.int .i64 0, .int .i64 0, .int .i64 0, .int .i64 0, .int .u32 0, .int .u32 0] 67)) bel.size #[.int .i64 0, .int .i64 0, .int .i64 0, .int .i64 0, .int .u32 0, .int .u32 0]
                  go_wp2_with (refine wpList_stRow rfl rfl rfl rfl rfl (Blk.new w4 _ _) rhd_size rfl (by simp [Value.oneCell']) ?_; generalize (w4.alloc (.cells #[.int .i64 0, .int .i64 0, .int .i64 0, .int .i64 0, .int .u32 0, .int .u32 0] 67)).setRow w4.heap.size #[.int .i64 0, .int .i64 0, .int .i64 0, .int .i64 0, .int .u32 0, .int .u32 0] = W4 at *; generalize w4.heap.size = g7 at *)
                  go_meet
                  exact ⟨F, hl2, own2, bel⟩
          case rest =>
            obtain ⟨F, hF, own2, bel⟩ := hcut
            go_wp2
            go_ret
            exact ⟨F, by omega, _, rfl, own2, bel⟩
end Go.Proofs.YtbckoohljkmahaaGreat
namespace Go.Proofs.YtbckoohljkmahaaGreat
set_option linter.unusedVariables false
set_option linter.unusedSimpArgs false
open Go.RowKit
set_option maxRecDepth 100000 in
set_option maxHeartbeats 4000000 in
theorem Frame15_k (wt wo po f be ti : Int) (A : Option Addr) (len cap : Nat) (l : List Int) (a1 a2 p5 m k : Nat) (w : World) (hr : Rd .u8 w w.heap.size A len l) (hlc : len ≤ cap) (hcm : cap ≤ 9223372036854775807)
    (hmn : (if (20 : Int) < (len : Int) then (20 : Int) else (len : Int)) = (m : Int)) (hm1 : m ≤ len) (hk : (IntKind.u64.wrap wt).tmod 7 = (k : Int)) (hk3 : k < 3) (ha1 : (IntKind.u64.wrap wo).tmod 3 = (a1 : Int)) (ha1b : (a1 : Int) < 3) (ha2 : (IntKind.u64.wrap ((IntKind.u64.wrap wo).tdiv 3)).tmod 3 = (a2 : Int)) (ha2b : (a2 : Int) < 3) (hp5 : (IntKind.u64.wrap po).tmod 5 = (p5 : Int)) (hp5b : (p5 : Int) < 5) :
    Calls Tryz.prog 12 #[.agg #[.bool true, .int .i64 wt, .int .i64 wo, .int .i64 po, .int .i64 f, .slice A len cap, .int .i64 be, .int .u8 0, .int .i64 ti]] w (Gives w (frameL k (167772161 + (a1 : Int)) (134744065 + (a2 : Int)) (5 + (p5 : Int)) 53 f ((l.take m).take 40))) := by
  have hj0 : (0 : Int) ≤ (m : Int) := by omega
  have hj1 : (m : Int) ≤ (cap : Int) := by omega
  have hj2 : m ≤ cap := by omega
  have hrt := hr.take hm1
  obtain ⟨L, hL⟩ : ∃ L, L = l.take m := ⟨_, rfl⟩
  rw [← hL] at hrt ⊢
  clear hL hr
  have hkv : Value.int .u64 ((IntKind.u64.wrap wt).tmod 7) = .int .u64 (k : Int) := by rw [hk]
  have hav : Value.int .u64 ((IntKind.u64.wrap wo).tmod 3) = .int .u64 (a1 : Int) := by rw [ha1]
  have hav2 : Value.int .u64 ((IntKind.u64.wrap ((IntKind.u64.wrap wo).tdiv 3)).tmod 3) = .int .u64 (a2 : Int) := by rw [ha2]
  have hpv5 : Value.int .u64 ((IntKind.u64.wrap po).tmod 5) = .int .u64 (p5 : Int) := by rw [hp5]
  have hfr := fun w' (h : Below w.heap.size w w') => Frame_any wt (167772161 + (a1 : Int)) (134744065 + (a2 : Int)) (5 + (p5 : Int)) 53 f L A m cap k w' ((hrt.below h).more h.size) hj2 hcm (by omega) (by omega) (by omega) (by omega) hk (by omega)
  unfold Gives at hfr
  obtain ⟨X, hX⟩ : ∃ X, X = frameL k (167772161 + (a1 : Int)) (134744065 + (a2 : Int)) (5 + (p5 : Int)) 53 f (L.take 40) := ⟨_, rfl⟩
  rw [← hX]
  simp only [← hX] at hfr
  clear hX hk ha1 ha2 hp5
  replace hfr := Lib.hid hfr
  go_enter Tryz.func12, Tryz.ntmps12
  go_upto_region 1 with fail
  have bn := Blk.new w 24 #[.bool true, .int .i64 wt, .int .i64 wo, .int .i64 po, .int .i64 f, .slice A len cap, .int .i64 be, .int .u8 0, .int .i64 ti]
  have bel := bel_alloc w (.cells #[.bool true, .int .i64 wt, .int .i64 wo, .int .i64 po, .int .i64 f, .slice A len cap, .int .i64 be, .int .u8 0, .int .i64 ti] 24)
  generalize w.alloc (.cells #[.bool true, .int .i64 wt, .int .i64 wo, .int .i64 po, .int .i64 f, .slice A len cap, .int .i64 be, .int .u8 0, .int .i64 ti] 24) = W at *
  have q2 := bn.cell 2
  go_region
  clear q2
  replace bn := bn.drew
  replace bel := bel.drew
  generalize W.drew = W1 at *
  go_upto_region 2 with fail
  have z0 : ∀ t : Tw (fun w' => Blk w' w.heap.size 24 #[.bool true, .int .i64 wt, .int .i64 wo, .int .i64 po, .int .i64 f, .slice A len cap, .int .i64 be, .int .u8 0, .int .i64 ti]), t.w.cell? ⟨w.heap.size, 0, none⟩ = some (.bool true) := fun t => t.h.cell 0
  have z1 : ∀ t : Tw (fun w' => Blk w' w.heap.size 24 #[.bool true, .int .i64 wt, .int .i64 wo, .int .i64 po, .int .i64 f, .slice A len cap, .int .i64 be, .int .u8 0, .int .i64 ti]), t.w.cell? ⟨w.heap.size, 1, none⟩ = some (.int .i64 wt) := fun t => t.h.cell 1
  have z2 : ∀ t : Tw (fun w' => Blk w' w.heap.size 24 #[.bool true, .int .i64 wt, .int .i64 wo, .int .i64 po, .int .i64 f, .slice A len cap, .int .i64 be, .int .u8 0, .int .i64 ti]), t.w.cell? ⟨w.heap.size, 2, none⟩ = some (.int .i64 wo) := fun t => t.h.cell 2
  have z3 : ∀ t : Tw (fun w' => Blk w' w.heap.size 24 #[.bool true, .int .i64 wt, .int .i64 wo, .int .i64 po, .int .i64 f, .slice A len cap, .int .i64 be, .int .u8 0, .int .i64 ti]), t.w.cell? ⟨w.heap.size, 3, none⟩ = some (.int .i64 po) := fun t => t.h.cell 3
  have z4 : ∀ t : Tw (fun w' => Blk w' w.heap.size 24 #[.bool true, .int .i64 wt, .int .i64 wo, .int .i64 po, .int .i64 f, .slice A len cap, .int .i64 be, .int .u8 0, .int .i64 ti]), t.w.cell? ⟨w.heap.size, 4, none⟩ = some (.int .i64 f) := fun t => t.h.cell 4
  have z5 : ∀ t : Tw (fun w' => Blk w' w.heap.size 24 #[.bool true, .int .i64 wt, .int .i64 wo, .int .i64 po, .int .i64 f, .slice A len cap, .int .i64 be, .int .u8 0, .int .i64 ti]), t.w.cell? ⟨w.heap.size, 5, none⟩ = some (.slice A len cap) := fun t => t.h.cell 5
  have ne : Nonempty (Tw (fun w' => Blk w' w.heap.size 24 #[.bool true, .int .i64 wt, .int .i64 wo, .int .i64 po, .int .i64 f, .slice A len cap, .int .i64 be, .int .u8 0, .int .i64 ti])) := ⟨⟨_, bn⟩⟩
  refine wp_region_plan (fun w' => Blk w' w.heap.size 24 #[.bool true, .int .i64 wt, .int .i64 wo, .int .i64 po, .int .i64 f, .slice A len cap, .int .i64 be, .int .u8 0, .int .i64 ti]) [(0, true), (1, true), (2, true), (3, true), (4, true), (5, true), (6, true), (7, true), (8, true), (9, true), (10, true), (11, true), (12, true), (13, true), (14, true), (15, true), (16, true), (17, true), (18, true), (19, true), (20, false), (21, false)] (by kernel_rfl) (by kernel_rfl) (by kernel_rfl) (by kernel_rfl) bn.drew ?_
  replace bn := bn.drew
  replace bel := bel.drew
  generalize W1.drew = W2 at *
  refine wpPl_qs 20 _ _ _ (by kernel_rfl) (by kernel_rfl) (by simp) ?_
  unfold clsS
  simp only [List.take_succ_cons, List.take_zero, List.drop_succ_cons, List.drop_zero, List.filterMap_cons, List.filterMap_nil, List.getElem?_toArray, List.getElem?_cons_zero, List.getElem?_cons_succ]
  repeat (first
    | go_big_quiet_skip
    | (go_big_quiet_want; go_big_quiet_op; go_big_quiet_on)
    | (refine id (?_ : wpQuiet _ _ _ _ (_ :: _) _); first | go_big_quiet_skip | (go_big_quiet_want; go_big_quiet_op; go_big_quiet_on)))
  refine wpQuiet_nil ?_
  clear z0 z1 z2 z3 z4 z5 hav hav2 hmn hj0 hj1
  refine wpPl_e _ (by rfl) (by kernel_rfl) (fun K hK => ?_)
  go_simp
  refine hK _ _ (bn.alloc _) ?_
  clear hK K
  refine wpPl_e _ (by rfl) (by kernel_rfl) (fun K hK => ?_)
  have hnl := bn.lt
  refine wp_stRow rfl rfl rfl rfl (Blk.new W2 _ _) sn_size rfl (by simp [Value.oneCell']) ?_
  refine hK _ _ ((bn.alloc _).setRow_far (by omega) _) ?_
  clear hK K ne
  unfold wpPl
  refine NoPanic.normal ?_
  have bx := (Blk.new W2 73 #[.int .i64 0, .int .u32 0, .int .u32 0, .int .u16 0, .int .u16 0, .int .i64 0, .slice none 0 0]).setRow #[.int .i64 wt, .int .u32 (167772161 + (a1 : Int)), .int .u32 (134744065 + (a2 : Int)), .int .u16 (5 + (p5 : Int)), .int .u16 53, .int .i64 f, .slice A m cap]
  have hbg : w.heap.size ≤ W2.heap.size := bel.size
  replace bn := (bn.alloc (.cells #[.int .i64 0, .int .u32 0, .int .u32 0, .int .u16 0, .int .u16 0, .int .i64 0, .slice none 0 0] 73)).setRow_far (g' := W2.heap.size) (by omega) #[.int .i64 wt, .int .u32 (167772161 + (a1 : Int)), .int .u32 (134744065 + (a2 : Int)), .int .u16 (5 + (p5 : Int)), .int .u16 53, .int .i64 f, .slice A m cap]
  replace bel := below_setRow (bel.alloc bel.size (.cells #[.int .i64 0, .int .u32 0, .int .u32 0, .int .u16 0, .int .u16 0, .int .i64 0, .slice none 0 0] 73)) bel.size #[.int .i64 wt, .int .u32 (167772161 + (a1 : Int)), .int .u32 (134744065 + (a2 : Int)), .int .u16 (5 + (p5 : Int)), .int .u16 53, .int .i64 f, .slice A m cap]
  generalize (W2.alloc (.cells #[.int .i64 0, .int .u32 0, .int .u32 0, .int .u16 0, .int .u16 0, .int .i64 0, .slice none 0 0] 73)).setRow W2.heap.size #[.int .i64 wt, .int .u32 (167772161 + (a1 : Int)), .int .u32 (134744065 + (a2 : Int)), .int .u16 (5 + (p5 : Int)), .int .u16 53, .int .i64 f, .slice A m cap] = W3 at *
  generalize W2.heap.size = g5 at *
  have q0 := bn.cell 0
  have q1 := bn.cell 1
  have q7 := bn.cell 7
  have hk7 : (k : Int) < 7 := by omega
  have d3 : ((k : Int) == 3) = false := by simp; omega
  have d6 : ((k : Int) == 6) = false := by simp; omega
  have hk' : k = 2 ∨ k ≠ 2 := by omega
  rcases hk' with hk0 | hk0
  · have d2 : ((k : Int) == 2) = true := by simp; omega
    replace hk0 := Lib.hid hk0
    go_wp2_with (refine wpList_ldRow rfl rfl rfl bx Tryz.underlying73 sn_size ?_)
    refine (hfr.out _ bel).mono ?_
    rintro e w1 ⟨v1, rfl, own1, bel1⟩
    replace own1 := own1.mono_ bel.size
    replace bn := bn.bel bel1
    replace bel := bel_after bel bel1
    clear bel1 bx hbg q0 q1 q7
    have q7 := bn.cell 7
    go_wp2
    go_ret
    exact ⟨_, rfl, own1, bel⟩
  · have d2 : ((k : Int) == 2) = false := by simp; omega
    replace hk0 := Lib.hid hk0
    go_wp2_with (refine wpList_ldRow rfl rfl rfl bx Tryz.underlying73 sn_size ?_)
    refine (hfr.out _ bel).mono ?_
    rintro e w1 ⟨v1, rfl, own1, bel1⟩
    replace own1 := own1.mono_ bel.size
    replace bn := bn.bel bel1
    replace bel := bel_after bel bel1
    clear bel1 bx hbg q0 q1 q7
    have q7 := bn.cell 7
    go_wp2
    go_ret
    exact ⟨_, rfl, own1, bel⟩
end Go.Proofs.YtbckoohljkmahaaGreat
namespace Go.Proofs.YtbckoohljkmahaaGreat
set_option linter.unusedVariables false
set_option linter.unusedSimpArgs false
open Go.RowKit
theorem s15_size : (Tryz.prog.info? 24).map (·.size) = some 9 := by kernel_rfl
theorem arr9 {cs : Array Value} {x0 x1 x2 x3 x4 x5 x6 x7 x8 : Value} (h : cs.size = 9) (h0 : cs.toList[0]? = some x0) (h1 : cs.toList[1]? = some x1) (h2 : cs.toList[2]? = some x2) (h3 : cs.toList[3]? = some x3) (h4 : cs.toList[4]? = some x4) (h5 : cs.toList[5]? = some x5) (h6 : cs.toList[6]? = some x6) (h7 : cs.toList[7]? = some x7) (h8 : cs.toList[8]? = some x8) : cs = #[x0, x1, x2, x3, x4, x5, x6, x7, x8] := by
  obtain ⟨l⟩ := cs
  match l, h with
  | [y0, y1, y2, y3, y4, y5, y6, y7, y8], _ =>
    simp only [List.getElem?_cons_zero, List.getElem?_cons_succ, Option.some.injEq] at h0 h1 h2 h3 h4 h5 h6 h7 h8
    rw [h0, h1, h2, h3, h4, h5, h6, h7, h8]
theorem arg_s15 {W : World} {v : Value} (h : Arg Tryz.prog W 24 v) : ∃ (out : Bool) (wt wo po f be by_ ti : Int) (A : Option Addr) (len cap : Nat) (l : List Int), v = .agg #[.bool out, .int .i64 wt, .int .i64 wo, .int .i64 po, .int .i64 f, .slice A len cap, .int .i64 be, .int .u8 by_, .int .i64 ti] ∧
    (0 ≤ by_ ∧ by_ ≤ 255) ∧ len ≤ cap ∧ cap ≤ maxLen ∧ Rd .u8 W W.heap.size A len l := by
  obtain ⟨cs, m, rfl, hs, hf⟩ := arg_struct Tryz.underlying24 h
  have hC : Tryz.prog.cellsOf 24 = 9 := by kernel_rfl
  have hCi : Tryz.prog.cellsOf 3 = 1 := by kernel_rfl
  have hCl : Tryz.prog.cellsOf 4 = 1 := by kernel_rfl
  have hCb : Tryz.prog.cellsOf 5 = 1 := by kernel_rfl
  have hCs : Tryz.prog.cellsOf 22 = 1 := by kernel_rfl
  obtain ⟨x0, e0⟩ := fld_bool (i := 0) hf rfl Tryz.underlying4 hCl
  obtain ⟨x1, e1, _⟩ := fld_int (i := 1) hf rfl Tryz.underlying3 hCi
  obtain ⟨x2, e2, _⟩ := fld_int (i := 2) hf rfl Tryz.underlying3 hCi
  obtain ⟨x3, e3, _⟩ := fld_int (i := 3) hf rfl Tryz.underlying3 hCi
  obtain ⟨x4, e4, _⟩ := fld_int (i := 4) hf rfl Tryz.underlying3 hCi
  obtain ⟨A, len, cap, l, e5, h1, h2, h3⟩ := fld_ints (i := 5) hf rfl Tryz.underlying22 Tryz.underlying5 hCb hCs
  obtain ⟨x6, e6, _⟩ := fld_int (i := 6) hf rfl Tryz.underlying3 hCi
  obtain ⟨x7, e7, r7⟩ := fld_int (i := 7) hf rfl Tryz.underlying5 hCb
  obtain ⟨x8, e8, _⟩ := fld_int (i := 8) hf rfl Tryz.underlying3 hCi
  exact ⟨x0, x1, x2, x3, x4, x6, x7, x8, A, len, cap, l, by rw [arr9 (hs.trans hC) e0 e1 e2 e3 e4 e5 e6 e7 e8], inr_u8 r7, h1, h2, h3⟩
end Go.Proofs.YtbckoohljkmahaaGreat
namespace Go.Proofs.YtbckoohljkmahaaGreat
set_option linter.unusedVariables false
set_option linter.unusedSimpArgs false
open Go.RowKit
theorem has_any (f m : Int) (w : World) :
    Calls Tryz.prog 71 #[.int .i64 f, .int .i64 m] w fun e w' => e = .returned (.bool (fb f m)) ∧ w = w' := by
  go_enter Tryz.func71, Tryz.ntmps71
  go_wp2
  go_ret
  exact ⟨rfl, rfl⟩
end Go.Proofs.YtbckoohljkmahaaGreat
namespace Go.Proofs.YtbckoohljkmahaaGreat
set_option linter.unusedVariables false
set_option linter.unusedSimpArgs false
open Go.RowKit
set_option maxHeartbeats 1000000 in
theorem rBegins_any (p k fl : Int) (w : World) :
    Calls Tryz.prog 45 #[.int .i64 p, .int .i64 k, .int .i64 fl] w fun e w' => e = .returned (.bool (beginsS p k fl)) ∧ w = w' := by
  rcases protos p with rfl | rfl | rfl | ⟨h1, h2, h3, h⟩
  case inr.inr.inr => rw [beginsS_none h]; clear h; go_enter Tryz.func45, Tryz.ntmps45; go_wp2; go_ret; exact ⟨rfl, rfl⟩
  case inr.inr.inl =>
    have e : beginsS 6 k fl = (fb fl 2 && !fb fl 1 && !fb fl 4 && !fb fl 16) := rfl
    rw [e]
    clear e
    have hm := fun (m : Int) (w : World) => has_any fl m w
    generalize fb fl = F at *
    obtain ⟨r, hr⟩ : ∃ r, r = F 4 := ⟨_, rfl⟩
    obtain ⟨f, hf⟩ : ∃ r, r = F 1 := ⟨_, rfl⟩
    obtain ⟨s, hs⟩ : ∃ r, r = F 2 := ⟨_, rfl⟩
    obtain ⟨q, hk⟩ : ∃ r, r = F 16 := ⟨_, rfl⟩
    have m4 := fun w => hm 4 w
    have m1 := fun w => hm 1 w
    have m2 := fun w => hm 2 w
    have m16 := fun w => hm 16 w
    rw [← hr, ← hf, ← hs, ← hk]
    rw [← hr] at m4
    rw [← hf] at m1
    rw [← hs] at m2
    rw [← hk] at m16
    clear hm hr hf hs hk
    replace m4 := Lib.hid m4
    replace m1 := Lib.hid m1
    replace m2 := Lib.hid m2
    replace m16 := Lib.hid m16
    cases s <;> cases f <;> cases r
    all_goals
      go_enter Tryz.func45, Tryz.ntmps45
      go_wp2_with (first
        | (go_at_call_of 71 (Value.int .i64 4); refine (m4.out _).mono ?_; rintro e w' ⟨rfl, rfl⟩)
        | (go_at_call_of 71 (Value.int .i64 1); refine (m1.out _).mono ?_; rintro e w' ⟨rfl, rfl⟩)
        | (go_at_call_of 71 (Value.int .i64 2); refine (m2.out _).mono ?_; rintro e w' ⟨rfl, rfl⟩)
        | (go_at_call_of 71 (Value.int .i64 16); refine (m16.out _).mono ?_; rintro e w' ⟨rfl, rfl⟩))
      go_ret
      exact ⟨rfl, rfl⟩
  all_goals
    go_enter Tryz.func45, Tryz.ntmps45
    go_wp2
    go_ret
    exact ⟨rfl, rfl⟩
end Go.Proofs.YtbckoohljkmahaaGreat
namespace Go.Proofs.YtbckoohljkmahaaGreat
set_option linter.unusedVariables false
set_option linter.unusedSimpArgs false
open Go.RowKit
/-! ### as the walk tells it -/
end Go.Proofs.YtbckoohljkmahaaGreat
namespace Go.Proofs.YtbckoohljkmahaaGreat
set_option linter.unusedVariables false
set_option linter.unusedSimpArgs false
open Go.RowKit
/-! ### heads -/
end Go.Proofs.YtbckoohljkmahaaGreat
namespace Go.Proofs.YtbckoohljkmahaaGreat
set_option linter.unusedVariables false
set_option linter.unusedSimpArgs false
open Go.RowKit
section
variable (out : Bool) (l : List Int) (A : Option Addr) (len c B : Nat) (addr port : Int) (w : World) (hr : Rd .u8 w B A len l) (hB : B ≤ w.heap.size) (hlc : len ≤ c) (hcm : c ≤ 9223372036854775807) (hl : len ≤ 60000)
include hr hB hlc hcm hl
end
section
variable (out : Bool) (l : List Int) (A : Option Addr) (len c B : Nat) (addr port : Int) (w : World) (hr : Rd .u8 w B A len l) (hB : B ≤ w.heap.size) (hlc : len ≤ c) (hcm : c ≤ 9223372036854775807) (hl : len ≤ 60000)
  (sz m : Nat) (h2 h3 h4 h5 : Int) (ha : 0 ≤ addr ∧ addr ≤ 4294967295) (hport : 0 ≤ port ∧ port ≤ 65535) (Y : List Int)
include hr hB hlc hcm hl
end
end Go.Proofs.YtbckoohljkmahaaGreat
namespace Go.Proofs.YtbckoohljkmahaaGreat
set_option linter.unusedVariables false
set_option linter.unusedSimpArgs false
open Go.RowKit
section
variable (out : Bool) (l : List Int) (A : Option Addr) (len c B : Nat) (addr port : Int) (w : World) (hr : Rd .u8 w B A len l) (hB : B ≤ w.heap.size) (hlc : len ≤ c) (hcm : c ≤ 9223372036854775807) (hl : len ≤ 60000) (ha : 0 ≤ addr ∧ addr ≤ 4294967295) (hport : 0 ≤ port ∧ port ≤ 65535)
include hr hB hlc hcm hl ha hport
end
section
variable (l : List Int) (A : Option Addr) (len c B : Nat) (addr port : Int) (w : World) (hr : Rd .u8 w B A len l) (hB : B ≤ w.heap.size) (hlc : len ≤ c) (hcm : c ≤ 9223372036854775807) (hl : len ≤ 60000) (ha : 0 ≤ addr ∧ addr ≤ 4294967295) (hport : 0 ≤ port ∧ port ≤ 65535)
include hr hB hlc hcm hl ha hport
end
end Go.Proofs.YtbckoohljkmahaaGreat
