/- What the laws' proofs lean on: plain facts and contracts of the program's functions, laid together (10). -/
import Derived.Test.YtilhkhnjloplfaaGreatDoorPp08
import Derived.Test.YtilhkhnjloplfaaGreatDoorPp09
import Derived.Test.YtilhkhnjloplfaaGreatDoorPp01
import Derived.Test.YtilhkhnjloplfaaGreatDoorPp03
import Derived.Deep.DeepCutAuto
import Derived.Lib.SlBytesConst
import Derived.Deep.CutBlock
namespace Go.Proofs.YtilhkhnjloplfaaGreatDoor
set_option linter.unusedVariables false
set_option linter.unusedSimpArgs false
open Go.RowKit
end Go.Proofs.YtilhkhnjloplfaaGreatDoor
namespace Go.Proofs.YtilhkhnjloplfaaGreatDoor
set_option linter.unusedVariables false
set_option linter.unusedSimpArgs false
open Go.RowKit
end Go.Proofs.YtilhkhnjloplfaaGreatDoor
namespace Go.Proofs.YtilhkhnjloplfaaGreatDoor
set_option linter.unusedVariables false
set_option linter.unusedSimpArgs false
open Go.RowKit
end Go.Proofs.YtilhkhnjloplfaaGreatDoor
namespace Go.Proofs.YtilhkhnjloplfaaGreatDoor
set_option linter.unusedVariables false
set_option linter.unusedSimpArgs false
open Go.RowKit
end Go.Proofs.YtilhkhnjloplfaaGreatDoor
namespace Go.Proofs.YtilhkhnjloplfaaGreatDoor
set_option linter.unusedVariables false
set_option linter.unusedSimpArgs false
open Go.RowKit
end Go.Proofs.YtilhkhnjloplfaaGreatDoor
namespace Go.Proofs.YtilhkhnjloplfaaGreatDoor
set_option linter.unusedVariables false
set_option linter.unusedSimpArgs false
open Go.RowKit
end Go.Proofs.YtilhkhnjloplfaaGreatDoor
namespace Go.Proofs.YtilhkhnjloplfaaGreatDoor
set_option linter.unusedVariables false
set_option linter.unusedSimpArgs false
open Go.RowKit
end Go.Proofs.YtilhkhnjloplfaaGreatDoor
namespace Go.Proofs.YtilhkhnjloplfaaGreatDoor
set_option linter.unusedVariables false
set_option linter.unusedSimpArgs false
open Go.RowKit
section
variable {P : Program}
end
end Go.Proofs.YtilhkhnjloplfaaGreatDoor
namespace Go.Proofs.YtilhkhnjloplfaaGreatDoor
set_option linter.unusedVariables false
set_option linter.unusedSimpArgs false
open Go.RowKit
end Go.Proofs.YtilhkhnjloplfaaGreatDoor
namespace Go.Proofs.YtilhkhnjloplfaaGreatDoor
set_option linter.unusedVariables false
set_option linter.unusedSimpArgs false
open Go.RowKit
end Go.Proofs.YtilhkhnjloplfaaGreatDoor
namespace Go.Proofs.YtilhkhnjloplfaaGreatDoor
set_option linter.unusedVariables false
set_option linter.unusedSimpArgs false
open Go.RowKit
end Go.Proofs.YtilhkhnjloplfaaGreatDoor
namespace Go.Proofs.YtilhkhnjloplfaaGreatDoor
set_option linter.unusedVariables false
set_option linter.unusedSimpArgs false
open Go.RowKit
/-- what is carried: bytes and protocol -/
def carL (k : Nat) (s d a b f : Int) (l : List Int) : List Int :=
  if k = 0 then udpL s d a b l else if k = 1 then tcpL s d a b f l else if k = 2 then echoL false a l else if k = 3 then echoL true a l else
  if k = 4 then faultL 3 (f.tmod 16) (putL 9 17 d s (udpL d s b a l)) else if k = 5 then faultL 11 0 ((putL 9 6 d s (tcpL d s b a 2 l)).take (28 + l.length / 2)) else faultL 3 1 (putL 9 1 d s (echoL false b l))
def carP (k : Nat) : Int := if k = 0 then 17 else if k = 1 then 6 else 1
theorem udpL_len (s d a b : Int) (l : List Int) : (udpL s d a b l).length = 8 + (fewL l).length := udpB_len _ _ _ _
theorem Own.mono_ {k : IntKind} {e : TypeId} {w : World} {base base' : Nat} {v : Value} {l : List Int} (h : Own k e w base v l) (hb : base' ≤ base) : Own k e w base' v l := by
  refine ⟨⟨h.row.1, ?_⟩, h.rng⟩
  rcases h.row.2 with h1 | ⟨g, cap, cur, h1, h2, h3⟩
  · exact .inl h1
  · exact .inr ⟨g, cap, cur, h1, Nat.le_trans hb h2, h3⟩
end Go.Proofs.YtilhkhnjloplfaaGreatDoor
namespace Go.Proofs.YtilhkhnjloplfaaGreatDoor
set_option linter.unusedVariables false
set_option linter.unusedSimpArgs false
open Go.RowKit
end Go.Proofs.YtilhkhnjloplfaaGreatDoor
namespace Go.Proofs.YtilhkhnjloplfaaGreatDoor
set_option linter.unusedVariables false
set_option linter.unusedSimpArgs false
open Go.RowKit
end Go.Proofs.YtilhkhnjloplfaaGreatDoor
namespace Go.Proofs.YtilhkhnjloplfaaGreatDoor
set_option linter.unusedVariables false
set_option linter.unusedSimpArgs false
open Go.RowKit
end Go.Proofs.YtilhkhnjloplfaaGreatDoor
namespace Go.Proofs.YtilhkhnjloplfaaGreatDoor
set_option linter.unusedVariables false
set_option linter.unusedSimpArgs false
open Go.RowKit
def Cl (l : List Int) : Prop := ∃ q : Int, 0 < q ∧ sb true l = 65535 * q
theorem Cl.zero {l : List Int} (h : Cl l) : sumOf l = 0 := by obtain ⟨q, h1, h2⟩ := h; exact sumOf_null l q h1 h2
theorem cl_of (l l0 : List Int) (h0 : 0 ≤ sb true l0) (h : sb true l = sb true l0 + sumOf l0) : Cl l := by
  unfold sumOf at h
  unfold Cl
  rw [h]
  generalize sb true l0 = A at *
  by_cases hA : A = 0
  · subst hA; exact ⟨1, by omega, by decide⟩
  · have : fo A = (A - 1) % 65535 + 1 := by unfold fo; rw [if_neg hA]
    rw [this]; exact ⟨(A - 1) / 65535 + 1, by omega, by omega⟩
theorem cl_nev (l l0 : List Int) (h0 : 0 ≤ sb true l0) (h : sb true l = sb true l0 + nev (sumOf l0)) : Cl l := by
  unfold nev at h
  by_cases hz : sumOf l0 = 0
  · rw [if_pos hz] at h
    unfold Cl
    rw [h]
    unfold sumOf at hz
    generalize sb true l0 = A at *
    by_cases hA : A = 0
    · subst hA; exact absurd hz (by decide)
    · have : fo A = (A - 1) % 65535 + 1 := by unfold fo; rw [if_neg hA]
      rw [this] at hz; exact ⟨(A - 1) / 65535 + 2, by omega, by omega⟩
  · rw [if_neg hz] at h
    exact cl_of l l0 h0 h
theorem udpB_sb (a b : Int) (l : List Int) (S : Int) : sb true (udpB a b l S) = sb true (udpB a b l 0) + S := by
  simp only [udpB, be2, List.cons_append, List.nil_append, sb]; omega
theorem tcpB_sb (a b f : Int) (l : List Int) (S : Int) : sb true (tcpB a b f l S) = sb true (tcpB a b f l 0) + S := by
  simp only [tcpB, be2, List.cons_append, List.nil_append, sb]; omega
theorem echoB_sb (k a : Int) (l : List Int) (S : Int) : sb true (echoB k a l S) = sb true (echoB k a l 0) + S := by
  simp only [echoB, be2, List.cons_append, List.nil_append, sb]; omega
def Bytes8 (l : List Int) : Prop := ∀ x, x ∈ l → 0 ≤ x ∧ x ≤ 255
theorem b8 {l : List Int} (h : ∀ x, x ∈ l → 0 ≤ x ∧ x ≤ 255) : Bytes8 l := h
theorem Bytes8.app {a b : List Int} (ha : Bytes8 a) (hb : Bytes8 b) : Bytes8 (a ++ b) := fun x hx => (List.mem_append.1 hx).elim (ha x) (hb x)
theorem Bytes8.take {a : List Int} (ha : Bytes8 a) (n : Nat) : Bytes8 (a.take n) := fun x hx => ha x (List.mem_of_mem_take hx)
theorem udpB_bd {a b : Int} {l : List Int} {S : Int} (ha : 0 ≤ a ∧ a ≤ 65535) (hb : 0 ≤ b ∧ b ≤ 65535) (hl : Bytes8 l) (hn : l.length ≤ 65527) (hS : 0 ≤ S ∧ S ≤ 65535) : Bytes8 (udpB a b l S) :=
  ((((b8 (be2_bd a ha)).app (be2_bd b hb)).app (be2_bd _ (by omega))).app (be2_bd S hS)).app hl
theorem tcpB_bd {a b f : Int} {l : List Int} {S : Int} (ha : 0 ≤ a ∧ a ≤ 65535) (hb : 0 ≤ b ∧ b ≤ 65535) (hl : Bytes8 l) (hS : 0 ≤ S ∧ S ≤ 65535) : Bytes8 (tcpB a b f l S) :=
  (((((b8 (be2_bd a ha)).app (be2_bd b hb)).app (fun x hx => by simp at hx; omega)).app (be2_bd S hS)).app (fun x hx => by simp at hx; omega)).app hl
theorem echoB_bd {k a : Int} {l : List Int} {S : Int} (hk : 0 ≤ k ∧ k ≤ 255) (ha : 0 ≤ a ∧ a ≤ 65535) (hl : Bytes8 l) (hS : 0 ≤ S ∧ S ≤ 65535) : Bytes8 (echoB k a l S) :=
  (((Bytes8.app (fun x hx => by simp at hx; omega) (be2_bd S hS)).app (be2_bd a ha)).app (fun x hx => by simp at hx; omega)).app hl
theorem few_len (l : List Int) : (fewL l).length ≤ 1400 := by unfold fewL; rw [List.length_take]; omega
theorem few_bd {l : List Int} (h : Bytes8 l) : Bytes8 (fewL l) := h.take _
theorem nev_bd {s : Int} (h : 0 ≤ s ∧ s ≤ 65535) : 0 ≤ nev s ∧ nev s ≤ 65535 ∧ nev s ≠ 0 := by unfold nev; split <;> omega
section
variable {s d a b : Int} {l : List Int} (hs : 0 ≤ s ∧ s ≤ 4294967295) (hd : 0 ≤ d ∧ d ≤ 4294967295) (ha : 0 ≤ a ∧ a ≤ 65535) (hb : 0 ≤ b ∧ b ≤ 65535) (hl : Bytes8 l)
include hs hd ha hb hl
theorem udp_sum : 0 ≤ csum s d 17 (udpB a b (fewL l) 0) ∧ csum s d 17 (udpB a b (fewL l) 0) ≤ 65535 := by
  have hf := few_len l
  exact csum_bd hs hd (by omega) (by rw [udpB_len]; omega) (udpB_bd ha hb (few_bd hl) (by omega) (by omega))
theorem udp_cl (S : Int) (hS : S = nev (csum s d 17 (udpB a b (fewL l) 0))) : Cl (ph s d 17 (udpB a b (fewL l) S).length ++ udpB a b (fewL l) S) := by
  have hf := few_len l
  refine cl_nev _ (ph s d 17 (udpB a b (fewL l) 0).length ++ udpB a b (fewL l) 0) (sb_bd _ (Bytes8.app (ph_bd hs hd (by omega) (by rw [udpB_len]; omega)) (udpB_bd ha hb (few_bd hl) (by omega) (by omega))) true).1 ?_
  rw [sb_app _ _ (by rw [ph_len]), sb_app _ _ (by rw [ph_len]), udpB_len, udpB_len, udpB_sb, hS]
  unfold csum
  rw [udpB_len]
  omega
theorem tcp_cl (f S : Int) (hS : S = csum s d 6 (tcpB a b f (fewL l) 0)) : Cl (ph s d 6 (tcpB a b f (fewL l) S).length ++ tcpB a b f (fewL l) S) := by
  have hf := few_len l
  refine cl_of _ (ph s d 6 (tcpB a b f (fewL l) 0).length ++ tcpB a b f (fewL l) 0) (sb_bd _ (Bytes8.app (ph_bd hs hd (by omega) (by rw [tcpB_len]; omega)) (tcpB_bd ha hb (few_bd hl) (by omega))) true).1 ?_
  rw [sb_app _ _ (by rw [ph_len]), sb_app _ _ (by rw [ph_len]), tcpB_len, tcpB_len, tcpB_sb, hS]
  unfold csum
  rw [tcpB_len]
  omega
end
section
variable {k a c : Int} {l : List Int} (hl : Bytes8 l)
include hl
theorem echo_sum (hk : 0 ≤ k ∧ k ≤ 255) (ha : 0 ≤ a ∧ a ≤ 65535) : 0 ≤ sumOf (echoB k a (fewL l) 0) ∧ sumOf (echoB k a (fewL l) 0) ≤ 65535 := sumOf_bd (echoB_bd hk ha (few_bd hl) (by omega))
theorem echo_cl (hk : 0 ≤ k ∧ k ≤ 255) (ha : 0 ≤ a ∧ a ≤ 65535) : Cl (echoB k a (fewL l) (sumOf (echoB k a (fewL l) 0))) :=
  cl_of _ (echoB k a (fewL l) 0) (sb_bd _ (echoB_bd hk ha (few_bd hl) (by omega)) true).1 (echoB_sb _ _ _ _)
end
/-- what comes of a packet -/
theorem seg_put (t p s d : Int) (x : List Int) : seg (putL t p s d x) 20 x.length = x := by
  unfold seg putL
  generalize sumOf (hd20 t p s d (20 + (x.length : Int)) 0) = S
  have hl : (hd20 t p s d (20 + (x.length : Int)) S).length = 20 := rfl
  rw [List.drop_left' hl, List.take_length]
def getX (p : Int) (h : Hd) (x : List Int) : PR := if p = 17 then udpR h x else if p = 6 then tcpR h x else if p = 1 then icmpR h x else (6, Pt.z)
theorem getR_put (t p s d : Int) (x : List Int) (h : Hd) (hh : h = ⟨20, 20 + x.length, t, p, s, d⟩) : getR h (putL t p s d x) = getX p h x := by
  have e1 : h.size = 20 := by rw [hh]
  have e2 : h.len = 20 + x.length := by rw [hh]
  have e3 : h.proto = p := by rw [hh]
  have e4 : (20 + (x.length : Int) - 20).toNat = x.length := by omega
  unfold getR
  rw [if_neg (by rw [e1, e2, put_len]; omega), e1, e2, e3, e4, show (20 : Int).toNat = 20 from rfl, seg_put]
  rfl
/-- what is laid is got -/
theorem udp_got {h : Hd} {a b S : Int} {l : List Int} (ha : 0 ≤ a ∧ a ≤ 65535) (hb : 0 ≤ b ∧ b ≤ 65535) (hS : 0 ≤ S ∧ S ≤ 65535) (hn : l.length ≤ 65527) (hc : S ≠ 0 → csum h.src h.dst 17 (udpB a b l S) = 0) :
    udpR h (udpB a b l S) = (0, { Pt.z with proto := 17, src := a, dst := b, bare := decide (S = 0) }) := by
  have hl := udpB_len a b l S
  have e0 : n2 (udpB a b l S) 0 = a := by rw [n2_eq _ _ (by omega)]; show a / 256 * 256 + a % 256 = a; omega
  have e2 : n2 (udpB a b l S) 2 = b := by rw [n2_eq _ _ (by omega)]; show b / 256 * 256 + b % 256 = b; omega
  have e4 : n2 (udpB a b l S) 4 = 8 + l.length := by rw [n2_eq _ _ (by omega)]; show (8 + (l.length : Int)) / 256 * 256 + (8 + (l.length : Int)) % 256 = _; omega
  have e6 : n2 (udpB a b l S) 6 = S := by rw [n2_eq _ _ (by omega)]; show S / 256 * 256 + S % 256 = S; omega
  unfold udpR
  rw [if_neg (by omega), e4, if_neg (by rw [hl]; omega), e6, if_neg (fun e => e.2 (hc e.1))]
  unfold portsP
  rw [e0, e2]
theorem tcp_got {h : Hd} {a b f S : Int} {l : List Int} (ha : 0 ≤ a ∧ a ≤ 65535) (hb : 0 ≤ b ∧ b ≤ 65535) (hc : csum h.src h.dst 6 (tcpB a b f l S) = 0) :
    tcpR h (tcpB a b f l S) = (0, { Pt.z with proto := 6, src := a, dst := b, flags := f % 256 }) := by
  have hl := tcpB_len a b f l S
  have e0 : n2 (tcpB a b f l S) 0 = a := by rw [n2_eq _ _ (by omega)]; show a / 256 * 256 + a % 256 = a; omega
  have e2 : n2 (tcpB a b f l S) 2 = b := by rw [n2_eq _ _ (by omega)]; show b / 256 * 256 + b % 256 = b; omega
  have e12 : (tcpB a b f l S).getD 12 0 = 80 := rfl
  have e13 : (tcpB a b f l S).getD 13 0 = f % 256 := rfl
  unfold tcpR
  rw [if_neg (by omega), e12, if_neg (by omega), if_neg (fun e => e hc)]
  unfold portsP
  rw [e0, e2, e13]
theorem echo_got {h : Hd} {k a S : Int} {l : List Int} (ha : 0 ≤ a ∧ a ≤ 65535) (hk : k = 0 ∨ k = 8) (hc : sumOf (echoB k a l S) = 0) :
    icmpR h (echoB k a l S) = (0, { Pt.z with proto := 1, kind := k, code := 0, src := a, dst := a }) := by
  have hl := echoB_len k a l S
  have e4 : n2 (echoB k a l S) 4 = a := by rw [n2_eq _ _ (by omega)]; show a / 256 * 256 + a % 256 = a; omega
  have e0 : (echoB k a l S).getD 0 0 = k := rfl
  have e1 : (echoB k a l S).getD 1 0 = 0 := rfl
  unfold icmpR
  rw [if_neg (by omega), if_neg (fun e => e hc), e0, if_pos hk, e1, if_neg (by decide)]
  unfold portsP
  rw [e4]
end Go.Proofs.YtilhkhnjloplfaaGreatDoor
namespace Go.Proofs.YtilhkhnjloplfaaGreatDoor
set_option linter.unusedVariables false
set_option linter.unusedSimpArgs false
open Go.RowKit
def gotP (k : Nat) (a b f : Int) : Pt :=
  if k = 0 then { Pt.z with proto := 17, src := a, dst := b } else if k = 1 then { Pt.z with proto := 6, src := a, dst := b, flags := f % 256 } else
  { Pt.z with proto := 1, kind := if k = 2 then 8 else 0, src := a, dst := a }
section
variable {s d a b f : Int} {l : List Int} {h : Hd} (hs : 0 ≤ s ∧ s ≤ 4294967295) (hd : 0 ≤ d ∧ d ≤ 4294967295) (ha : 0 ≤ a ∧ a ≤ 65535) (hb : 0 ≤ b ∧ b ≤ 65535) (hl : Bytes8 l) (h1 : h.src = s) (h2 : h.dst = d)
include hs hd ha hb hl h1 h2
theorem udpL_got : udpR h (udpL s d a b l) = (0, gotP 0 a b f) := by
  have hf := few_len l
  have hn := nev_bd (udp_sum hs hd ha hb hl)
  have hc := udp_cl hs hd ha hb hl _ rfl
  unfold udpL
  rw [udp_got ha hb ⟨hn.1, hn.2.1⟩ (by omega) (fun _ => by rw [h1, h2]; exact hc.zero)]
  rw [decide_eq_false hn.2.2]
  rfl
theorem tcpL_got : tcpR h (tcpL s d a b f l) = (0, gotP 1 a b f) := by
  have hc := tcp_cl hs hd ha hb hl f _ rfl
  unfold tcpL
  rw [tcp_got ha hb (by rw [h1, h2]; exact hc.zero)]
  rfl
omit hs hd hb h1 h2 in
theorem echoL_got (r : Bool) : icmpR h (echoL r a l) = (0, gotP (if r then 3 else 2) a b f) := by
  have hk : 0 ≤ (if r then (0 : Int) else 8) ∧ (if r then (0 : Int) else 8) ≤ 255 := by cases r <;> decide
  have hc := echo_cl hl hk ha
  unfold echoL
  rw [echo_got ha (by cases r <;> simp) hc.zero]
  cases r <;> rfl
theorem car_got (k : Nat) (hk : k < 4) : getX (carP k) h (carL k s d a b f l) = (0, gotP k a b f) := by
  have hk' : k = 0 ∨ k = 1 ∨ k = 2 ∨ k = 3 := by omega
  rcases hk' with rfl | rfl | rfl | rfl
  · exact udpL_got hs hd ha hb hl h1 h2
  · exact tcpL_got hs hd ha hb hl h1 h2
  · exact echoL_got (b := b) (f := f) (h := h) ha hl false
  · exact echoL_got (b := b) (f := f) (h := h) ha hl true
end
end Go.Proofs.YtilhkhnjloplfaaGreatDoor
namespace Go.Proofs.YtilhkhnjloplfaaGreatDoor
set_option linter.unusedVariables false
set_option linter.unusedSimpArgs false
open Go.RowKit
section
variable {k : Nat} {s d a b f : Int} {l : List Int} (hs : 0 ≤ s ∧ s ≤ 4294967295) (hd : 0 ≤ d ∧ d ≤ 4294967295) (ha : 0 ≤ a ∧ a ≤ 65535) (hb : 0 ≤ b ∧ b ≤ 65535) (hl : Bytes8 l) (hn : l.length ≤ 40)
include hn in
include hs hd hn in
include hs hd ha hb hl hn
end
section
variable {s d a b f : Int} {l : List Int} (hs : 0 ≤ s ∧ s ≤ 4294967295) (hd : 0 ≤ d ∧ d ≤ 4294967295) (ha : 0 ≤ a ∧ a ≤ 65535) (hb : 0 ≤ b ∧ b ≤ 65535) (hl : Bytes8 l) (hn : l.length ≤ 40)
include hs hd ha hb hl hn
end
end Go.Proofs.YtilhkhnjloplfaaGreatDoor
namespace Go.Proofs.YtilhkhnjloplfaaGreatDoor
set_option linter.unusedVariables false
set_option linter.unusedSimpArgs false
open Go.RowKit
theorem Own.upd {k : IntKind} {e : TypeId} {w w' : World} {base : Nat} {v : Value} {l : List Int} {S : Nat → Prop} (h : Own k e w base v l) (hu : Upd S w w') (hS : ∀ g, v.ownBlock = some g → ¬ S g) : Own k e w' base v l := by
  refine ⟨⟨h.row.1, ?_⟩, h.rng⟩
  rcases h.row.2 with h1 | ⟨g, cap, cur, h1, h2, h3, h4⟩
  · exact .inl h1
  · exact .inr ⟨g, cap, cur, h1, h2, (hu.block g (Array.getElem?_eq_some_iff.1 h3).1 (hS g (by rw [h1]; rfl))).trans h3, h4⟩
end Go.Proofs.YtilhkhnjloplfaaGreatDoor
namespace Go.Proofs.YtilhkhnjloplfaaGreatDoor
set_option linter.unusedVariables false
set_option linter.unusedSimpArgs false
open Go.RowKit
theorem life_get {t P s d : Int} {l : List Int} (ht : 0 ≤ t ∧ t ≤ 255) (hP : 0 ≤ P ∧ P ≤ 255) (hs : 0 ≤ s ∧ s ≤ 4294967295) (hd : 0 ≤ d ∧ d ≤ 4294967295) (hl : l.length ≤ 1480) :
    getE (putL t P s d l) = 0 ∧ hdIf (putL t P s d l) 0 = ⟨20, (putL t P s d l).length, t, P, s, d⟩ := by
  have h := put_get (t := t) (p := P) (s := s) (d := d) (l := l) ht hP hs hd hl []
  rw [List.append_nil] at h
  refine ⟨h.1, ?_⟩
  unfold hdIf
  rw [if_pos rfl, h.2, put_len]
  push_cast
  rfl
theorem lifeR (t P s d : Int) (x : List Int) : getR ⟨20, (putL t P s d x).length, t, P, s, d⟩ (putL t P s d x) = getX P ⟨20, (putL t P s d x).length, t, P, s, d⟩ x :=
  getR_put t P s d x _ (by rw [put_len]; push_cast; rfl)
end Go.Proofs.YtilhkhnjloplfaaGreatDoor
namespace Go.Proofs.YtilhkhnjloplfaaGreatDoor
set_option linter.unusedVariables false
set_option linter.unusedSimpArgs false
open Go.RowKit
theorem Rd.newF (k : IntKind) (w : World) (t : TypeId) (fr : Nat × Nat) (l : List Int) (hr : ∀ x, x ∈ l → inr k x) (cs : Array Value) (hcs : cs = (l.map (Value.int k)).toArray) (n : Nat) (hn : l.length = n) :
    Rd k (w.alloc (.cells cs t fr)) (w.heap.size + 1) (some ⟨w.heap.size, 0, none⟩) n l := by
  subst hcs
  refine ⟨hn, hr, fun h0 => ⟨_, 0, rfl, by omega, fun j hj => ?_⟩⟩
  rw [cell_of_row _ _ _ _ _ _ (heap_alloc_new w _)]
  simp [List.getElem?_eq_getElem (show j < l.length by omega)]
set_option maxRecDepth 100000 in
set_option maxHeartbeats 2000000 in
theorem stands_any (w : World) :
    Calls Tryz.prog 16 #[] w fun e w' => e = .returned (.bool true) ∧ Below w.heap.size w w' := by
  have hb8 : Bytes8 [104, 105] := fun x hx => by simp at hx; omega
  obtain ⟨C, hC⟩ : ∃ C, C = udpL 1 2 5 53 [104, 105] := ⟨_, rfl⟩
  have hCl : C.length = 10 := by rw [hC, udpL_len]; rfl
  have hget := life_get (t := 9) (P := 17) (s := 1) (d := 2) (l := C) (by omega) (by omega) (by omega) (by omega) (by omega)
  have hR := lifeR 9 17 1 2 C
  obtain ⟨X, hX⟩ : ∃ X, X = putL 9 17 1 2 C := ⟨_, rfl⟩
  have hXl : X.length = 30 := by rw [hX, put_len, hCl]
  rw [← hX, hXl] at hget hR
  have hgot : getX 17 ⟨20, ((30 : Nat) : Int), 9, 17, 1, 2⟩ C = (0, gotP 0 5 53 0) := by rw [hC]; exact car_got (s := 1) (d := 2) (by omega) (by omega) (by omega) (by omega) hb8 rfl rfl 0 (by omega)
  rw [hgot] at hR
  have hput := fun W A c (ho : Rd .u8 W W.heap.size A 10 C) => Put_any 0 0 9 17 1 2 C A 10 c _ W ho (Nat.le_refl _) (by omega) (by omega) (by omega) (by omega) (by omega)
  unfold PutRes at hput
  simp only [← hX] at hput
  have hudp := fun W A (ho : Rd .u8 W W.heap.size A 2 [104, 105]) => pUdp_any 1 2 5 53 [104, 105] A 2 2 _ W ho (Nat.le_refl _) (by omega) (by omega) (by omega) (by omega) (by omega) (by omega)
  unfold Gives at hudp
  simp only [← hC] at hudp
  have hpg := fun W A c (ho : Rd .u8 W W.heap.size A 30 X) (h1 : 30 ≤ c) (h2 : c ≤ 9223372036854775807) => PGet_any ⟨20, ((30 : Nat) : Int), 9, 17, 1, 2⟩ X A 30 c _ W ho (Nat.le_refl _) h1 h2 (by omega) (by show (0:Int) ≤ 1 ∧ (1:Int) ≤ _; omega) (by show (0:Int) ≤ 2 ∧ (2:Int) ≤ _; omega)
  rw [hR] at hpg
  simp only [Tells, Pt.val, Hd.val, gotP, Pt.z, Hd.z, if_true] at hpg
  clear hR hgot hX hC hb8
  replace hCl := Lib.hid hCl
  replace hXl := Lib.hid hXl
  replace hget := Lib.hid hget
  replace hput := Lib.hid hput
  replace hudp := Lib.hid hudp
  replace hpg := Lib.hid hpg
  go_enter Tryz.func16, Tryz.ntmps16
  have hcv := Lib.run_convert_bytes_const (P := Tryz.prog) w 76 5 #[.int .u8 104, .int .u8 105] 2 2 Tryz.underlying76 Tryz.underlying5
  rw [show (#[Value.int .u8 104, Value.int .u8 105] : Array Value).size = 2 from rfl] at hcv
  have rd0 := Rd.newF .u8 w 5 (2, 2 + 1) [104, 105] (fun x hx => by simp at hx; exact u8_inr (by omega)) #[.int .u8 104, .int .u8 105] rfl 2 rfl
  rw [show w.heap.size + 1 = (w.alloc (.cells #[.int .u8 104, .int .u8 105] 5 (2, 2 + 1))).heap.size by simp] at rd0
  have bel := bel_alloc w (.cells #[.int .u8 104, .int .u8 105] 5 (2, 2 + 1))
  go_wp2_with fail
  refine (hudp.out _ _ rd0).mono ?_
  rintro e w1 ⟨v1, rfl, own1, bel1⟩
  replace own1 := own1.mono_ bel.size
  replace bel := bel_after bel bel1
  clear bel1 rd0
  obtain ⟨A1, c1, rfl, hc1, hc2, rd1⟩ := own1.form hCl.out
  clear own1
  go_wp2_with fail
  refine (hput.out _ _ _ rd1).mono ?_
  rintro e w2 ⟨v2, rfl, own2, bel2⟩
  replace own2 := own2.mono_ bel.size
  replace bel := bel_after bel bel2
  clear bel2 rd1 hc1 hc2
  obtain ⟨g, c2, rfl, hc1, hc2, hg1, hg2⟩ := own2.formG hXl.out (by omega)
  unfold maxLen at hc2
  have hge := Get_any X (some ⟨g, 0, none⟩) 30 c2 _ w2 (own2.rd hXl.out) (Nat.le_refl _) hc1 (by omega) (by omega)
  rw [hget.out.1, hget.out.2] at hge
  simp only [Hd.val] at hge
  replace hge := Lib.hid hge
  go_wp2_with fail
  refine hge.out.mono ?_
  rintro e w3 ⟨rfl, hb3⟩
  replace own2 := own2.below hb3
  replace bel := bel_after bel hb3
  clear hb3 hge hget
  have hgl : g < w3.heap.size := (own2.lt g rfl).2
  have bh := (Blk.new w3 81 #[.int .i64 0, .int .i64 0, .int .i64 0, .int .i64 0, .int .u32 0, .int .u32 0]).setRow #[.int .i64 20, .int .i64 30, .int .i64 9, .int .i64 17, .int .u32 1, .int .u32 2]
  replace own2 := (own2.alloc (.cells #[.int .i64 0, .int .i64 0, .int .i64 0, .int .i64 0, .int .u32 0, .int .u32 0] 81)).upd (Upd.row' (w3.alloc (.cells #[.int .i64 0, .int .i64 0, .int .i64 0, .int .i64 0, .int .u32 0, .int .u32 0] 81)) w3.heap.size #[.int .i64 20, .int .i64 30, .int .i64 9, .int .i64 17, .int .u32 1, .int .u32 2]) (by intro x hx e; simp [Value.ownBlock] at hx; omega)
  replace bel := below_setRow (bel.alloc bel.size (.cells #[.int .i64 0, .int .i64 0, .int .i64 0, .int .i64 0, .int .u32 0, .int .u32 0] 81)) bel.size #[.int .i64 20, .int .i64 30, .int .i64 9, .int .i64 17, .int .u32 1, .int .u32 2]
  go_wp2_with (first
    | (refine wpList_stRow rfl rfl rfl rfl rfl (Blk.new w3 _ _) hd_size rfl (by simp [Value.oneCell']) ?_; generalize (w3.alloc (.cells #[.int .i64 0, .int .i64 0, .int .i64 0, .int .i64 0, .int .u32 0, .int .u32 0] 81)).setRow w3.heap.size #[.int .i64 20, .int .i64 30, .int .i64 9, .int .i64 17, .int .u32 1, .int .u32 2] = W3 at *; generalize w3.heap.size = g3 at *)
    | (refine wpList_ldRow rfl rfl rfl bh Tryz.underlying81 hd_size ?_))
  refine (hpg.out _ _ _ (own2.rd hXl.out) hc1 (by omega)).mono ?_
  rintro e w4 ⟨rfl, hb4⟩
  replace bh := bh.bel hb4
  replace bel := bel_after bel hb4
  clear hb4 own2
  have hgl3 := bh.lt
  have bp := (Blk.new w4 87 #[.int .i64 0, .int .u16 0, .int .u16 0, .int .i64 0, .int .i64 0, .int .i64 0, .bool false, .int .i64 0, .int .i64 0, .int .i64 0, .int .i64 0, .int .u32 0, .int .u32 0, .int .i64 0, .bool false]).setRow #[.int .i64 17, .int .u16 5, .int .u16 53, .int .i64 0, .int .i64 0, .int .i64 0, .bool false, .int .i64 0, .int .i64 0, .int .i64 0, .int .i64 0, .int .u32 0, .int .u32 0, .int .i64 0, .bool false]
  replace bh := (bh.alloc (.cells #[.int .i64 0, .int .u16 0, .int .u16 0, .int .i64 0, .int .i64 0, .int .i64 0, .bool false, .int .i64 0, .int .i64 0, .int .i64 0, .int .i64 0, .int .u32 0, .int .u32 0, .int .i64 0, .bool false] 87)).setRow_far (g' := w4.heap.size) (by omega) #[.int .i64 17, .int .u16 5, .int .u16 53, .int .i64 0, .int .i64 0, .int .i64 0, .bool false, .int .i64 0, .int .i64 0, .int .i64 0, .int .i64 0, .int .u32 0, .int .u32 0, .int .i64 0, .bool false]
  replace bel := below_setRow (bel.alloc bel.size (.cells #[.int .i64 0, .int .u16 0, .int .u16 0, .int .i64 0, .int .i64 0, .int .i64 0, .bool false, .int .i64 0, .int .i64 0, .int .i64 0, .int .i64 0, .int .u32 0, .int .u32 0, .int .i64 0, .bool false] 87)) bel.size #[.int .i64 17, .int .u16 5, .int .u16 53, .int .i64 0, .int .i64 0, .int .i64 0, .bool false, .int .i64 0, .int .i64 0, .int .i64 0, .int .i64 0, .int .u32 0, .int .u32 0, .int .i64 0, .bool false]
  have p1 := bp.cell 1
  have p2 := bp.cell 2
  have h1 := bh.cell 1
  go_wp2_with (refine wpList_stRow rfl rfl rfl rfl rfl (Blk.new w4 _ _) pt_size rfl (by simp [Value.oneCell']) ?_; generalize (w4.alloc (.cells #[.int .i64 0, .int .u16 0, .int .u16 0, .int .i64 0, .int .i64 0, .int .i64 0, .bool false, .int .i64 0, .int .i64 0, .int .i64 0, .int .i64 0, .int .u32 0, .int .u32 0, .int .i64 0, .bool false] 87)).setRow w4.heap.size #[.int .i64 17, .int .u16 5, .int .u16 53, .int .i64 0, .int .i64 0, .int .i64 0, .bool false, .int .i64 0, .int .i64 0, .int .i64 0, .int .i64 0, .int .u32 0, .int .u32 0, .int .i64 0, .bool false] = W4 at *; generalize w4.heap.size = g4 at *)
  go_ret
  exact ⟨rfl, bel⟩
end Go.Proofs.YtilhkhnjloplfaaGreatDoor
