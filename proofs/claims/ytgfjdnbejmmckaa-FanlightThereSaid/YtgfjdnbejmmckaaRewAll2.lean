import Derived.Test.YtgfjdnbejmmckaaPart24
import Derived.Test.YtgfjdnbejmmckaaMapI
import Derived.Test.YtgfjdnbejmmckaaPartPlain
import Derived.Test.YtgfjdnbejmmckaaQuiet
import Derived.Test.YtgfjdnbejmmckaaPlanS
import Derived.RegionTactic
import Derived.Deep.DeepCutAuto
import Derived.Deep.CutBlock
import Derived.Test.YtgfjdnbejmmckaaRewAll1
namespace Go.Proofs.Ytgfjdnbejmmckaa
set_option linter.unusedVariables false
set_option linter.unusedSimpArgs false
open Go.RowKit
/- What packets carry, plain: what is laid is got; one bit turned; another sum; errors about errors. -/
def Cl (l : List Int) : Prop := ∃ q : Int, 0 < q ∧ sb true l = 65535 * q
theorem Cl.zero {l : List Int} (h : Cl l) : sumOf l = 0 := by obtain ⟨q, h1, h2⟩ := h; exact sumOf_null l q h1 h2
theorem Cl.turn {l : List Int} (h : Cl l) (hl : ∀ x, x ∈ l → 0 ≤ x ∧ x ≤ 255) (j m : Nat) (hj : j < l.length) (hm : m < 8) : sumOf (l.set j (flip (l.getD j 0).toNat m : Nat)) ≠ 0 := by
  obtain ⟨q, _, h2⟩ := h; exact flip_sum l q j m hj hm hl h2
theorem cl_of (l l0 : List Int) (h0 : 0 ≤ sb true l0) (h : sb true l = sb true l0 + sumOf l0) : Cl l := by
  unfold sumOf at h
  unfold Cl
  rw [h]
  generalize sb true l0 = A at *
  by_cases hA : A = 0
  · subst hA; exact ⟨1, by omega, by decide⟩
  · have : fo A = (A - 1) % 65535 + 1 := by unfold fo; rw [if_neg hA]
    rw [this]; exact ⟨(A - 1) / 65535 + 1, by omega, by omega⟩
theorem cl_nev (l l0 : List Int) (h0 : 0 ≤ sb true l0) (h : sb true l = sb true l0 + nev (sumOf l0)) : Cl l := by
  unfold nev at h
  by_cases hz : sumOf l0 = 0
  · rw [if_pos hz] at h
    unfold Cl
    rw [h]
    unfold sumOf at hz
    generalize sb true l0 = A at *
    by_cases hA : A = 0
    · subst hA; exact absurd hz (by decide)
    · have : fo A = (A - 1) % 65535 + 1 := by unfold fo; rw [if_neg hA]
      rw [this] at hz; exact ⟨(A - 1) / 65535 + 2, by omega, by omega⟩
  · rw [if_neg hz] at h
    exact cl_of l l0 h0 h
theorem udpB_sb (a b : Int) (l : List Int) (S : Int) : sb true (udpB a b l S) = sb true (udpB a b l 0) + S := by
  simp only [udpB, be2, List.cons_append, List.nil_append, sb]; omega
theorem tcpB_sb (a b f : Int) (l : List Int) (S : Int) : sb true (tcpB a b f l S) = sb true (tcpB a b f l 0) + S := by
  simp only [tcpB, be2, List.cons_append, List.nil_append, sb]; omega
theorem echoB_sb (k a : Int) (l : List Int) (S : Int) : sb true (echoB k a l S) = sb true (echoB k a l 0) + S := by
  simp only [echoB, be2, List.cons_append, List.nil_append, sb]; omega
theorem faultB_sb (k c : Int) (l : List Int) (S : Int) : sb true (faultB k c l S) = sb true (faultB k c l 0) + S := by
  simp only [faultB, be2, List.cons_append, List.nil_append, sb]; omega
def Bytes8 (l : List Int) : Prop := ∀ x, x ∈ l → 0 ≤ x ∧ x ≤ 255
theorem b8 {l : List Int} (h : ∀ x, x ∈ l → 0 ≤ x ∧ x ≤ 255) : Bytes8 l := h
theorem Bytes8.app {a b : List Int} (ha : Bytes8 a) (hb : Bytes8 b) : Bytes8 (a ++ b) := fun x hx => (List.mem_append.1 hx).elim (ha x) (hb x)
theorem Bytes8.take {a : List Int} (ha : Bytes8 a) (n : Nat) : Bytes8 (a.take n) := fun x hx => ha x (List.mem_of_mem_take hx)
theorem udpB_bd {a b : Int} {l : List Int} {S : Int} (ha : 0 ≤ a ∧ a ≤ 65535) (hb : 0 ≤ b ∧ b ≤ 65535) (hl : Bytes8 l) (hn : l.length ≤ 65527) (hS : 0 ≤ S ∧ S ≤ 65535) : Bytes8 (udpB a b l S) :=
  ((((b8 (be2_bd a ha)).app (be2_bd b hb)).app (be2_bd _ (by omega))).app (be2_bd S hS)).app hl
theorem tcpB_bd {a b f : Int} {l : List Int} {S : Int} (ha : 0 ≤ a ∧ a ≤ 65535) (hb : 0 ≤ b ∧ b ≤ 65535) (hl : Bytes8 l) (hS : 0 ≤ S ∧ S ≤ 65535) : Bytes8 (tcpB a b f l S) :=
  (((((b8 (be2_bd a ha)).app (be2_bd b hb)).app (fun x hx => by simp at hx; omega)).app (be2_bd S hS)).app (fun x hx => by simp at hx; omega)).app hl
theorem echoB_bd {k a : Int} {l : List Int} {S : Int} (hk : 0 ≤ k ∧ k ≤ 255) (ha : 0 ≤ a ∧ a ≤ 65535) (hl : Bytes8 l) (hS : 0 ≤ S ∧ S ≤ 65535) : Bytes8 (echoB k a l S) :=
  (((Bytes8.app (fun x hx => by simp at hx; omega) (be2_bd S hS)).app (be2_bd a ha)).app (fun x hx => by simp at hx; omega)).app hl
theorem faultB_bd {k c : Int} {l : List Int} {S : Int} (hl : Bytes8 l) (hS : 0 ≤ S ∧ S ≤ 65535) : Bytes8 (faultB k c l S) :=
  ((Bytes8.app (fun x hx => by simp at hx; omega) (be2_bd S hS)).app (fun x hx => by simp at hx; omega)).app hl
theorem few_len (l : List Int) : (fewL l).length ≤ 1400 := by unfold fewL; rw [List.length_take]; omega
theorem few_bd {l : List Int} (h : Bytes8 l) : Bytes8 (fewL l) := h.take _
theorem nev_bd {s : Int} (h : 0 ≤ s ∧ s ≤ 65535) : 0 ≤ nev s ∧ nev s ≤ 65535 ∧ nev s ≠ 0 := by unfold nev; split <;> omega
section
variable {s d a b : Int} {l : List Int} (hs : 0 ≤ s ∧ s ≤ 4294967295) (hd : 0 ≤ d ∧ d ≤ 4294967295) (ha : 0 ≤ a ∧ a ≤ 65535) (hb : 0 ≤ b ∧ b ≤ 65535) (hl : Bytes8 l)
include hs hd ha hb hl
theorem udp_sum : 0 ≤ csum s d 17 (udpB a b (fewL l) 0) ∧ csum s d 17 (udpB a b (fewL l) 0) ≤ 65535 := by
  have hf := few_len l
  exact csum_bd hs hd (by omega) (by rw [udpB_len]; omega) (udpB_bd ha hb (few_bd hl) (by omega) (by omega))
theorem tcp_sum (f : Int) : 0 ≤ csum s d 6 (tcpB a b f (fewL l) 0) ∧ csum s d 6 (tcpB a b f (fewL l) 0) ≤ 65535 := by
  have hf := few_len l
  exact csum_bd hs hd (by omega) (by rw [tcpB_len]; omega) (tcpB_bd ha hb (few_bd hl) (by omega))
theorem udpL_bd : Bytes8 (udpL s d a b l) := by
  have h := nev_bd (udp_sum hs hd ha hb hl)
  have hf := few_len l
  exact udpB_bd ha hb (few_bd hl) (by omega) ⟨h.1, h.2.1⟩
theorem tcpL_bd (f : Int) : Bytes8 (tcpL s d a b f l) := tcpB_bd ha hb (few_bd hl) (tcp_sum hs hd ha hb hl f)
theorem udp_cl (S : Int) (hS : S = nev (csum s d 17 (udpB a b (fewL l) 0))) : Cl (ph s d 17 (udpB a b (fewL l) S).length ++ udpB a b (fewL l) S) := by
  have hf := few_len l
  refine cl_nev _ (ph s d 17 (udpB a b (fewL l) 0).length ++ udpB a b (fewL l) 0) (sb_bd _ (Bytes8.app (ph_bd hs hd (by omega) (by rw [udpB_len]; omega)) (udpB_bd ha hb (few_bd hl) (by omega) (by omega))) true).1 ?_
  rw [sb_app _ _ (by rw [ph_len]), sb_app _ _ (by rw [ph_len]), udpB_len, udpB_len, udpB_sb, hS]
  unfold csum
  rw [udpB_len]
  omega
theorem tcp_cl (f S : Int) (hS : S = csum s d 6 (tcpB a b f (fewL l) 0)) : Cl (ph s d 6 (tcpB a b f (fewL l) S).length ++ tcpB a b f (fewL l) S) := by
  have hf := few_len l
  refine cl_of _ (ph s d 6 (tcpB a b f (fewL l) 0).length ++ tcpB a b f (fewL l) 0) (sb_bd _ (Bytes8.app (ph_bd hs hd (by omega) (by rw [tcpB_len]; omega)) (tcpB_bd ha hb (few_bd hl) (by omega))) true).1 ?_
  rw [sb_app _ _ (by rw [ph_len]), sb_app _ _ (by rw [ph_len]), tcpB_len, tcpB_len, tcpB_sb, hS]
  unfold csum
  rw [tcpB_len]
  omega
end
section
variable {k a c : Int} {l : List Int} (hl : Bytes8 l)
include hl
theorem echo_sum (hk : 0 ≤ k ∧ k ≤ 255) (ha : 0 ≤ a ∧ a ≤ 65535) : 0 ≤ sumOf (echoB k a (fewL l) 0) ∧ sumOf (echoB k a (fewL l) 0) ≤ 65535 := sumOf_bd (echoB_bd hk ha (few_bd hl) (by omega))
theorem fault_sum : 0 ≤ sumOf (faultB k c (fewL l) 0) ∧ sumOf (faultB k c (fewL l) 0) ≤ 65535 := sumOf_bd (faultB_bd (few_bd hl) (by omega))
theorem echoL_bd (r : Bool) (ha : 0 ≤ a ∧ a ≤ 65535) : Bytes8 (echoL r a l) := by
  have hk : 0 ≤ (if r then (0 : Int) else 8) ∧ (if r then (0 : Int) else 8) ≤ 255 := by cases r <;> decide
  exact echoB_bd hk ha (few_bd hl) (echo_sum hl hk ha)
theorem faultL_bd : Bytes8 (faultL k c l) := faultB_bd (few_bd hl) (fault_sum hl)
theorem echo_cl (hk : 0 ≤ k ∧ k ≤ 255) (ha : 0 ≤ a ∧ a ≤ 65535) : Cl (echoB k a (fewL l) (sumOf (echoB k a (fewL l) 0))) :=
  cl_of _ (echoB k a (fewL l) 0) (sb_bd _ (echoB_bd hk ha (few_bd hl) (by omega)) true).1 (echoB_sb _ _ _ _)
theorem fault_cl : Cl (faultL k c l) :=
  cl_of _ (faultB k c (fewL l) 0) (sb_bd _ (faultB_bd (few_bd hl) (by omega)) true).1 (faultB_sb _ _ _ _)
end
theorem put_bd {t p s d : Int} {l : List Int} (ht : 0 ≤ t ∧ t ≤ 255) (hp : 0 ≤ p ∧ p ≤ 255) (hs : 0 ≤ s ∧ s ≤ 4294967295) (hd : 0 ≤ d ∧ d ≤ 4294967295) (hl : Bytes8 l) (hn : l.length ≤ 65515) : Bytes8 (putL t p s d l) :=
  Bytes8.app (hd_bd t p s d (20 + l.length) _ ht hp hs hd (by omega) (sumOf_bd (hd_bd t p s d (20 + l.length) 0 ht hp hs hd (by omega) (by omega)))) hl
theorem csum_turn {s d p : Int} {x : List Int} (hc : Cl (ph s d p x.length ++ x)) (hb : Bytes8 (ph s d p x.length)) (hx : Bytes8 x) (j m : Nat) (hj : j < x.length) (hm : m < 8) : csum s d p (x.set j (flip (x.getD j 0).toNat m : Nat)) ≠ 0 := by
  have h := hc.turn (hb.app hx) (12 + j) m (by rw [List.length_append, ph_len]; omega) hm
  have e1 : (ph s d p x.length ++ x).getD (12 + j) 0 = x.getD j 0 := by
    rw [List.getD_eq_getElem?_getD, List.getElem?_append_right (by rw [ph_len]; omega), ph_len, List.getD_eq_getElem?_getD]; congr 2; omega
  rw [e1, List.set_append, ph_len, if_neg (by omega)] at h
  unfold csum
  rw [List.length_set]
  have e2 : 12 + j - 12 = j := by omega
  rw [e2] at h
  exact h
/-- what comes of a packet -/
theorem seg_put (t p s d : Int) (x : List Int) : seg (putL t p s d x) 20 x.length = x := by
  unfold seg putL
  generalize sumOf (hd20 t p s d (20 + (x.length : Int)) 0) = S
  have hl : (hd20 t p s d (20 + (x.length : Int)) S).length = 20 := rfl
  rw [List.drop_left' hl, List.take_length]
def getX (p : Int) (h : Hd) (x : List Int) : PR := if p = 17 then udpR h x else if p = 6 then tcpR h x else if p = 1 then icmpR h x else (6, Pt.z)
theorem getR_put (t p s d : Int) (x : List Int) (h : Hd) (hh : h = ⟨20, 20 + x.length, t, p, s, d⟩) : getR h (putL t p s d x) = getX p h x := by
  have e1 : h.size = 20 := by rw [hh]
  have e2 : h.len = 20 + x.length := by rw [hh]
  have e3 : h.proto = p := by rw [hh]
  have e4 : (20 + (x.length : Int) - 20).toNat = x.length := by omega
  unfold getR
  rw [if_neg (by rw [e1, e2, put_len]; omega), e1, e2, e3, e4, show (20 : Int).toNat = 20 from rfl, seg_put]
  rfl
def Bad (r : PR) : Prop := (r.1 ≠ 0 ∧ r.2 = Pt.z) ∨ (r.1 = 0 ∧ r.2.proto = 17 ∧ r.2.bare = true)
theorem udp_bad {h : Hd} {x : List Int} (hl : 8 ≤ x.length) (hc : csum h.src h.dst 17 x ≠ 0) : Bad (udpR h x) := by
  unfold udpR
  rw [if_neg (by omega)]
  by_cases h4 : n2 x 4 = x.length
  · rw [if_neg (by omega)]
    by_cases h6 : n2 x 6 = 0
    · rw [if_neg (fun e => e.1 h6)]; exact .inr ⟨rfl, rfl, by simpa [portsP] using h6⟩
    · rw [if_pos ⟨h6, hc⟩]; exact .inl ⟨by decide, rfl⟩
  · rw [if_pos h4]; exact .inl ⟨by decide, rfl⟩
theorem tcp_bad {h : Hd} {x : List Int} (hl : 20 ≤ x.length) (hc : csum h.src h.dst 6 x ≠ 0) : (tcpR h x).1 ≠ 0 ∧ (tcpR h x).2 = Pt.z := by
  unfold tcpR
  rw [if_neg (by omega)]
  rw [if_pos hc]
  split <;> exact ⟨by decide, rfl⟩
theorem icmp_bad {h : Hd} {x : List Int} (hl : 8 ≤ x.length) (hc : sumOf x ≠ 0) : icmpR h x = (4, Pt.z) := by
  unfold icmpR
  rw [if_neg (by omega), if_pos hc]
/-- what is laid is got -/
theorem udp_got {h : Hd} {a b S : Int} {l : List Int} (ha : 0 ≤ a ∧ a ≤ 65535) (hb : 0 ≤ b ∧ b ≤ 65535) (hS : 0 ≤ S ∧ S ≤ 65535) (hn : l.length ≤ 65527) (hc : S ≠ 0 → csum h.src h.dst 17 (udpB a b l S) = 0) :
    udpR h (udpB a b l S) = (0, { Pt.z with proto := 17, src := a, dst := b, bare := decide (S = 0) }) := by
  have hl := udpB_len a b l S
  have e0 : n2 (udpB a b l S) 0 = a := by rw [n2_eq _ _ (by omega)]; show a / 256 * 256 + a % 256 = a; omega
  have e2 : n2 (udpB a b l S) 2 = b := by rw [n2_eq _ _ (by omega)]; show b / 256 * 256 + b % 256 = b; omega
  have e4 : n2 (udpB a b l S) 4 = 8 + l.length := by rw [n2_eq _ _ (by omega)]; show (8 + (l.length : Int)) / 256 * 256 + (8 + (l.length : Int)) % 256 = _; omega
  have e6 : n2 (udpB a b l S) 6 = S := by rw [n2_eq _ _ (by omega)]; show S / 256 * 256 + S % 256 = S; omega
  unfold udpR
  rw [if_neg (by omega), e4, if_neg (by rw [hl]; omega), e6, if_neg (fun e => e.2 (hc e.1))]
  unfold portsP
  rw [e0, e2]
theorem tcp_got {h : Hd} {a b f S : Int} {l : List Int} (ha : 0 ≤ a ∧ a ≤ 65535) (hb : 0 ≤ b ∧ b ≤ 65535) (hc : csum h.src h.dst 6 (tcpB a b f l S) = 0) :
    tcpR h (tcpB a b f l S) = (0, { Pt.z with proto := 6, src := a, dst := b, flags := f % 256 }) := by
  have hl := tcpB_len a b f l S
  have e0 : n2 (tcpB a b f l S) 0 = a := by rw [n2_eq _ _ (by omega)]; show a / 256 * 256 + a % 256 = a; omega
  have e2 : n2 (tcpB a b f l S) 2 = b := by rw [n2_eq _ _ (by omega)]; show b / 256 * 256 + b % 256 = b; omega
  have e12 : (tcpB a b f l S).getD 12 0 = 80 := rfl
  have e13 : (tcpB a b f l S).getD 13 0 = f % 256 := rfl
  unfold tcpR
  rw [if_neg (by omega), e12, if_neg (by omega), if_neg (fun e => e hc)]
  unfold portsP
  rw [e0, e2, e13]
theorem echo_got {h : Hd} {k a S : Int} {l : List Int} (ha : 0 ≤ a ∧ a ≤ 65535) (hk : k = 0 ∨ k = 8) (hc : sumOf (echoB k a l S) = 0) :
    icmpR h (echoB k a l S) = (0, { Pt.z with proto := 1, kind := k, code := 0, src := a, dst := a }) := by
  have hl := echoB_len k a l S
  have e4 : n2 (echoB k a l S) 4 = a := by rw [n2_eq _ _ (by omega)]; show a / 256 * 256 + a % 256 = a; omega
  have e0 : (echoB k a l S).getD 0 0 = k := rfl
  have e1 : (echoB k a l S).getD 1 0 = 0 := rfl
  unfold icmpR
  rw [if_neg (by omega), if_neg (fun e => e hc), e0, if_pos hk, e1, if_neg (by decide)]
  unfold portsP
  rw [e4]
theorem fault_to {h : Hd} {k c : Int} {l : List Int} (hk : k = 3 ∨ k = 11) (hb : Bytes8 l) (hl : l.length ≤ 1400) :
    icmpR h (faultL k c l) = faultR { Pt.z with proto := 1, kind := k, code := c % 256 } (h.size + 8) l := by
  have hn := faultL_len k c l
  have hz : sumOf (faultL k c l) = 0 := (fault_cl hb).zero
  have e0 : (faultL k c l).getD 0 0 = k := by show k % 256 = k; omega
  have e1 : (faultL k c l).getD 1 0 = c % 256 := rfl
  have e8 : (faultL k c l).drop 8 = fewL l := rfl
  unfold icmpR
  rw [if_neg (by omega), if_neg (fun e => e hz), e0, if_neg (by omega), if_pos (by omega), e1, e8, few_short hl]
/-- an error, about what -/
theorem about_to {P0 : Pt} {at_ : Int} {t p s d n S : Int} {r : List Int} (hr : 8 ≤ r.length) (hn : 28 ≤ n ∧ n ≤ 65535) (hs : 0 ≤ s ∧ s ≤ 4294967295) (hd : 0 ≤ d ∧ d ≤ 4294967295) :
    faultR P0 at_ (hd20 t p s d n S ++ r) = (if p = 17 ∨ p = 6 then (0, portsP { P0 with err := true, inner := ⟨20, n, t, p, s, d⟩, pat := at_ } r 0 2) else
      if p = 1 ∧ (r.getD 0 0 = 0 ∨ r.getD 0 0 = 8) then (0, portsP { P0 with err := true, inner := ⟨20, n, t, p, s, d⟩, pat := at_ } r 4 4) else (6, Pt.z)) := by
  have hz : partE (hd20 t p s d n S ++ r) = 0 := by
    unfold partE
    rw [hd_shape _ _ _ _ _ _ _ 65535 (by omega) (by omega), if_neg (by decide), hd_whole]
  have hh := hd_hd t p s d n S r hs hd
  have hdr : (hd20 t p s d n S ++ r).drop 20 = r := List.drop_left' rfl
  unfold faultR
  rw [if_neg (fun e => e hz), hh, hd_len]
  dsimp only
  rw [if_neg (by omega), show (20 : Int).toNat = 20 from rfl, hdr]
/- What is sent, plain: it is got; with one bit turned it isn't; another sum; errors about it. -/
def gotP (k : Nat) (a b f : Int) : Pt :=
  if k = 0 then { Pt.z with proto := 17, src := a, dst := b } else if k = 1 then { Pt.z with proto := 6, src := a, dst := b, flags := f % 256 } else
  { Pt.z with proto := 1, kind := if k = 2 then 8 else 0, src := a, dst := a }
theorem wrong_sum {h : Hd} {a b S T : Int} {l : List Int} (hS : 0 ≤ S ∧ S ≤ 65535) (hT : 0 < T ∧ T ≤ 65535) (hne : T ≠ S) (hS0 : S ≠ 0) (hn : l.length ≤ 65527) (hb : Bytes8 (ph h.src h.dst 17 (8 + l.length) ++ udpB a b l T))
    (hc : Cl (ph h.src h.dst 17 (udpB a b l S).length ++ udpB a b l S)) : (udpR h (udpB a b l T)).1 ≠ 0 := by
  have hl := udpB_len a b l T
  have e6 : n2 (udpB a b l T) 6 = T := by rw [n2_eq _ _ (by omega)]; show T / 256 * 256 + T % 256 = T; omega
  have hcs : csum h.src h.dst 17 (udpB a b l T) ≠ 0 := by
    obtain ⟨q, hq, h1⟩ := hc
    unfold csum
    refine sumOf_not _ q (T - S) ?_ ?_ (by omega)
    · rw [hl]; exact (sb_bd _ hb true).1
    · rw [← h1, sb_app _ _ (by rw [ph_len]), sb_app _ _ (by rw [ph_len]), udpB_len, udpB_len, udpB_sb, udpB_sb a b l S]; omega
  unfold udpR
  split
  · decide
  split
  · decide
  rw [if_pos ⟨by rw [e6]; omega, hcs⟩]; decide
theorem bad_of {r : PR} (h : r = (4, Pt.z)) : Bad r := by rw [h]; exact .inl ⟨by decide, rfl⟩
section
variable {s d a b f : Int} {l : List Int} {h : Hd} (hs : 0 ≤ s ∧ s ≤ 4294967295) (hd : 0 ≤ d ∧ d ≤ 4294967295) (ha : 0 ≤ a ∧ a ≤ 65535) (hb : 0 ≤ b ∧ b ≤ 65535) (hl : Bytes8 l) (h1 : h.src = s) (h2 : h.dst = d)
include hs hd ha hb hl h1 h2
theorem udpL_got : udpR h (udpL s d a b l) = (0, gotP 0 a b f) := by
  have hf := few_len l
  have hn := nev_bd (udp_sum hs hd ha hb hl)
  have hc := udp_cl hs hd ha hb hl _ rfl
  unfold udpL
  rw [udp_got ha hb ⟨hn.1, hn.2.1⟩ (by omega) (fun _ => by rw [h1, h2]; exact hc.zero)]
  rw [decide_eq_false hn.2.2]
  rfl
theorem tcpL_got : tcpR h (tcpL s d a b f l) = (0, gotP 1 a b f) := by
  have hc := tcp_cl hs hd ha hb hl f _ rfl
  unfold tcpL
  rw [tcp_got ha hb (by rw [h1, h2]; exact hc.zero)]
  rfl
omit hs hd hb h1 h2 in
theorem echoL_got (r : Bool) : icmpR h (echoL r a l) = (0, gotP (if r then 3 else 2) a b f) := by
  have hk : 0 ≤ (if r then (0 : Int) else 8) ∧ (if r then (0 : Int) else 8) ≤ 255 := by cases r <;> decide
  have hc := echo_cl hl hk ha
  unfold echoL
  rw [echo_got ha (by cases r <;> simp) hc.zero]
  cases r <;> rfl
theorem car_got (k : Nat) (hk : k < 4) : getX (carP k) h (carL k s d a b f l) = (0, gotP k a b f) := by
  have hk' : k = 0 ∨ k = 1 ∨ k = 2 ∨ k = 3 := by omega
  rcases hk' with rfl | rfl | rfl | rfl
  · exact udpL_got hs hd ha hb hl h1 h2
  · exact tcpL_got hs hd ha hb hl h1 h2
  · exact echoL_got (b := b) (f := f) (h := h) ha hl false
  · exact echoL_got (b := b) (f := f) (h := h) ha hl true
omit h1 h2 in
theorem car_bd (k : Nat) (hk : k < 4) : Bytes8 (carL k s d a b f l) := by
  have hk' : k = 0 ∨ k = 1 ∨ k = 2 ∨ k = 3 := by omega
  rcases hk' with rfl | rfl | rfl | rfl
  · exact udpL_bd hs hd ha hb hl
  · exact tcpL_bd hs hd ha hb hl f
  · exact echoL_bd hl false ha
  · exact echoL_bd hl true ha
theorem car_bit (k : Nat) (hk : k < 4) (j m : Nat) (hj : j < (carL k s d a b f l).length) (hm : m < 8) : Bad (getX (carP k) h ((carL k s d a b f l).set j (flip ((carL k s d a b f l).getD j 0).toNat m : Nat))) := by
  have hx := car_bd (f := f) hs hd ha hb hl k hk
  have hf := few_len l
  have hk' : k = 0 ∨ k = 1 ∨ k = 2 ∨ k = 3 := by omega
  rcases hk' with rfl | rfl | rfl | rfl
  · have hc : Cl (ph s d 17 (udpL s d a b l).length ++ udpL s d a b l) := udp_cl hs hd ha hb hl _ rfl
    have := csum_turn hc (ph_bd hs hd (by omega) (by rw [udpL_len]; omega)) (udpL_bd hs hd ha hb hl) j m hj hm
    exact udp_bad (by rw [List.length_set]; show 8 ≤ (udpL s d a b l).length; rw [udpL_len]; omega) (by rw [h1, h2]; exact this)
  · have hc : Cl (ph s d 6 (tcpL s d a b f l).length ++ tcpL s d a b f l) := tcp_cl hs hd ha hb hl f _ rfl
    have := csum_turn hc (ph_bd hs hd (by omega) (by rw [tcpL_len]; omega)) (tcpL_bd hs hd ha hb hl f) j m hj hm
    exact .inl (tcp_bad (by rw [List.length_set]; show 20 ≤ (tcpL s d a b f l).length; rw [tcpL_len]; omega) (by rw [h1, h2]; exact this))
  · have hc : Cl (echoL false a l) := echo_cl hl (by decide) ha
    have := hc.turn hx j m hj hm
    have h3 := icmp_bad (h := h) (by rw [List.length_set]; show 8 ≤ (echoL false a l).length; rw [echoL_len]; omega) this
    exact bad_of h3
  · have hc : Cl (echoL true a l) := echo_cl hl (by decide) ha
    have := hc.turn hx j m hj hm
    have h3 := icmp_bad (h := h) (by rw [List.length_set]; show 8 ≤ (echoL true a l).length; rw [echoL_len]; omega) this
    exact bad_of h3
omit hs hd ha hb hl h1 h2 in
/-- the ports stand where an error's reader looks for them -/
theorem car_ports (k : Nat) (hk : k < 4) : (k < 2 → n2 (carL k s d a b f l) 0 = a ∧ n2 (carL k s d a b f l) 2 = b) ∧ (2 ≤ k → n2 (carL k s d a b f l) 4 = a ∧ ((carL k s d a b f l).getD 0 0 = 0 ∨ (carL k s d a b f l).getD 0 0 = 8)) := by
  have hk' : k = 0 ∨ k = 1 ∨ k = 2 ∨ k = 3 := by omega
  rcases hk' with rfl | rfl | rfl | rfl
  · refine ⟨fun _ => ⟨?_, ?_⟩, fun h => absurd h (by omega)⟩
    · rw [n2_eq _ _ (by show 0 + 2 ≤ (udpL s d a b l).length; rw [udpL_len]; omega)]; show a / 256 * 256 + a % 256 = a; omega
    · rw [n2_eq _ _ (by show 2 + 2 ≤ (udpL s d a b l).length; rw [udpL_len]; omega)]; show b / 256 * 256 + b % 256 = b; omega
  · refine ⟨fun _ => ⟨?_, ?_⟩, fun h => absurd h (by omega)⟩
    · rw [n2_eq _ _ (by show 0 + 2 ≤ (tcpL s d a b f l).length; rw [tcpL_len]; omega)]; show a / 256 * 256 + a % 256 = a; omega
    · rw [n2_eq _ _ (by show 2 + 2 ≤ (tcpL s d a b f l).length; rw [tcpL_len]; omega)]; show b / 256 * 256 + b % 256 = b; omega
  · refine ⟨fun h => absurd h (by omega), fun _ => ⟨?_, ?_⟩⟩
    · rw [n2_eq _ _ (by show 4 + 2 ≤ (echoL false a l).length; rw [echoL_len]; omega)]; show a / 256 * 256 + a % 256 = a; omega
    · exact .inr rfl
  · refine ⟨fun h => absurd h (by omega), fun _ => ⟨?_, ?_⟩⟩
    · rw [n2_eq _ _ (by show 4 + 2 ≤ (echoL true a l).length; rw [echoL_len]; omega)]; show a / 256 * 256 + a % 256 = a; omega
    · exact .inl rfl
theorem car_ok (k : Nat) (hn : l.length ≤ 40) : (getX (carP k) h (carL k s d a b f l)).1 = 0 := by
  have hf : fewL l = l := few_short (by omega)
  by_cases hk : k < 4
  · rw [car_got hs hd ha hb hl h1 h2 k hk]
  by_cases h4 : k = 4
  · subst h4
    have hX := put_bd (t := 9) (p := 17) (by omega) (by omega) hd hs (udpL_bd hd hs hb ha hl) (by rw [udpL_len, hf]; omega)
    show (icmpR h (faultL 3 (f.tmod 16) (putL 9 17 d s (udpL d s b a l)))).1 = 0
    rw [fault_to (.inl rfl) hX (by rw [put_len, udpL_len, hf]; omega), put_eq, about_to (by rw [udpL_len]; omega) (by rw [udpL_len, hf]; omega) hd hs, if_pos (.inl rfl)]
  by_cases h5 : k = 5
  · subst h5
    have hX := put_bd (t := 9) (p := 6) (by omega) (by omega) hd hs (tcpL_bd hd hs hb ha hl 2) (by rw [tcpL_len, hf]; omega)
    show (icmpR h (faultL 11 0 ((putL 9 6 d s (tcpL d s b a 2 l)).take (28 + l.length / 2)))).1 = 0
    rw [fault_to (.inr rfl) (hX.take _) (by rw [List.length_take]; omega), put_eq, show 28 + l.length / 2 = 20 + (8 + l.length / 2) by omega, hd_take, about_to (by rw [List.length_take, tcpL_len]; omega) (by rw [tcpL_len, hf]; omega) hd hs, if_pos (.inr rfl)]
  · have hX := put_bd (t := 9) (p := 1) (by omega) (by omega) hd hs (echoL_bd hl false hb) (by rw [echoL_len, hf]; omega)
    have e1 : carP k = 1 := by unfold carP; rw [if_neg (by omega), if_neg (by omega)]
    have e2 : carL k s d a b f l = faultL 3 1 (putL 9 1 d s (echoL false b l)) := by unfold carL; rw [if_neg (by omega), if_neg (by omega), if_neg (by omega), if_neg (by omega), if_neg h4, if_neg h5]
    rw [e1, e2]
    show (icmpR h (faultL 3 1 (putL 9 1 d s (echoL false b l)))).1 = 0
    rw [fault_to (.inl rfl) hX (by rw [put_len, echoL_len, hf]; omega), put_eq, about_to (by rw [echoL_len]; omega) (by rw [echoL_len, hf]; omega) hd hs, if_neg (by omega), if_pos ⟨rfl, .inr rfl⟩]
end
/-- errors about what is sent -/
theorem car_deep {s d a b f : Int} {l : List Int} {h : Hd} (hs : 0 ≤ s ∧ s ≤ 4294967295) (hd : 0 ≤ d ∧ d ≤ 4294967295) (k : Nat) (hk : 4 ≤ k) (hn : l.length ≤ 40) (hX : Bytes8 (frameL k s d a b f l)) : icmpR h (faultL 3 1 (frameL k s d a b f l)) = (6, Pt.z) := by
  have hc := carL_len k s d a b f l hn
  have e1 : carP k = 1 := by unfold carP; rw [if_neg (by omega), if_neg (by omega)]
  have e2 : (carL k s d a b f l).getD 0 0 = 3 ∨ (carL k s d a b f l).getD 0 0 = 11 := by
    unfold carL
    rw [if_neg (by omega), if_neg (by omega), if_neg (by omega), if_neg (by omega)]
    split
    · exact .inl rfl
    split
    · exact .inr rfl
    · exact .inl rfl
  rw [fault_to (.inl rfl) hX (by unfold frameL; rw [put_len]; omega)]
  unfold frameL
  rw [put_eq, about_to (by omega) (by omega) hs hd, e1, if_neg (by omega), if_neg (by omega)]
theorem car_nest {s d a b f : Int} {l : List Int} {h : Hd} (hs : 0 ≤ s ∧ s ≤ 4294967295) (hd : 0 ≤ d ∧ d ≤ 4294967295) (ha : 0 ≤ a ∧ a ≤ 65535) (hb : 0 ≤ b ∧ b ≤ 65535) (hl : Bytes8 l) (hz : h.size = 20) (k : Nat) (hk : k < 4) (hn : l.length ≤ 40) :
    ∃ p : Pt, icmpR h (faultL 3 1 (frameL k s d a b f l)) = (0, p) ∧ p.err = true ∧ p.pat = 28 ∧ p.src = (gotP k a b f).src ∧ p.dst = (gotP k a b f).dst ∧ p.inner = ⟨20, 20 + (carL k s d a b f l).length, 64, carP k, s, d⟩ := by
  have hc := carL_len k s d a b f l hn
  have hP := carP_bd k
  have hx := car_bd (f := f) hs hd ha hb hl k hk
  have hX : Bytes8 (frameL k s d a b f l) := put_bd (by omega) hP hs hd hx (by omega)
  have hp := car_ports (s := s) (d := d) (a := a) (b := b) (f := f) (l := l) k hk
  rw [fault_to (.inl rfl) hX (by unfold frameL; rw [put_len]; omega)]
  unfold frameL
  rw [put_eq, about_to (by omega) (by omega) hs hd, hz]
  by_cases h2 : k < 2
  · have hc2 : carP k = 17 ∨ carP k = 6 := by
      have : k = 0 ∨ k = 1 := by omega
      rcases this with rfl | rfl
      · exact .inl rfl
      · exact .inr rfl
    rw [if_pos hc2]
    refine ⟨_, rfl, rfl, rfl, ?_, ?_, rfl⟩
    · show n2 (carL k s d a b f l) 0 = _
      rw [(hp.1 h2).1]; unfold gotP; split
      · rfl
      · rw [if_pos (by omega)]
    · show n2 (carL k s d a b f l) 2 = _
      rw [(hp.1 h2).2]; unfold gotP; split
      · rfl
      · rw [if_pos (by omega)]
  · have hc2 : carP k = 1 := by unfold carP; rw [if_neg (by omega), if_neg (by omega)]
    rw [if_neg (by omega), if_pos ⟨hc2, (hp.2 (by omega)).2⟩]
    refine ⟨_, rfl, rfl, rfl, ?_, ?_, rfl⟩
    · show n2 (carL k s d a b f l) 4 = _
      rw [(hp.2 (by omega)).1]; unfold gotP; rw [if_neg (by omega), if_neg (by omega)]
    · show n2 (carL k s d a b f l) 4 = _
      rw [(hp.2 (by omega)).1]; unfold gotP; rw [if_neg (by omega), if_neg (by omega)]
/- Frames, plain. -/
theorem modk (k : Nat) (h : k < 7) : (IntKind.u64.wrap (k : Int)).tmod 7 = (k : Int) := by
  have : k = 0 ∨ k = 1 ∨ k = 2 ∨ k = 3 ∨ k = 4 ∨ k = 5 ∨ k = 6 := by omega
  rcases this with rfl | rfl | rfl | rfl | rfl | rfl | rfl <;> rfl
section
variable {k : Nat} {s d a b f : Int} {l : List Int} (hs : 0 ≤ s ∧ s ≤ 4294967295) (hd : 0 ≤ d ∧ d ≤ 4294967295) (ha : 0 ≤ a ∧ a ≤ 65535) (hb : 0 ≤ b ∧ b ≤ 65535) (hl : Bytes8 l) (hn : l.length ≤ 40)
theorem frame_len : (frameL k s d a b f l).length = 20 + (carL k s d a b f l).length := put_len
include hn in
theorem frame_bd : 28 ≤ (frameL k s d a b f l).length ∧ (frameL k s d a b f l).length ≤ 130 := by
  have := carL_len k s d a b f l hn
  rw [frame_len]; omega
include hs hd hn in
theorem frame_get : getE (frameL k s d a b f l) = 0 ∧ hdIf (frameL k s d a b f l) 0 = ⟨20, (frameL k s d a b f l).length, 64, carP k, s, d⟩ := by
  have hc := carL_len k s d a b f l hn
  have := frame_head (P := carP k) (s := s) (d := d) (l := carL k s d a b f l) (carP_bd k) hs hd (by omega)
  unfold frameL
  rw [put_len]
  push_cast
  exact this
theorem getR_frame (h : Hd) (hh : h = ⟨20, (frameL k s d a b f l).length, 64, carP k, s, d⟩) : getR h (frameL k s d a b f l) = getX (carP k) h (carL k s d a b f l) :=
  getR_put 64 (carP k) s d _ h (by rw [hh, frame_len]; push_cast; rfl)
include hs hd ha hb hl hn
theorem frame_ok : (getR ⟨20, (frameL k s d a b f l).length, 64, carP k, s, d⟩ (frameL k s d a b f l)).1 = 0 := by
  rw [getR_frame _ rfl]
  exact car_ok hs hd ha hb hl rfl rfl k hn
omit hn in
theorem frame_got (hk : k < 4) : getR ⟨20, (frameL k s d a b f l).length, 64, carP k, s, d⟩ (frameL k s d a b f l) = (0, gotP k a b f) := by
  rw [getR_frame _ rfl]
  exact car_got hs hd ha hb hl rfl rfl k hk
omit hn in
theorem frame_bit (hk : k < 4) (j m : Nat) (hj1 : 20 ≤ j) (hj : j < (frameL k s d a b f l).length) (hm : m < 8) :
    Bad (getR ⟨20, (frameL k s d a b f l).length, 64, carP k, s, d⟩ ((frameL k s d a b f l).set j (flip ((frameL k s d a b f l).getD j 0).toNat m : Nat))) := by
  rw [frame_len] at hj
  obtain ⟨i, rfl⟩ : ∃ i, j = 20 + i := ⟨j - 20, by omega⟩
  have hg : (frameL k s d a b f l).getD (20 + i) 0 = (carL k s d a b f l).getD i 0 := by
    unfold frameL putL
    rw [List.getD_eq_getElem?_getD, List.getElem?_append_right (by show 20 ≤ 20 + i; omega), List.getD_eq_getElem?_getD]
    congr 2
    show 20 + i - 20 = i
    omega
  rw [hg, frame_len]
  unfold frameL
  rw [putL_set]
  rw [getR_put 64 (carP k) s d _ ⟨20, ((20 + (carL k s d a b f l).length : Nat) : Int), 64, carP k, s, d⟩ (by rw [List.length_set]; push_cast; rfl)]
  exact car_bit hs hd ha hb hl rfl rfl k hk i m (by omega) hm
end
section
variable {s d a b f : Int} {l : List Int} (hs : 0 ≤ s ∧ s ≤ 4294967295) (hd : 0 ≤ d ∧ d ≤ 4294967295) (ha : 0 ≤ a ∧ a ≤ 65535) (hb : 0 ≤ b ∧ b ≤ 65535) (hl : Bytes8 l) (hn : l.length ≤ 40)
include hs hd ha hb hl hn
/-- a datagram's frame, its sum another one -/
theorem frame_sum : ∃ S : Int, 0 < S ∧ S ≤ 65535 ∧ (frameL 0 s d a b f l).getD 26 0 = S / 256 ∧ (frameL 0 s d a b f l).getD 27 0 = S % 256 ∧
    ∀ T, 0 ≤ T ∧ T ≤ 65535 →
      (T = 0 ∨ T = S → getR ⟨20, (frameL 0 s d a b f l).length, 64, 17, s, d⟩ (((frameL 0 s d a b f l).set 26 (T / 256)).set 27 (T % 256)) = (0, { Pt.z with proto := 17, src := a, dst := b, bare := decide (T = 0) })) ∧
      (T ≠ 0 → T ≠ S → (getR ⟨20, (frameL 0 s d a b f l).length, 64, 17, s, d⟩ (((frameL 0 s d a b f l).set 26 (T / 256)).set 27 (T % 256))).1 ≠ 0) := by
  have hf : fewL l = l := few_short (by omega)
  have hS := nev_bd (udp_sum hs hd ha hb hl)
  have hc := udp_cl hs hd ha hb hl _ rfl
  have e : frameL 0 s d a b f l = putL 64 17 s d (udpB a b (fewL l) (nev (csum s d 17 (udpB a b (fewL l) 0)))) := rfl
  have hln : (frameL 0 s d a b f l).length = 28 + l.length := by rw [e, put_len, udpB_len, hf]; omega
  rw [hln, e]
  generalize nev (csum s d 17 (udpB a b (fewL l) 0)) = S at *
  refine ⟨S, by omega, hS.2.1, rfl, rfl, ?_⟩
  intro T hT
  have e2 : ((putL 64 17 s d (udpB a b (fewL l) S)).set 26 (T / 256)).set 27 (T % 256) = putL 64 17 s d (udpB a b (fewL l) T) := by
    have h1 := putL_set 64 17 s d (udpB a b (fewL l) S) 6 (T / 256)
    have h2 := putL_set 64 17 s d ((udpB a b (fewL l) S).set 6 (T / 256)) 7 (T % 256)
    rw [show 20 + 6 = 26 from rfl] at h1
    rw [show 20 + 7 = 27 from rfl] at h2
    rw [h1, h2]; rfl
  have e3 : getR ⟨20, ((28 + l.length : Nat) : Int), 64, 17, s, d⟩ (putL 64 17 s d (udpB a b (fewL l) T)) = udpR ⟨20, ((28 + l.length : Nat) : Int), 64, 17, s, d⟩ (udpB a b (fewL l) T) :=
    getR_put 64 17 s d _ _ (by rw [udpB_len, hf]; congr 1; push_cast; omega)
  rw [e2, e3]
  refine ⟨fun h => ?_, fun h0 h1 => ?_⟩
  · refine udp_got ha hb hT (by rw [hf]; omega) (fun hne => ?_)
    rcases h with rfl | rfl
    · exact absurd rfl hne
    · exact hc.zero
  · refine wrong_sum ⟨by omega, hS.2.1⟩ ⟨by omega, hT.2⟩ h1 hS.2.2 (by rw [hf]; omega) ?_ hc
    exact Bytes8.app (ph_bd hs hd (by omega) (by rw [hf]; omega)) (udpB_bd ha hb (few_bd hl) (by rw [hf]; omega) hT)
end
/- Which bytes may be other ones: the document's Free. -/
def putF (F : Int → Int) (a n v : Int) : Int → Int := fun k => if a ≤ k ∧ k < a + n then v else F k
theorem putF_zero (F : Int → Int) (a v : Int) : putF F a 0 v = F := by
  funext k; unfold putF; rw [if_neg (by omega)]
theorem putF_step (F : Int → Int) (a v : Int) (k : Nat) : (fun j => if j = a + k then v else putF F a k v j) = putF F a ((k + 1 : Nat) : Int) v := by
  funext j
  unfold putF
  by_cases h1 : j = a + k
  · rw [if_pos h1, if_pos (by omega)]
  · rw [if_neg h1]
    by_cases h2 : a ≤ j ∧ j < a + k
    · rw [if_pos h2, if_pos (by omega)]
    · rw [if_neg h2, if_neg (by omega)]
def PutR (w : World) (b n : Nat) (F : Int → Int) (e : Ending) (w' : World) : Prop := e = .returned (.tuple #[]) ∧ MapI w' b n F ∧ Upd (fun k => k = b) w w'
set_option maxRecDepth 100000 in
theorem rput_any (b m n : Nat) (F : Int → Int) (a v : Int) (w : World) (hm : MapI w b m F) (hmb : m ≤ 10000) (hn : n ≤ 10) (ha : 0 ≤ a ∧ a ≤ 100000) (hv : 0 ≤ v ∧ v ≤ 10) :
    Calls Try.prog 60 #[.map (some b), .int .i64 a, .int .i64 n, .int .i64 v] w (PutR w b (m + n) (putF F a n v)) := by
  go_enter Try.func60, Try.ntmps60
  go_wp2
  go_loopw [8] (fun i wr => ∃ k : Nat, k ≤ n ∧ i = .int .i64 k ∧ MapI wr b (m + k) (putF F a k v) ∧ Upd (fun k => k = b) w wr) (fun i _ => n - (intOf i).toNat)
  case atStart => exact ⟨0, by omega, rfl, by rw [show ((0 : Nat) : Int) = 0 from rfl, putF_zero]; exact hm, Upd.refl _ _⟩
  case round =>
    obtain ⟨k, hk, rfl, hmk, huk⟩ := hrel
    rcases Nat.lt_or_ge k n with hkn | hkn
    · have d1 : decide ((k : Int) < (n : Int)) = true := by simpa using hkn
      have d2 : decide (k < n) = true := by simpa using hkn
      go_wp2_with (at_mapUpdate; refine wpList_mapPut _ rfl _ _ _ (.inl rfl) b (m + k) _ rfl hmk (by omega) (a + k) v rfl rfl (i64_inr (by omega)) (i64_inr (by omega)) ?_; intro w1 hm1 hu1; rw [putF_step] at hm1)
      go_roundw
      case rel => exact ⟨k + 1, by omega, by go_num, hm1, huk.trans (hu1.mono (fun _ _ h => h))⟩
      case measure => simp [intOf]; omega
    · obtain rfl : k = n := by omega
      have d1 : decide ((k : Int) < (k : Int)) = false := by simp
      have d2 : decide (k < k) = false := by simp
      go_wp2
      go_end0
      exact ⟨rfl, hmk, huk⟩
def freeF (h : Hd) (p : Pt) (out : Bool) : Int → Int :=
  let f := putF (fun k => if k = 11 then 3 else if k = 10 then 3 else 0) (if out then 12 else 16) 4 1
  if h.proto = 17 then (if p.bare = true then putF f (h.size + (if out then 0 else 2)) 2 2 else putF (putF f (h.size + (if out then 0 else 2)) 2 2) (h.size + 6) 2 3) else
  if h.proto = 6 then putF (putF f (h.size + (if out then 0 else 2)) 2 2) (h.size + 16) 2 3 else
  if p.err = false then putF (putF f (h.size + 4) 2 2) (h.size + 2) 2 3 else
  if p.inner.proto = 17 then putF (putF (putF (putF (putF f (h.size + 2) 2 3) (p.pat + (if out then 16 else 12)) 4 1) (p.pat + 10) 2 3) (p.pat + p.inner.size + (if out then 2 else 0)) 2 2) (p.pat + p.inner.size + 6) 2 3 else
  if p.inner.proto = 6 then putF (putF (putF (putF (putF f (h.size + 2) 2 3) (p.pat + (if out then 16 else 12)) 4 1) (p.pat + 10) 2 3) (p.pat + p.inner.size + (if out then 2 else 0)) 2 2) (p.pat + p.inner.size + 16) 2 3 else
  if p.inner.proto = 1 then putF (putF (putF (putF (putF f (h.size + 2) 2 3) (p.pat + (if out then 16 else 12)) 4 1) (p.pat + 10) 2 3) (p.pat + p.inner.size + 4) 2 2) (p.pat + p.inner.size + 2) 2 3 else
  putF (putF (putF f (h.size + 2) 2 3) (p.pat + (if out then 16 else 12)) 4 1) (p.pat + 10) 2 3
/-- the map under way, beside the two boxes -/
structure FrS (W0 W : World) (b n : Nat) (F : Int → Int) (hv pv : Array Value) : Prop where
  bh : Blk W W0.heap.size 47 hv
  bp : Blk W (W0.heap.size + 1) 73 pv
  mp : MapI W b n F
  bel : Below W0.heap.size W0 W
  hb : W0.heap.size + 1 < b
theorem FrS.step {W0 W w' : World} {b n m : Nat} {F G : Int → Int} {hv pv : Array Value} (h : FrS W0 W b n F hv pv) (h2 : MapI w' b m G) (h3 : Upd (fun k => k = b) W w') : FrS W0 w' b m G hv pv :=
  ⟨h.bh.upd h3 (by have := h.hb; omega), h.bp.upd h3 (by have := h.hb; omega), h2, h.bel.trans (h3.below (B := W0.heap.size) h.bel.size (fun k hk e => by have := h.hb; omega)), h.hb⟩
theorem FrS.bel_ {W0 W w' : World} {b n : Nat} {F : Int → Int} {hv pv : Array Value} (h : FrS W0 W b n F hv pv) (h3 : Below W.heap.size W w') : FrS W0 w' b n F hv pv :=
  ⟨h.bh.bel h3, h.bp.bel h3, h.mp.bel h3, bel_after h.bel h3, h.hb⟩
def FreeR (w : World) (F : Int → Int) (e : Ending) (w' : World) : Prop := ∃ b n, e = .returned (.map (some b)) ∧ MapI w' b n F ∧ Below w.heap.size w w' ∧ w.heap.size ≤ b
theorem FrS.end_ {W0 W : World} {b n : Nat} {F G : Int → Int} {hv pv : Array Value} (h : FrS W0 W b n F hv pv) (hF : F = G) : FreeR W0 G (.returned (.map (some b))) W :=
  ⟨b, n, rfl, hF ▸ h.mp, h.bel, by have := h.hb; omega⟩
theorem FrS.put {W0 W : World} {b n : Nat} {F : Int → Int} {hv pv : Array Value} (h : FrS W0 W b n F hv pv) (hmb : n ≤ 10000) {k : Nat} (hn : k ≤ 10) {a v : Int} (ha : 0 ≤ a ∧ a ≤ 100000) (hv' : 0 ≤ v ∧ v ≤ 10) :
    Calls Try.prog 60 #[.map (some b), .int .i64 a, .int .i64 k, .int .i64 v] W (fun e w' => e = .returned (.tuple #[]) ∧ FrS W0 w' b (n + k) (putF F a k v) hv pv) :=
  (rput_any b n k F a v W h.mp hmb hn ha hv').mono fun e w' ⟨h1, h2, h3⟩ => ⟨h1, h.step h2 h3⟩
set_option maxRecDepth 100000 in
set_option maxHeartbeats 4000000 in
theorem Free_out (h0 h1 h2 h3 h4 h5 pr sr ds fl ki co i0 i1 i2 i3 i4 i5 pa : Int) (er ba : Bool) (w : World) (F : Int → Int) (hs : 20 ≤ h0 ∧ h0 ≤ 60) (hi : 0 ≤ i0 ∧ i0 ≤ 60) (hp : 0 ≤ pa ∧ pa ≤ 1500)
    (hF : Hid (freeF ⟨h0, h1, h2, h3, h4, h5⟩ ⟨pr, sr, ds, fl, ki, co, er, ⟨i0, i1, i2, i3, i4, i5⟩, pa, ba⟩ true = F)) :
    Calls Try.prog 40 #[.agg #[.int .i64 h0, .int .i64 h1, .int .i64 h2, .int .i64 h3, .int .u32 h4, .int .u32 h5], .agg #[.int .i64 pr, .int .u16 sr, .int .u16 ds, .int .i64 fl, .int .i64 ki, .int .i64 co, .bool er, .int .i64 i0, .int .i64 i1, .int .i64 i2, .int .i64 i3, .int .u32 i4, .int .u32 i5, .int .i64 pa, .bool ba], .bool true] w (FreeR w F) := by
  by_cases c17 : h3 = 17
  · subst c17
    cases ba
    · go_enter Try.func40, Try.ntmps40
      go_upto_region 1 with fail
      have b1 := ((Blk.new w 47 #[.int .i64 h0, .int .i64 h1, .int .i64 h2, .int .i64 17, .int .u32 h4, .int .u32 h5]).alloc (.cells #[.int .i64 pr, .int .u16 sr, .int .u16 ds, .int .i64 fl, .int .i64 ki, .int .i64 co, .bool er, .int .i64 i0, .int .i64 i1, .int .i64 i2, .int .i64 i3, .int .u32 i4, .int .u32 i5, .int .i64 pa, .bool false] 73)).alloc (.map #[] 0)
      have b2 := (Blk.new (w.alloc (.cells #[.int .i64 h0, .int .i64 h1, .int .i64 h2, .int .i64 17, .int .u32 h4, .int .u32 h5] 47)) 73 #[.int .i64 pr, .int .u16 sr, .int .u16 ds, .int .i64 fl, .int .i64 ki, .int .i64 co, .bool er, .int .i64 i0, .int .i64 i1, .int .i64 i2, .int .i64 i3, .int .u32 i4, .int .u32 i5, .int .i64 pa, .bool false]).alloc (.map #[] 0)
      have bm := MapI.made ((w.alloc (.cells #[.int .i64 h0, .int .i64 h1, .int .i64 h2, .int .i64 17, .int .u32 h4, .int .u32 h5] 47)).alloc (.cells #[.int .i64 pr, .int .u16 sr, .int .u16 ds, .int .i64 fl, .int .i64 ki, .int .i64 co, .bool er, .int .i64 i0, .int .i64 i1, .int .i64 i2, .int .i64 i3, .int .u32 i4, .int .u32 i5, .int .i64 pa, .bool false] 73))
      have bl : Below w.heap.size w (((w.alloc (.cells #[.int .i64 h0, .int .i64 h1, .int .i64 h2, .int .i64 17, .int .u32 h4, .int .u32 h5] 47)).alloc (.cells #[.int .i64 pr, .int .u16 sr, .int .u16 ds, .int .i64 fl, .int .i64 ki, .int .i64 co, .bool er, .int .i64 i0, .int .i64 i1, .int .i64 i2, .int .i64 i3, .int .u32 i4, .int .u32 i5, .int .i64 pa, .bool false] 73)).alloc (.map #[] 0)) := ((bel_alloc _ _).alloc (by simp) _).alloc (by simp; omega) _
      rw [show (w.alloc (.cells #[.int .i64 h0, .int .i64 h1, .int .i64 h2, .int .i64 17, .int .u32 h4, .int .u32 h5] 47)).heap.size = w.heap.size + 1 by simp] at b2
      rw [show ((w.alloc (.cells #[.int .i64 h0, .int .i64 h1, .int .i64 h2, .int .i64 17, .int .u32 h4, .int .u32 h5] 47)).alloc (.cells #[.int .i64 pr, .int .u16 sr, .int .u16 ds, .int .i64 fl, .int .i64 ki, .int .i64 co, .bool er, .int .i64 i0, .int .i64 i1, .int .i64 i2, .int .i64 i3, .int .u32 i4, .int .u32 i5, .int .i64 pa, .bool false] 73)).heap.size = w.heap.size + 2 by simp] at bm
      have hf : FrS w _ (w.heap.size + 2) 0 _ #[.int .i64 h0, .int .i64 h1, .int .i64 h2, .int .i64 17, .int .u32 h4, .int .u32 h5] #[.int .i64 pr, .int .u16 sr, .int .u16 ds, .int .i64 fl, .int .i64 ki, .int .i64 co, .bool er, .int .i64 i0, .int .i64 i1, .int .i64 i2, .int .i64 i3, .int .u32 i4, .int .u32 i5, .int .i64 pa, .bool false] := ⟨b1, b2, bm, bl, by omega⟩
      clear b1 b2 bm bl
      have hmm := @run_makeMap Try.prog
      go_upto_if 15 with (refine wpList_mapPut _ rfl _ _ _ (.inr rfl) _ _ _ rfl hf.mp (by omega) _ _ rfl rfl (i64_inr (by omega)) (i64_inr (by omega)) ?_; intro w1 hm1 hu1; have hg := hf.step hm1 hu1; clear hf hm1 hu1; have hf := hg; clear hg)
      clear hmm
      have q0 := hf.bh.cell 0
      have q3 := hf.bh.cell 3
      have p6 := hf.bp.cell 6
      have p7 := hf.bp.cell 7
      have p10 := hf.bp.cell 10
      have p13 := hf.bp.cell 13
      have p14 := hf.bp.cell 14
      go_wp2_with fail
      refine (hf.put (k := 4) (by omega) (by omega) (by omega) (by omega)).mono ?_
      clear q0 q3 p6 p7 p10 p13 p14
      rintro e wx ⟨rfl, hg⟩
      clear hf
      have hf := hg
      clear hg
      have q0 := hf.bh.cell 0
      have q3 := hf.bh.cell 3
      have p6 := hf.bp.cell 6
      have p7 := hf.bp.cell 7
      have p10 := hf.bp.cell 10
      have p13 := hf.bp.cell 13
      have p14 := hf.bp.cell 14
      go_wp2_with fail
      refine (hf.put (k := 2) (by omega) (by omega) (by omega) (by omega)).mono ?_
      clear q0 q3 p6 p7 p10 p13 p14
      rintro e wx ⟨rfl, hg⟩
      clear hf
      have hf := hg
      clear hg
      have q0 := hf.bh.cell 0
      have q3 := hf.bh.cell 3
      have p6 := hf.bp.cell 6
      have p7 := hf.bp.cell 7
      have p10 := hf.bp.cell 10
      have p13 := hf.bp.cell 13
      have p14 := hf.bp.cell 14
      go_wp2_with fail
      refine (hf.put (k := 2) (by omega) (by omega) (by omega) (by omega)).mono ?_
      clear q0 q3 p6 p7 p10 p13 p14
      rintro e wx ⟨rfl, hg⟩
      clear hf
      have hf := hg
      clear hg
      have q0 := hf.bh.cell 0
      have q3 := hf.bh.cell 3
      have p6 := hf.bp.cell 6
      have p7 := hf.bp.cell 7
      have p10 := hf.bp.cell 10
      have p13 := hf.bp.cell 13
      have p14 := hf.bp.cell 14
      go_wp2_with fail
      go_ret
      refine hf.end_ ?_
      have e := hF.out
      clear hF q0 q3 p6 p7 p10 p13 p14 hf
      rw [← e]
      simp [freeF, show (17:Int) = 17 from rfl]
    · go_enter Try.func40, Try.ntmps40
      go_upto_region 1 with fail
      have b1 := ((Blk.new w 47 #[.int .i64 h0, .int .i64 h1, .int .i64 h2, .int .i64 17, .int .u32 h4, .int .u32 h5]).alloc (.cells #[.int .i64 pr, .int .u16 sr, .int .u16 ds, .int .i64 fl, .int .i64 ki, .int .i64 co, .bool er, .int .i64 i0, .int .i64 i1, .int .i64 i2, .int .i64 i3, .int .u32 i4, .int .u32 i5, .int .i64 pa, .bool true] 73)).alloc (.map #[] 0)
      have b2 := (Blk.new (w.alloc (.cells #[.int .i64 h0, .int .i64 h1, .int .i64 h2, .int .i64 17, .int .u32 h4, .int .u32 h5] 47)) 73 #[.int .i64 pr, .int .u16 sr, .int .u16 ds, .int .i64 fl, .int .i64 ki, .int .i64 co, .bool er, .int .i64 i0, .int .i64 i1, .int .i64 i2, .int .i64 i3, .int .u32 i4, .int .u32 i5, .int .i64 pa, .bool true]).alloc (.map #[] 0)
      have bm := MapI.made ((w.alloc (.cells #[.int .i64 h0, .int .i64 h1, .int .i64 h2, .int .i64 17, .int .u32 h4, .int .u32 h5] 47)).alloc (.cells #[.int .i64 pr, .int .u16 sr, .int .u16 ds, .int .i64 fl, .int .i64 ki, .int .i64 co, .bool er, .int .i64 i0, .int .i64 i1, .int .i64 i2, .int .i64 i3, .int .u32 i4, .int .u32 i5, .int .i64 pa, .bool true] 73))
      have bl : Below w.heap.size w (((w.alloc (.cells #[.int .i64 h0, .int .i64 h1, .int .i64 h2, .int .i64 17, .int .u32 h4, .int .u32 h5] 47)).alloc (.cells #[.int .i64 pr, .int .u16 sr, .int .u16 ds, .int .i64 fl, .int .i64 ki, .int .i64 co, .bool er, .int .i64 i0, .int .i64 i1, .int .i64 i2, .int .i64 i3, .int .u32 i4, .int .u32 i5, .int .i64 pa, .bool true] 73)).alloc (.map #[] 0)) := ((bel_alloc _ _).alloc (by simp) _).alloc (by simp; omega) _
      rw [show (w.alloc (.cells #[.int .i64 h0, .int .i64 h1, .int .i64 h2, .int .i64 17, .int .u32 h4, .int .u32 h5] 47)).heap.size = w.heap.size + 1 by simp] at b2
      rw [show ((w.alloc (.cells #[.int .i64 h0, .int .i64 h1, .int .i64 h2, .int .i64 17, .int .u32 h4, .int .u32 h5] 47)).alloc (.cells #[.int .i64 pr, .int .u16 sr, .int .u16 ds, .int .i64 fl, .int .i64 ki, .int .i64 co, .bool er, .int .i64 i0, .int .i64 i1, .int .i64 i2, .int .i64 i3, .int .u32 i4, .int .u32 i5, .int .i64 pa, .bool true] 73)).heap.size = w.heap.size + 2 by simp] at bm
      have hf : FrS w _ (w.heap.size + 2) 0 _ #[.int .i64 h0, .int .i64 h1, .int .i64 h2, .int .i64 17, .int .u32 h4, .int .u32 h5] #[.int .i64 pr, .int .u16 sr, .int .u16 ds, .int .i64 fl, .int .i64 ki, .int .i64 co, .bool er, .int .i64 i0, .int .i64 i1, .int .i64 i2, .int .i64 i3, .int .u32 i4, .int .u32 i5, .int .i64 pa, .bool true] := ⟨b1, b2, bm, bl, by omega⟩
      clear b1 b2 bm bl
      have hmm := @run_makeMap Try.prog
      go_upto_if 15 with (refine wpList_mapPut _ rfl _ _ _ (.inr rfl) _ _ _ rfl hf.mp (by omega) _ _ rfl rfl (i64_inr (by omega)) (i64_inr (by omega)) ?_; intro w1 hm1 hu1; have hg := hf.step hm1 hu1; clear hf hm1 hu1; have hf := hg; clear hg)
      clear hmm
      have q0 := hf.bh.cell 0
      have q3 := hf.bh.cell 3
      have p6 := hf.bp.cell 6
      have p7 := hf.bp.cell 7
      have p10 := hf.bp.cell 10
      have p13 := hf.bp.cell 13
      have p14 := hf.bp.cell 14
      go_wp2_with fail
      refine (hf.put (k := 4) (by omega) (by omega) (by omega) (by omega)).mono ?_
      clear q0 q3 p6 p7 p10 p13 p14
      rintro e wx ⟨rfl, hg⟩
      clear hf
      have hf := hg
      clear hg
      have q0 := hf.bh.cell 0
      have q3 := hf.bh.cell 3
      have p6 := hf.bp.cell 6
      have p7 := hf.bp.cell 7
      have p10 := hf.bp.cell 10
      have p13 := hf.bp.cell 13
      have p14 := hf.bp.cell 14
      go_wp2_with fail
      refine (hf.put (k := 2) (by omega) (by omega) (by omega) (by omega)).mono ?_
      clear q0 q3 p6 p7 p10 p13 p14
      rintro e wx ⟨rfl, hg⟩
      clear hf
      have hf := hg
      clear hg
      have q0 := hf.bh.cell 0
      have q3 := hf.bh.cell 3
      have p6 := hf.bp.cell 6
      have p7 := hf.bp.cell 7
      have p10 := hf.bp.cell 10
      have p13 := hf.bp.cell 13
      have p14 := hf.bp.cell 14
      go_wp2_with fail
      go_ret
      refine hf.end_ ?_
      have e := hF.out
      clear hF q0 q3 p6 p7 p10 p13 p14 hf
      rw [← e]
      simp [freeF, show (17:Int) = 17 from rfl]
  have d17 : (h3 == 17) = false := by simpa using c17
  by_cases c6 : h3 = 6
  · subst c6
    clear c17 d17
    go_enter Try.func40, Try.ntmps40
    go_upto_region 1 with fail
    have b1 := ((Blk.new w 47 #[.int .i64 h0, .int .i64 h1, .int .i64 h2, .int .i64 6, .int .u32 h4, .int .u32 h5]).alloc (.cells #[.int .i64 pr, .int .u16 sr, .int .u16 ds, .int .i64 fl, .int .i64 ki, .int .i64 co, .bool er, .int .i64 i0, .int .i64 i1, .int .i64 i2, .int .i64 i3, .int .u32 i4, .int .u32 i5, .int .i64 pa, .bool ba] 73)).alloc (.map #[] 0)
    have b2 := (Blk.new (w.alloc (.cells #[.int .i64 h0, .int .i64 h1, .int .i64 h2, .int .i64 6, .int .u32 h4, .int .u32 h5] 47)) 73 #[.int .i64 pr, .int .u16 sr, .int .u16 ds, .int .i64 fl, .int .i64 ki, .int .i64 co, .bool er, .int .i64 i0, .int .i64 i1, .int .i64 i2, .int .i64 i3, .int .u32 i4, .int .u32 i5, .int .i64 pa, .bool ba]).alloc (.map #[] 0)
    have bm := MapI.made ((w.alloc (.cells #[.int .i64 h0, .int .i64 h1, .int .i64 h2, .int .i64 6, .int .u32 h4, .int .u32 h5] 47)).alloc (.cells #[.int .i64 pr, .int .u16 sr, .int .u16 ds, .int .i64 fl, .int .i64 ki, .int .i64 co, .bool er, .int .i64 i0, .int .i64 i1, .int .i64 i2, .int .i64 i3, .int .u32 i4, .int .u32 i5, .int .i64 pa, .bool ba] 73))
    have bl : Below w.heap.size w (((w.alloc (.cells #[.int .i64 h0, .int .i64 h1, .int .i64 h2, .int .i64 6, .int .u32 h4, .int .u32 h5] 47)).alloc (.cells #[.int .i64 pr, .int .u16 sr, .int .u16 ds, .int .i64 fl, .int .i64 ki, .int .i64 co, .bool er, .int .i64 i0, .int .i64 i1, .int .i64 i2, .int .i64 i3, .int .u32 i4, .int .u32 i5, .int .i64 pa, .bool ba] 73)).alloc (.map #[] 0)) := ((bel_alloc _ _).alloc (by simp) _).alloc (by simp; omega) _
    rw [show (w.alloc (.cells #[.int .i64 h0, .int .i64 h1, .int .i64 h2, .int .i64 6, .int .u32 h4, .int .u32 h5] 47)).heap.size = w.heap.size + 1 by simp] at b2
    rw [show ((w.alloc (.cells #[.int .i64 h0, .int .i64 h1, .int .i64 h2, .int .i64 6, .int .u32 h4, .int .u32 h5] 47)).alloc (.cells #[.int .i64 pr, .int .u16 sr, .int .u16 ds, .int .i64 fl, .int .i64 ki, .int .i64 co, .bool er, .int .i64 i0, .int .i64 i1, .int .i64 i2, .int .i64 i3, .int .u32 i4, .int .u32 i5, .int .i64 pa, .bool ba] 73)).heap.size = w.heap.size + 2 by simp] at bm
    have hf : FrS w _ (w.heap.size + 2) 0 _ #[.int .i64 h0, .int .i64 h1, .int .i64 h2, .int .i64 6, .int .u32 h4, .int .u32 h5] #[.int .i64 pr, .int .u16 sr, .int .u16 ds, .int .i64 fl, .int .i64 ki, .int .i64 co, .bool er, .int .i64 i0, .int .i64 i1, .int .i64 i2, .int .i64 i3, .int .u32 i4, .int .u32 i5, .int .i64 pa, .bool ba] := ⟨b1, b2, bm, bl, by omega⟩
    clear b1 b2 bm bl
    have hmm := @run_makeMap Try.prog
    go_upto_if 15 with (refine wpList_mapPut _ rfl _ _ _ (.inr rfl) _ _ _ rfl hf.mp (by omega) _ _ rfl rfl (i64_inr (by omega)) (i64_inr (by omega)) ?_; intro w1 hm1 hu1; have hg := hf.step hm1 hu1; clear hf hm1 hu1; have hf := hg; clear hg)
    clear hmm
    have q0 := hf.bh.cell 0
    have q3 := hf.bh.cell 3
    have p6 := hf.bp.cell 6
    have p7 := hf.bp.cell 7
    have p10 := hf.bp.cell 10
    have p13 := hf.bp.cell 13
    have p14 := hf.bp.cell 14
    go_wp2_with fail
    refine (hf.put (k := 4) (by omega) (by omega) (by omega) (by omega)).mono ?_
    clear q0 q3 p6 p7 p10 p13 p14
    rintro e wx ⟨rfl, hg⟩
    clear hf
    have hf := hg
    clear hg
    have q0 := hf.bh.cell 0
    have q3 := hf.bh.cell 3
    have p6 := hf.bp.cell 6
    have p7 := hf.bp.cell 7
    have p10 := hf.bp.cell 10
    have p13 := hf.bp.cell 13
    have p14 := hf.bp.cell 14
    go_wp2_with fail
    refine (hf.put (k := 2) (by omega) (by omega) (by omega) (by omega)).mono ?_
    clear q0 q3 p6 p7 p10 p13 p14
    rintro e wx ⟨rfl, hg⟩
    clear hf
    have hf := hg
    clear hg
    have q0 := hf.bh.cell 0
    have q3 := hf.bh.cell 3
    have p6 := hf.bp.cell 6
    have p7 := hf.bp.cell 7
    have p10 := hf.bp.cell 10
    have p13 := hf.bp.cell 13
    have p14 := hf.bp.cell 14
    go_wp2_with fail
    refine (hf.put (k := 2) (by omega) (by omega) (by omega) (by omega)).mono ?_
    clear q0 q3 p6 p7 p10 p13 p14
    rintro e wx ⟨rfl, hg⟩
    clear hf
    have hf := hg
    clear hg
    have q0 := hf.bh.cell 0
    have q3 := hf.bh.cell 3
    have p6 := hf.bp.cell 6
    have p7 := hf.bp.cell 7
    have p10 := hf.bp.cell 10
    have p13 := hf.bp.cell 13
    have p14 := hf.bp.cell 14
    go_wp2_with fail
    go_ret
    refine hf.end_ ?_
    have e := hF.out
    clear hF q0 q3 p6 p7 p10 p13 p14 hf
    rw [← e]
    simp [freeF, show (6:Int) = 6 from rfl]
  have d6 : (h3 == 6) = false := by simpa using c6
  replace c17 := Lib.hid c17
  replace c6 := Lib.hid c6
  cases er
  · go_enter Try.func40, Try.ntmps40
    go_upto_region 1 with fail
    have b1 := ((Blk.new w 47 #[.int .i64 h0, .int .i64 h1, .int .i64 h2, .int .i64 h3, .int .u32 h4, .int .u32 h5]).alloc (.cells #[.int .i64 pr, .int .u16 sr, .int .u16 ds, .int .i64 fl, .int .i64 ki, .int .i64 co, .bool false, .int .i64 i0, .int .i64 i1, .int .i64 i2, .int .i64 i3, .int .u32 i4, .int .u32 i5, .int .i64 pa, .bool ba] 73)).alloc (.map #[] 0)
    have b2 := (Blk.new (w.alloc (.cells #[.int .i64 h0, .int .i64 h1, .int .i64 h2, .int .i64 h3, .int .u32 h4, .int .u32 h5] 47)) 73 #[.int .i64 pr, .int .u16 sr, .int .u16 ds, .int .i64 fl, .int .i64 ki, .int .i64 co, .bool false, .int .i64 i0, .int .i64 i1, .int .i64 i2, .int .i64 i3, .int .u32 i4, .int .u32 i5, .int .i64 pa, .bool ba]).alloc (.map #[] 0)
    have bm := MapI.made ((w.alloc (.cells #[.int .i64 h0, .int .i64 h1, .int .i64 h2, .int .i64 h3, .int .u32 h4, .int .u32 h5] 47)).alloc (.cells #[.int .i64 pr, .int .u16 sr, .int .u16 ds, .int .i64 fl, .int .i64 ki, .int .i64 co, .bool false, .int .i64 i0, .int .i64 i1, .int .i64 i2, .int .i64 i3, .int .u32 i4, .int .u32 i5, .int .i64 pa, .bool ba] 73))
    have bl : Below w.heap.size w (((w.alloc (.cells #[.int .i64 h0, .int .i64 h1, .int .i64 h2, .int .i64 h3, .int .u32 h4, .int .u32 h5] 47)).alloc (.cells #[.int .i64 pr, .int .u16 sr, .int .u16 ds, .int .i64 fl, .int .i64 ki, .int .i64 co, .bool false, .int .i64 i0, .int .i64 i1, .int .i64 i2, .int .i64 i3, .int .u32 i4, .int .u32 i5, .int .i64 pa, .bool ba] 73)).alloc (.map #[] 0)) := ((bel_alloc _ _).alloc (by simp) _).alloc (by simp; omega) _
    rw [show (w.alloc (.cells #[.int .i64 h0, .int .i64 h1, .int .i64 h2, .int .i64 h3, .int .u32 h4, .int .u32 h5] 47)).heap.size = w.heap.size + 1 by simp] at b2
    rw [show ((w.alloc (.cells #[.int .i64 h0, .int .i64 h1, .int .i64 h2, .int .i64 h3, .int .u32 h4, .int .u32 h5] 47)).alloc (.cells #[.int .i64 pr, .int .u16 sr, .int .u16 ds, .int .i64 fl, .int .i64 ki, .int .i64 co, .bool false, .int .i64 i0, .int .i64 i1, .int .i64 i2, .int .i64 i3, .int .u32 i4, .int .u32 i5, .int .i64 pa, .bool ba] 73)).heap.size = w.heap.size + 2 by simp] at bm
    have hf : FrS w _ (w.heap.size + 2) 0 _ #[.int .i64 h0, .int .i64 h1, .int .i64 h2, .int .i64 h3, .int .u32 h4, .int .u32 h5] #[.int .i64 pr, .int .u16 sr, .int .u16 ds, .int .i64 fl, .int .i64 ki, .int .i64 co, .bool false, .int .i64 i0, .int .i64 i1, .int .i64 i2, .int .i64 i3, .int .u32 i4, .int .u32 i5, .int .i64 pa, .bool ba] := ⟨b1, b2, bm, bl, by omega⟩
    clear b1 b2 bm bl
    have hmm := @run_makeMap Try.prog
    go_upto_if 15 with (refine wpList_mapPut _ rfl _ _ _ (.inr rfl) _ _ _ rfl hf.mp (by omega) _ _ rfl rfl (i64_inr (by omega)) (i64_inr (by omega)) ?_; intro w1 hm1 hu1; have hg := hf.step hm1 hu1; clear hf hm1 hu1; have hf := hg; clear hg)
    clear hmm
    have q0 := hf.bh.cell 0
    have q3 := hf.bh.cell 3
    have p6 := hf.bp.cell 6
    have p7 := hf.bp.cell 7
    have p10 := hf.bp.cell 10
    have p13 := hf.bp.cell 13
    have p14 := hf.bp.cell 14
    go_wp2_with fail
    refine (hf.put (k := 4) (by omega) (by omega) (by omega) (by omega)).mono ?_
    clear q0 q3 p6 p7 p10 p13 p14
    rintro e wx ⟨rfl, hg⟩
    clear hf
    have hf := hg
    clear hg
    have q0 := hf.bh.cell 0
    have q3 := hf.bh.cell 3
    have p6 := hf.bp.cell 6
    have p7 := hf.bp.cell 7
    have p10 := hf.bp.cell 10
    have p13 := hf.bp.cell 13
    have p14 := hf.bp.cell 14
    go_wp2_with fail
    refine (hf.put (k := 2) (by omega) (by omega) (by omega) (by omega)).mono ?_
    clear q0 q3 p6 p7 p10 p13 p14
    rintro e wx ⟨rfl, hg⟩
    clear hf
    have hf := hg
    clear hg
    have q0 := hf.bh.cell 0
    have q3 := hf.bh.cell 3
    have p6 := hf.bp.cell 6
    have p7 := hf.bp.cell 7
    have p10 := hf.bp.cell 10
    have p13 := hf.bp.cell 13
    have p14 := hf.bp.cell 14
    go_wp2_with fail
    refine (hf.put (k := 2) (by omega) (by omega) (by omega) (by omega)).mono ?_
    clear q0 q3 p6 p7 p10 p13 p14
    rintro e wx ⟨rfl, hg⟩
    clear hf
    have hf := hg
    clear hg
    have q0 := hf.bh.cell 0
    have q3 := hf.bh.cell 3
    have p6 := hf.bp.cell 6
    have p7 := hf.bp.cell 7
    have p10 := hf.bp.cell 10
    have p13 := hf.bp.cell 13
    have p14 := hf.bp.cell 14
    go_wp2_with fail
    go_ret
    refine hf.end_ ?_
    have e := hF.out
    clear hF q0 q3 p6 p7 p10 p13 p14 hf
    rw [← e]
    simp [freeF, c17.out, c6.out]
  by_cases c17i : i3 = 17
  · subst c17i
    go_enter Try.func40, Try.ntmps40
    go_upto_region 1 with fail
    have b1 := ((Blk.new w 47 #[.int .i64 h0, .int .i64 h1, .int .i64 h2, .int .i64 h3, .int .u32 h4, .int .u32 h5]).alloc (.cells #[.int .i64 pr, .int .u16 sr, .int .u16 ds, .int .i64 fl, .int .i64 ki, .int .i64 co, .bool true, .int .i64 i0, .int .i64 i1, .int .i64 i2, .int .i64 17, .int .u32 i4, .int .u32 i5, .int .i64 pa, .bool ba] 73)).alloc (.map #[] 0)
    have b2 := (Blk.new (w.alloc (.cells #[.int .i64 h0, .int .i64 h1, .int .i64 h2, .int .i64 h3, .int .u32 h4, .int .u32 h5] 47)) 73 #[.int .i64 pr, .int .u16 sr, .int .u16 ds, .int .i64 fl, .int .i64 ki, .int .i64 co, .bool true, .int .i64 i0, .int .i64 i1, .int .i64 i2, .int .i64 17, .int .u32 i4, .int .u32 i5, .int .i64 pa, .bool ba]).alloc (.map #[] 0)
    have bm := MapI.made ((w.alloc (.cells #[.int .i64 h0, .int .i64 h1, .int .i64 h2, .int .i64 h3, .int .u32 h4, .int .u32 h5] 47)).alloc (.cells #[.int .i64 pr, .int .u16 sr, .int .u16 ds, .int .i64 fl, .int .i64 ki, .int .i64 co, .bool true, .int .i64 i0, .int .i64 i1, .int .i64 i2, .int .i64 17, .int .u32 i4, .int .u32 i5, .int .i64 pa, .bool ba] 73))
    have bl : Below w.heap.size w (((w.alloc (.cells #[.int .i64 h0, .int .i64 h1, .int .i64 h2, .int .i64 h3, .int .u32 h4, .int .u32 h5] 47)).alloc (.cells #[.int .i64 pr, .int .u16 sr, .int .u16 ds, .int .i64 fl, .int .i64 ki, .int .i64 co, .bool true, .int .i64 i0, .int .i64 i1, .int .i64 i2, .int .i64 17, .int .u32 i4, .int .u32 i5, .int .i64 pa, .bool ba] 73)).alloc (.map #[] 0)) := ((bel_alloc _ _).alloc (by simp) _).alloc (by simp; omega) _
    rw [show (w.alloc (.cells #[.int .i64 h0, .int .i64 h1, .int .i64 h2, .int .i64 h3, .int .u32 h4, .int .u32 h5] 47)).heap.size = w.heap.size + 1 by simp] at b2
    rw [show ((w.alloc (.cells #[.int .i64 h0, .int .i64 h1, .int .i64 h2, .int .i64 h3, .int .u32 h4, .int .u32 h5] 47)).alloc (.cells #[.int .i64 pr, .int .u16 sr, .int .u16 ds, .int .i64 fl, .int .i64 ki, .int .i64 co, .bool true, .int .i64 i0, .int .i64 i1, .int .i64 i2, .int .i64 17, .int .u32 i4, .int .u32 i5, .int .i64 pa, .bool ba] 73)).heap.size = w.heap.size + 2 by simp] at bm
    have hf : FrS w _ (w.heap.size + 2) 0 _ #[.int .i64 h0, .int .i64 h1, .int .i64 h2, .int .i64 h3, .int .u32 h4, .int .u32 h5] #[.int .i64 pr, .int .u16 sr, .int .u16 ds, .int .i64 fl, .int .i64 ki, .int .i64 co, .bool true, .int .i64 i0, .int .i64 i1, .int .i64 i2, .int .i64 17, .int .u32 i4, .int .u32 i5, .int .i64 pa, .bool ba] := ⟨b1, b2, bm, bl, by omega⟩
    clear b1 b2 bm bl
    have hmm := @run_makeMap Try.prog
    go_upto_if 15 with (refine wpList_mapPut _ rfl _ _ _ (.inr rfl) _ _ _ rfl hf.mp (by omega) _ _ rfl rfl (i64_inr (by omega)) (i64_inr (by omega)) ?_; intro w1 hm1 hu1; have hg := hf.step hm1 hu1; clear hf hm1 hu1; have hf := hg; clear hg)
    clear hmm
    have q0 := hf.bh.cell 0
    have q3 := hf.bh.cell 3
    have p6 := hf.bp.cell 6
    have p7 := hf.bp.cell 7
    have p10 := hf.bp.cell 10
    have p13 := hf.bp.cell 13
    have p14 := hf.bp.cell 14
    go_wp2_with fail
    refine (hf.put (k := 4) (by omega) (by omega) (by omega) (by omega)).mono ?_
    clear q0 q3 p6 p7 p10 p13 p14
    rintro e wx ⟨rfl, hg⟩
    clear hf
    have hf := hg
    clear hg
    have q0 := hf.bh.cell 0
    have q3 := hf.bh.cell 3
    have p6 := hf.bp.cell 6
    have p7 := hf.bp.cell 7
    have p10 := hf.bp.cell 10
    have p13 := hf.bp.cell 13
    have p14 := hf.bp.cell 14
    go_wp2_with fail
    refine (hf.put (k := 2) (by omega) (by omega) (by omega) (by omega)).mono ?_
    clear q0 q3 p6 p7 p10 p13 p14
    rintro e wx ⟨rfl, hg⟩
    clear hf
    have hf := hg
    clear hg
    go_upto_region 7 with fail
    have z0 : ∀ t : Tw (Up wx), t.w.cell? ⟨w.heap.size + 1, 13, none⟩ = some (.int .i64 pa) := fun t => hf.bp.up t 13
    have z1 : ∀ t : Tw (Up wx), t.w.cell? ⟨w.heap.size + 1, 7, none⟩ = some (.int .i64 i0) := fun t => hf.bp.up t 7
    have zz := Up.one wx
    refine region_tw (Up wx) (by kernel_rfl) (by kernel_rfl) (Up.rfl_ wx).drew ?_
    unfold clsS
    repeat (first
      | go_big_quiet_skip
      | (go_big_quiet_want; go_big_quiet_op; go_big_quiet_on))
    refine wpQuiet_nil ?_
    intro tq
    clear z0 z1 zz
    have hg : FrS w tq.w _ _ _ _ _ := hf.bel_ tq.h
    clear hf
    have hf := hg
    clear hg
    have q0 := hf.bh.cell 0
    have q3 := hf.bh.cell 3
    have p6 := hf.bp.cell 6
    have p7 := hf.bp.cell 7
    have p10 := hf.bp.cell 10
    have p13 := hf.bp.cell 13
    have p14 := hf.bp.cell 14
    go_wp2_with fail
    refine (hf.put (k := 4) (by omega) (by omega) (by omega) (by omega)).mono ?_
    clear q0 q3 p6 p7 p10 p13 p14
    rintro e wx ⟨rfl, hg⟩
    clear hf
    have hf := hg
    clear hg
    have q0 := hf.bh.cell 0
    have q3 := hf.bh.cell 3
    have p6 := hf.bp.cell 6
    have p7 := hf.bp.cell 7
    have p10 := hf.bp.cell 10
    have p13 := hf.bp.cell 13
    have p14 := hf.bp.cell 14
    go_wp2_with fail
    refine (hf.put (k := 2) (by omega) (by omega) (by omega) (by omega)).mono ?_
    clear q0 q3 p6 p7 p10 p13 p14
    rintro e wx ⟨rfl, hg⟩
    clear hf
    have hf := hg
    clear hg
    have q0 := hf.bh.cell 0
    have q3 := hf.bh.cell 3
    have p6 := hf.bp.cell 6
    have p7 := hf.bp.cell 7
    have p10 := hf.bp.cell 10
    have p13 := hf.bp.cell 13
    have p14 := hf.bp.cell 14
    go_wp2_with fail
    refine (hf.put (k := 2) (by omega) (by omega) (by omega) (by omega)).mono ?_
    clear q0 q3 p6 p7 p10 p13 p14
    rintro e wx ⟨rfl, hg⟩
    clear hf
    have hf := hg
    clear hg
    have q0 := hf.bh.cell 0
    have q3 := hf.bh.cell 3
    have p6 := hf.bp.cell 6
    have p7 := hf.bp.cell 7
    have p10 := hf.bp.cell 10
    have p13 := hf.bp.cell 13
    have p14 := hf.bp.cell 14
    go_wp2_with fail
    refine (hf.put (k := 2) (by omega) (by omega) (by omega) (by omega)).mono ?_
    clear q0 q3 p6 p7 p10 p13 p14
    rintro e wx ⟨rfl, hg⟩
    clear hf
    have hf := hg
    clear hg
    have q0 := hf.bh.cell 0
    have q3 := hf.bh.cell 3
    have p6 := hf.bp.cell 6
    have p7 := hf.bp.cell 7
    have p10 := hf.bp.cell 10
    have p13 := hf.bp.cell 13
    have p14 := hf.bp.cell 14
    go_wp2_with fail
    go_ret
    refine hf.end_ ?_
    have e := hF.out
    clear hF q0 q3 p6 p7 p10 p13 p14 hf
    rw [← e]
    simp [freeF, c17.out, c6.out]
  have d17i : (i3 == 17) = false := by simpa using c17i
  by_cases c6i : i3 = 6
  · subst c6i
    clear c17i d17i
    go_enter Try.func40, Try.ntmps40
    go_upto_region 1 with fail
    have b1 := ((Blk.new w 47 #[.int .i64 h0, .int .i64 h1, .int .i64 h2, .int .i64 h3, .int .u32 h4, .int .u32 h5]).alloc (.cells #[.int .i64 pr, .int .u16 sr, .int .u16 ds, .int .i64 fl, .int .i64 ki, .int .i64 co, .bool true, .int .i64 i0, .int .i64 i1, .int .i64 i2, .int .i64 6, .int .u32 i4, .int .u32 i5, .int .i64 pa, .bool ba] 73)).alloc (.map #[] 0)
    have b2 := (Blk.new (w.alloc (.cells #[.int .i64 h0, .int .i64 h1, .int .i64 h2, .int .i64 h3, .int .u32 h4, .int .u32 h5] 47)) 73 #[.int .i64 pr, .int .u16 sr, .int .u16 ds, .int .i64 fl, .int .i64 ki, .int .i64 co, .bool true, .int .i64 i0, .int .i64 i1, .int .i64 i2, .int .i64 6, .int .u32 i4, .int .u32 i5, .int .i64 pa, .bool ba]).alloc (.map #[] 0)
    have bm := MapI.made ((w.alloc (.cells #[.int .i64 h0, .int .i64 h1, .int .i64 h2, .int .i64 h3, .int .u32 h4, .int .u32 h5] 47)).alloc (.cells #[.int .i64 pr, .int .u16 sr, .int .u16 ds, .int .i64 fl, .int .i64 ki, .int .i64 co, .bool true, .int .i64 i0, .int .i64 i1, .int .i64 i2, .int .i64 6, .int .u32 i4, .int .u32 i5, .int .i64 pa, .bool ba] 73))
    have bl : Below w.heap.size w (((w.alloc (.cells #[.int .i64 h0, .int .i64 h1, .int .i64 h2, .int .i64 h3, .int .u32 h4, .int .u32 h5] 47)).alloc (.cells #[.int .i64 pr, .int .u16 sr, .int .u16 ds, .int .i64 fl, .int .i64 ki, .int .i64 co, .bool true, .int .i64 i0, .int .i64 i1, .int .i64 i2, .int .i64 6, .int .u32 i4, .int .u32 i5, .int .i64 pa, .bool ba] 73)).alloc (.map #[] 0)) := ((bel_alloc _ _).alloc (by simp) _).alloc (by simp; omega) _
    rw [show (w.alloc (.cells #[.int .i64 h0, .int .i64 h1, .int .i64 h2, .int .i64 h3, .int .u32 h4, .int .u32 h5] 47)).heap.size = w.heap.size + 1 by simp] at b2
    rw [show ((w.alloc (.cells #[.int .i64 h0, .int .i64 h1, .int .i64 h2, .int .i64 h3, .int .u32 h4, .int .u32 h5] 47)).alloc (.cells #[.int .i64 pr, .int .u16 sr, .int .u16 ds, .int .i64 fl, .int .i64 ki, .int .i64 co, .bool true, .int .i64 i0, .int .i64 i1, .int .i64 i2, .int .i64 6, .int .u32 i4, .int .u32 i5, .int .i64 pa, .bool ba] 73)).heap.size = w.heap.size + 2 by simp] at bm
    have hf : FrS w _ (w.heap.size + 2) 0 _ #[.int .i64 h0, .int .i64 h1, .int .i64 h2, .int .i64 h3, .int .u32 h4, .int .u32 h5] #[.int .i64 pr, .int .u16 sr, .int .u16 ds, .int .i64 fl, .int .i64 ki, .int .i64 co, .bool true, .int .i64 i0, .int .i64 i1, .int .i64 i2, .int .i64 6, .int .u32 i4, .int .u32 i5, .int .i64 pa, .bool ba] := ⟨b1, b2, bm, bl, by omega⟩
    clear b1 b2 bm bl
    have hmm := @run_makeMap Try.prog
    go_upto_if 15 with (refine wpList_mapPut _ rfl _ _ _ (.inr rfl) _ _ _ rfl hf.mp (by omega) _ _ rfl rfl (i64_inr (by omega)) (i64_inr (by omega)) ?_; intro w1 hm1 hu1; have hg := hf.step hm1 hu1; clear hf hm1 hu1; have hf := hg; clear hg)
    clear hmm
    have q0 := hf.bh.cell 0
    have q3 := hf.bh.cell 3
    have p6 := hf.bp.cell 6
    have p7 := hf.bp.cell 7
    have p10 := hf.bp.cell 10
    have p13 := hf.bp.cell 13
    have p14 := hf.bp.cell 14
    go_wp2_with fail
    refine (hf.put (k := 4) (by omega) (by omega) (by omega) (by omega)).mono ?_
    clear q0 q3 p6 p7 p10 p13 p14
    rintro e wx ⟨rfl, hg⟩
    clear hf
    have hf := hg
    clear hg
    have q0 := hf.bh.cell 0
    have q3 := hf.bh.cell 3
    have p6 := hf.bp.cell 6
    have p7 := hf.bp.cell 7
    have p10 := hf.bp.cell 10
    have p13 := hf.bp.cell 13
    have p14 := hf.bp.cell 14
    go_wp2_with fail
    refine (hf.put (k := 2) (by omega) (by omega) (by omega) (by omega)).mono ?_
    clear q0 q3 p6 p7 p10 p13 p14
    rintro e wx ⟨rfl, hg⟩
    clear hf
    have hf := hg
    clear hg
    go_upto_region 7 with fail
    have z0 : ∀ t : Tw (Up wx), t.w.cell? ⟨w.heap.size + 1, 13, none⟩ = some (.int .i64 pa) := fun t => hf.bp.up t 13
    have z1 : ∀ t : Tw (Up wx), t.w.cell? ⟨w.heap.size + 1, 7, none⟩ = some (.int .i64 i0) := fun t => hf.bp.up t 7
    have zz := Up.one wx
    refine region_tw (Up wx) (by kernel_rfl) (by kernel_rfl) (Up.rfl_ wx).drew ?_
    unfold clsS
    repeat (first
      | go_big_quiet_skip
      | (go_big_quiet_want; go_big_quiet_op; go_big_quiet_on))
    refine wpQuiet_nil ?_
    intro tq
    clear z0 z1 zz
    have hg : FrS w tq.w _ _ _ _ _ := hf.bel_ tq.h
    clear hf
    have hf := hg
    clear hg
    have q0 := hf.bh.cell 0
    have q3 := hf.bh.cell 3
    have p6 := hf.bp.cell 6
    have p7 := hf.bp.cell 7
    have p10 := hf.bp.cell 10
    have p13 := hf.bp.cell 13
    have p14 := hf.bp.cell 14
    go_wp2_with fail
    refine (hf.put (k := 4) (by omega) (by omega) (by omega) (by omega)).mono ?_
    clear q0 q3 p6 p7 p10 p13 p14
    rintro e wx ⟨rfl, hg⟩
    clear hf
    have hf := hg
    clear hg
    have q0 := hf.bh.cell 0
    have q3 := hf.bh.cell 3
    have p6 := hf.bp.cell 6
    have p7 := hf.bp.cell 7
    have p10 := hf.bp.cell 10
    have p13 := hf.bp.cell 13
    have p14 := hf.bp.cell 14
    go_wp2_with fail
    refine (hf.put (k := 2) (by omega) (by omega) (by omega) (by omega)).mono ?_
    clear q0 q3 p6 p7 p10 p13 p14
    rintro e wx ⟨rfl, hg⟩
    clear hf
    have hf := hg
    clear hg
    have q0 := hf.bh.cell 0
    have q3 := hf.bh.cell 3
    have p6 := hf.bp.cell 6
    have p7 := hf.bp.cell 7
    have p10 := hf.bp.cell 10
    have p13 := hf.bp.cell 13
    have p14 := hf.bp.cell 14
    go_wp2_with fail
    refine (hf.put (k := 2) (by omega) (by omega) (by omega) (by omega)).mono ?_
    clear q0 q3 p6 p7 p10 p13 p14
    rintro e wx ⟨rfl, hg⟩
    clear hf
    have hf := hg
    clear hg
    have q0 := hf.bh.cell 0
    have q3 := hf.bh.cell 3
    have p6 := hf.bp.cell 6
    have p7 := hf.bp.cell 7
    have p10 := hf.bp.cell 10
    have p13 := hf.bp.cell 13
    have p14 := hf.bp.cell 14
    go_wp2_with fail
    refine (hf.put (k := 2) (by omega) (by omega) (by omega) (by omega)).mono ?_
    clear q0 q3 p6 p7 p10 p13 p14
    rintro e wx ⟨rfl, hg⟩
    clear hf
    have hf := hg
    clear hg
    have q0 := hf.bh.cell 0
    have q3 := hf.bh.cell 3
    have p6 := hf.bp.cell 6
    have p7 := hf.bp.cell 7
    have p10 := hf.bp.cell 10
    have p13 := hf.bp.cell 13
    have p14 := hf.bp.cell 14
    go_wp2_with fail
    go_ret
    refine hf.end_ ?_
    have e := hF.out
    clear hF q0 q3 p6 p7 p10 p13 p14 hf
    rw [← e]
    simp [freeF, c17.out, c6.out]
  have d6i : (i3 == 6) = false := by simpa using c6i
  by_cases c1i : i3 = 1
  · subst c1i
    clear c17i d17i c6i d6i
    go_enter Try.func40, Try.ntmps40
    go_upto_region 1 with fail
    have b1 := ((Blk.new w 47 #[.int .i64 h0, .int .i64 h1, .int .i64 h2, .int .i64 h3, .int .u32 h4, .int .u32 h5]).alloc (.cells #[.int .i64 pr, .int .u16 sr, .int .u16 ds, .int .i64 fl, .int .i64 ki, .int .i64 co, .bool true, .int .i64 i0, .int .i64 i1, .int .i64 i2, .int .i64 1, .int .u32 i4, .int .u32 i5, .int .i64 pa, .bool ba] 73)).alloc (.map #[] 0)
    have b2 := (Blk.new (w.alloc (.cells #[.int .i64 h0, .int .i64 h1, .int .i64 h2, .int .i64 h3, .int .u32 h4, .int .u32 h5] 47)) 73 #[.int .i64 pr, .int .u16 sr, .int .u16 ds, .int .i64 fl, .int .i64 ki, .int .i64 co, .bool true, .int .i64 i0, .int .i64 i1, .int .i64 i2, .int .i64 1, .int .u32 i4, .int .u32 i5, .int .i64 pa, .bool ba]).alloc (.map #[] 0)
    have bm := MapI.made ((w.alloc (.cells #[.int .i64 h0, .int .i64 h1, .int .i64 h2, .int .i64 h3, .int .u32 h4, .int .u32 h5] 47)).alloc (.cells #[.int .i64 pr, .int .u16 sr, .int .u16 ds, .int .i64 fl, .int .i64 ki, .int .i64 co, .bool true, .int .i64 i0, .int .i64 i1, .int .i64 i2, .int .i64 1, .int .u32 i4, .int .u32 i5, .int .i64 pa, .bool ba] 73))
    have bl : Below w.heap.size w (((w.alloc (.cells #[.int .i64 h0, .int .i64 h1, .int .i64 h2, .int .i64 h3, .int .u32 h4, .int .u32 h5] 47)).alloc (.cells #[.int .i64 pr, .int .u16 sr, .int .u16 ds, .int .i64 fl, .int .i64 ki, .int .i64 co, .bool true, .int .i64 i0, .int .i64 i1, .int .i64 i2, .int .i64 1, .int .u32 i4, .int .u32 i5, .int .i64 pa, .bool ba] 73)).alloc (.map #[] 0)) := ((bel_alloc _ _).alloc (by simp) _).alloc (by simp; omega) _
    rw [show (w.alloc (.cells #[.int .i64 h0, .int .i64 h1, .int .i64 h2, .int .i64 h3, .int .u32 h4, .int .u32 h5] 47)).heap.size = w.heap.size + 1 by simp] at b2
    rw [show ((w.alloc (.cells #[.int .i64 h0, .int .i64 h1, .int .i64 h2, .int .i64 h3, .int .u32 h4, .int .u32 h5] 47)).alloc (.cells #[.int .i64 pr, .int .u16 sr, .int .u16 ds, .int .i64 fl, .int .i64 ki, .int .i64 co, .bool true, .int .i64 i0, .int .i64 i1, .int .i64 i2, .int .i64 1, .int .u32 i4, .int .u32 i5, .int .i64 pa, .bool ba] 73)).heap.size = w.heap.size + 2 by simp] at bm
    have hf : FrS w _ (w.heap.size + 2) 0 _ #[.int .i64 h0, .int .i64 h1, .int .i64 h2, .int .i64 h3, .int .u32 h4, .int .u32 h5] #[.int .i64 pr, .int .u16 sr, .int .u16 ds, .int .i64 fl, .int .i64 ki, .int .i64 co, .bool true, .int .i64 i0, .int .i64 i1, .int .i64 i2, .int .i64 1, .int .u32 i4, .int .u32 i5, .int .i64 pa, .bool ba] := ⟨b1, b2, bm, bl, by omega⟩
    clear b1 b2 bm bl
    have hmm := @run_makeMap Try.prog
    go_upto_if 15 with (refine wpList_mapPut _ rfl _ _ _ (.inr rfl) _ _ _ rfl hf.mp (by omega) _ _ rfl rfl (i64_inr (by omega)) (i64_inr (by omega)) ?_; intro w1 hm1 hu1; have hg := hf.step hm1 hu1; clear hf hm1 hu1; have hf := hg; clear hg)
    clear hmm
    have q0 := hf.bh.cell 0
    have q3 := hf.bh.cell 3
    have p6 := hf.bp.cell 6
    have p7 := hf.bp.cell 7
    have p10 := hf.bp.cell 10
    have p13 := hf.bp.cell 13
    have p14 := hf.bp.cell 14
    go_wp2_with fail
    refine (hf.put (k := 4) (by omega) (by omega) (by omega) (by omega)).mono ?_
    clear q0 q3 p6 p7 p10 p13 p14
    rintro e wx ⟨rfl, hg⟩
    clear hf
    have hf := hg
    clear hg
    have q0 := hf.bh.cell 0
    have q3 := hf.bh.cell 3
    have p6 := hf.bp.cell 6
    have p7 := hf.bp.cell 7
    have p10 := hf.bp.cell 10
    have p13 := hf.bp.cell 13
    have p14 := hf.bp.cell 14
    go_wp2_with fail
    refine (hf.put (k := 2) (by omega) (by omega) (by omega) (by omega)).mono ?_
    clear q0 q3 p6 p7 p10 p13 p14
    rintro e wx ⟨rfl, hg⟩
    clear hf
    have hf := hg
    clear hg
    go_upto_region 7 with fail
    have z0 : ∀ t : Tw (Up wx), t.w.cell? ⟨w.heap.size + 1, 13, none⟩ = some (.int .i64 pa) := fun t => hf.bp.up t 13
    have z1 : ∀ t : Tw (Up wx), t.w.cell? ⟨w.heap.size + 1, 7, none⟩ = some (.int .i64 i0) := fun t => hf.bp.up t 7
    have zz := Up.one wx
    refine region_tw (Up wx) (by kernel_rfl) (by kernel_rfl) (Up.rfl_ wx).drew ?_
    unfold clsS
    repeat (first
      | go_big_quiet_skip
      | (go_big_quiet_want; go_big_quiet_op; go_big_quiet_on))
    refine wpQuiet_nil ?_
    intro tq
    clear z0 z1 zz
    have hg : FrS w tq.w _ _ _ _ _ := hf.bel_ tq.h
    clear hf
    have hf := hg
    clear hg
    have q0 := hf.bh.cell 0
    have q3 := hf.bh.cell 3
    have p6 := hf.bp.cell 6
    have p7 := hf.bp.cell 7
    have p10 := hf.bp.cell 10
    have p13 := hf.bp.cell 13
    have p14 := hf.bp.cell 14
    go_wp2_with fail
    refine (hf.put (k := 4) (by omega) (by omega) (by omega) (by omega)).mono ?_
    clear q0 q3 p6 p7 p10 p13 p14
    rintro e wx ⟨rfl, hg⟩
    clear hf
    have hf := hg
    clear hg
    have q0 := hf.bh.cell 0
    have q3 := hf.bh.cell 3
    have p6 := hf.bp.cell 6
    have p7 := hf.bp.cell 7
    have p10 := hf.bp.cell 10
    have p13 := hf.bp.cell 13
    have p14 := hf.bp.cell 14
    go_wp2_with fail
    refine (hf.put (k := 2) (by omega) (by omega) (by omega) (by omega)).mono ?_
    clear q0 q3 p6 p7 p10 p13 p14
    rintro e wx ⟨rfl, hg⟩
    clear hf
    have hf := hg
    clear hg
    have q0 := hf.bh.cell 0
    have q3 := hf.bh.cell 3
    have p6 := hf.bp.cell 6
    have p7 := hf.bp.cell 7
    have p10 := hf.bp.cell 10
    have p13 := hf.bp.cell 13
    have p14 := hf.bp.cell 14
    go_wp2_with fail
    refine (hf.put (k := 2) (by omega) (by omega) (by omega) (by omega)).mono ?_
    clear q0 q3 p6 p7 p10 p13 p14
    rintro e wx ⟨rfl, hg⟩
    clear hf
    have hf := hg
    clear hg
    have q0 := hf.bh.cell 0
    have q3 := hf.bh.cell 3
    have p6 := hf.bp.cell 6
    have p7 := hf.bp.cell 7
    have p10 := hf.bp.cell 10
    have p13 := hf.bp.cell 13
    have p14 := hf.bp.cell 14
    go_wp2_with fail
    refine (hf.put (k := 2) (by omega) (by omega) (by omega) (by omega)).mono ?_
    clear q0 q3 p6 p7 p10 p13 p14
    rintro e wx ⟨rfl, hg⟩
    clear hf
    have hf := hg
    clear hg
    have q0 := hf.bh.cell 0
    have q3 := hf.bh.cell 3
    have p6 := hf.bp.cell 6
    have p7 := hf.bp.cell 7
    have p10 := hf.bp.cell 10
    have p13 := hf.bp.cell 13
    have p14 := hf.bp.cell 14
    go_wp2_with fail
    go_ret
    refine hf.end_ ?_
    have e := hF.out
    clear hF q0 q3 p6 p7 p10 p13 p14 hf
    rw [← e]
    simp [freeF, c17.out, c6.out]
  have d1i : (i3 == 1) = false := by simpa using c1i
  replace c17i := Lib.hid c17i
  replace c6i := Lib.hid c6i
  replace c1i := Lib.hid c1i
  go_enter Try.func40, Try.ntmps40
  go_upto_region 1 with fail
  have b1 := ((Blk.new w 47 #[.int .i64 h0, .int .i64 h1, .int .i64 h2, .int .i64 h3, .int .u32 h4, .int .u32 h5]).alloc (.cells #[.int .i64 pr, .int .u16 sr, .int .u16 ds, .int .i64 fl, .int .i64 ki, .int .i64 co, .bool true, .int .i64 i0, .int .i64 i1, .int .i64 i2, .int .i64 i3, .int .u32 i4, .int .u32 i5, .int .i64 pa, .bool ba] 73)).alloc (.map #[] 0)
  have b2 := (Blk.new (w.alloc (.cells #[.int .i64 h0, .int .i64 h1, .int .i64 h2, .int .i64 h3, .int .u32 h4, .int .u32 h5] 47)) 73 #[.int .i64 pr, .int .u16 sr, .int .u16 ds, .int .i64 fl, .int .i64 ki, .int .i64 co, .bool true, .int .i64 i0, .int .i64 i1, .int .i64 i2, .int .i64 i3, .int .u32 i4, .int .u32 i5, .int .i64 pa, .bool ba]).alloc (.map #[] 0)
  have bm := MapI.made ((w.alloc (.cells #[.int .i64 h0, .int .i64 h1, .int .i64 h2, .int .i64 h3, .int .u32 h4, .int .u32 h5] 47)).alloc (.cells #[.int .i64 pr, .int .u16 sr, .int .u16 ds, .int .i64 fl, .int .i64 ki, .int .i64 co, .bool true, .int .i64 i0, .int .i64 i1, .int .i64 i2, .int .i64 i3, .int .u32 i4, .int .u32 i5, .int .i64 pa, .bool ba] 73))
  have bl : Below w.heap.size w (((w.alloc (.cells #[.int .i64 h0, .int .i64 h1, .int .i64 h2, .int .i64 h3, .int .u32 h4, .int .u32 h5] 47)).alloc (.cells #[.int .i64 pr, .int .u16 sr, .int .u16 ds, .int .i64 fl, .int .i64 ki, .int .i64 co, .bool true, .int .i64 i0, .int .i64 i1, .int .i64 i2, .int .i64 i3, .int .u32 i4, .int .u32 i5, .int .i64 pa, .bool ba] 73)).alloc (.map #[] 0)) := ((bel_alloc _ _).alloc (by simp) _).alloc (by simp; omega) _
  rw [show (w.alloc (.cells #[.int .i64 h0, .int .i64 h1, .int .i64 h2, .int .i64 h3, .int .u32 h4, .int .u32 h5] 47)).heap.size = w.heap.size + 1 by simp] at b2
  rw [show ((w.alloc (.cells #[.int .i64 h0, .int .i64 h1, .int .i64 h2, .int .i64 h3, .int .u32 h4, .int .u32 h5] 47)).alloc (.cells #[.int .i64 pr, .int .u16 sr, .int .u16 ds, .int .i64 fl, .int .i64 ki, .int .i64 co, .bool true, .int .i64 i0, .int .i64 i1, .int .i64 i2, .int .i64 i3, .int .u32 i4, .int .u32 i5, .int .i64 pa, .bool ba] 73)).heap.size = w.heap.size + 2 by simp] at bm
  have hf : FrS w _ (w.heap.size + 2) 0 _ #[.int .i64 h0, .int .i64 h1, .int .i64 h2, .int .i64 h3, .int .u32 h4, .int .u32 h5] #[.int .i64 pr, .int .u16 sr, .int .u16 ds, .int .i64 fl, .int .i64 ki, .int .i64 co, .bool true, .int .i64 i0, .int .i64 i1, .int .i64 i2, .int .i64 i3, .int .u32 i4, .int .u32 i5, .int .i64 pa, .bool ba] := ⟨b1, b2, bm, bl, by omega⟩
  clear b1 b2 bm bl
  have hmm := @run_makeMap Try.prog
  go_upto_if 15 with (refine wpList_mapPut _ rfl _ _ _ (.inr rfl) _ _ _ rfl hf.mp (by omega) _ _ rfl rfl (i64_inr (by omega)) (i64_inr (by omega)) ?_; intro w1 hm1 hu1; have hg := hf.step hm1 hu1; clear hf hm1 hu1; have hf := hg; clear hg)
  clear hmm
  have q0 := hf.bh.cell 0
  have q3 := hf.bh.cell 3
  have p6 := hf.bp.cell 6
  have p7 := hf.bp.cell 7
  have p10 := hf.bp.cell 10
  have p13 := hf.bp.cell 13
  have p14 := hf.bp.cell 14
  go_wp2_with fail
  refine (hf.put (k := 4) (by omega) (by omega) (by omega) (by omega)).mono ?_
  clear q0 q3 p6 p7 p10 p13 p14
  rintro e wx ⟨rfl, hg⟩
  clear hf
  have hf := hg
  clear hg
  have q0 := hf.bh.cell 0
  have q3 := hf.bh.cell 3
  have p6 := hf.bp.cell 6
  have p7 := hf.bp.cell 7
  have p10 := hf.bp.cell 10
  have p13 := hf.bp.cell 13
  have p14 := hf.bp.cell 14
  go_wp2_with fail
  refine (hf.put (k := 2) (by omega) (by omega) (by omega) (by omega)).mono ?_
  clear q0 q3 p6 p7 p10 p13 p14
  rintro e wx ⟨rfl, hg⟩
  clear hf
  have hf := hg
  clear hg
  go_upto_region 7 with fail
  have z0 : ∀ t : Tw (Up wx), t.w.cell? ⟨w.heap.size + 1, 13, none⟩ = some (.int .i64 pa) := fun t => hf.bp.up t 13
  have z1 : ∀ t : Tw (Up wx), t.w.cell? ⟨w.heap.size + 1, 7, none⟩ = some (.int .i64 i0) := fun t => hf.bp.up t 7
  have zz := Up.one wx
  refine region_tw (Up wx) (by kernel_rfl) (by kernel_rfl) (Up.rfl_ wx).drew ?_
  unfold clsS
  repeat (first
    | go_big_quiet_skip
    | (go_big_quiet_want; go_big_quiet_op; go_big_quiet_on))
  refine wpQuiet_nil ?_
  intro tq
  clear z0 z1 zz
  have hg : FrS w tq.w _ _ _ _ _ := hf.bel_ tq.h
  clear hf
  have hf := hg
  clear hg
  have q0 := hf.bh.cell 0
  have q3 := hf.bh.cell 3
  have p6 := hf.bp.cell 6
  have p7 := hf.bp.cell 7
  have p10 := hf.bp.cell 10
  have p13 := hf.bp.cell 13
  have p14 := hf.bp.cell 14
  go_wp2_with fail
  refine (hf.put (k := 4) (by omega) (by omega) (by omega) (by omega)).mono ?_
  clear q0 q3 p6 p7 p10 p13 p14
  rintro e wx ⟨rfl, hg⟩
  clear hf
  have hf := hg
  clear hg
  have q0 := hf.bh.cell 0
  have q3 := hf.bh.cell 3
  have p6 := hf.bp.cell 6
  have p7 := hf.bp.cell 7
  have p10 := hf.bp.cell 10
  have p13 := hf.bp.cell 13
  have p14 := hf.bp.cell 14
  go_wp2_with fail
  refine (hf.put (k := 2) (by omega) (by omega) (by omega) (by omega)).mono ?_
  clear q0 q3 p6 p7 p10 p13 p14
  rintro e wx ⟨rfl, hg⟩
  clear hf
  have hf := hg
  clear hg
  have q0 := hf.bh.cell 0
  have q3 := hf.bh.cell 3
  have p6 := hf.bp.cell 6
  have p7 := hf.bp.cell 7
  have p10 := hf.bp.cell 10
  have p13 := hf.bp.cell 13
  have p14 := hf.bp.cell 14
  go_wp2_with fail
  go_ret
  refine hf.end_ ?_
  have e := hF.out
  clear hF q0 q3 p6 p7 p10 p13 p14 hf
  rw [← e]
  simp [freeF, c17.out, c6.out, c17i.out, c6i.out, c1i.out]
set_option maxRecDepth 100000 in
set_option maxHeartbeats 4000000 in
theorem Free_in (h0 h1 h2 h3 h4 h5 pr sr ds fl ki co i0 i1 i2 i3 i4 i5 pa : Int) (er ba : Bool) (w : World) (F : Int → Int) (hs : 20 ≤ h0 ∧ h0 ≤ 60) (hi : 0 ≤ i0 ∧ i0 ≤ 60) (hp : 0 ≤ pa ∧ pa ≤ 1500)
    (hF : Hid (freeF ⟨h0, h1, h2, h3, h4, h5⟩ ⟨pr, sr, ds, fl, ki, co, er, ⟨i0, i1, i2, i3, i4, i5⟩, pa, ba⟩ false = F)) :
    Calls Try.prog 40 #[.agg #[.int .i64 h0, .int .i64 h1, .int .i64 h2, .int .i64 h3, .int .u32 h4, .int .u32 h5], .agg #[.int .i64 pr, .int .u16 sr, .int .u16 ds, .int .i64 fl, .int .i64 ki, .int .i64 co, .bool er, .int .i64 i0, .int .i64 i1, .int .i64 i2, .int .i64 i3, .int .u32 i4, .int .u32 i5, .int .i64 pa, .bool ba], .bool false] w (FreeR w F) := by
  by_cases c17 : h3 = 17
  · subst c17
    cases ba
    · go_enter Try.func40, Try.ntmps40
      go_upto_region 1 with fail
      have b1 := ((Blk.new w 47 #[.int .i64 h0, .int .i64 h1, .int .i64 h2, .int .i64 17, .int .u32 h4, .int .u32 h5]).alloc (.cells #[.int .i64 pr, .int .u16 sr, .int .u16 ds, .int .i64 fl, .int .i64 ki, .int .i64 co, .bool er, .int .i64 i0, .int .i64 i1, .int .i64 i2, .int .i64 i3, .int .u32 i4, .int .u32 i5, .int .i64 pa, .bool false] 73)).alloc (.map #[] 0)
      have b2 := (Blk.new (w.alloc (.cells #[.int .i64 h0, .int .i64 h1, .int .i64 h2, .int .i64 17, .int .u32 h4, .int .u32 h5] 47)) 73 #[.int .i64 pr, .int .u16 sr, .int .u16 ds, .int .i64 fl, .int .i64 ki, .int .i64 co, .bool er, .int .i64 i0, .int .i64 i1, .int .i64 i2, .int .i64 i3, .int .u32 i4, .int .u32 i5, .int .i64 pa, .bool false]).alloc (.map #[] 0)
      have bm := MapI.made ((w.alloc (.cells #[.int .i64 h0, .int .i64 h1, .int .i64 h2, .int .i64 17, .int .u32 h4, .int .u32 h5] 47)).alloc (.cells #[.int .i64 pr, .int .u16 sr, .int .u16 ds, .int .i64 fl, .int .i64 ki, .int .i64 co, .bool er, .int .i64 i0, .int .i64 i1, .int .i64 i2, .int .i64 i3, .int .u32 i4, .int .u32 i5, .int .i64 pa, .bool false] 73))
      have bl : Below w.heap.size w (((w.alloc (.cells #[.int .i64 h0, .int .i64 h1, .int .i64 h2, .int .i64 17, .int .u32 h4, .int .u32 h5] 47)).alloc (.cells #[.int .i64 pr, .int .u16 sr, .int .u16 ds, .int .i64 fl, .int .i64 ki, .int .i64 co, .bool er, .int .i64 i0, .int .i64 i1, .int .i64 i2, .int .i64 i3, .int .u32 i4, .int .u32 i5, .int .i64 pa, .bool false] 73)).alloc (.map #[] 0)) := ((bel_alloc _ _).alloc (by simp) _).alloc (by simp; omega) _
      rw [show (w.alloc (.cells #[.int .i64 h0, .int .i64 h1, .int .i64 h2, .int .i64 17, .int .u32 h4, .int .u32 h5] 47)).heap.size = w.heap.size + 1 by simp] at b2
      rw [show ((w.alloc (.cells #[.int .i64 h0, .int .i64 h1, .int .i64 h2, .int .i64 17, .int .u32 h4, .int .u32 h5] 47)).alloc (.cells #[.int .i64 pr, .int .u16 sr, .int .u16 ds, .int .i64 fl, .int .i64 ki, .int .i64 co, .bool er, .int .i64 i0, .int .i64 i1, .int .i64 i2, .int .i64 i3, .int .u32 i4, .int .u32 i5, .int .i64 pa, .bool false] 73)).heap.size = w.heap.size + 2 by simp] at bm
      have hf : FrS w _ (w.heap.size + 2) 0 _ #[.int .i64 h0, .int .i64 h1, .int .i64 h2, .int .i64 17, .int .u32 h4, .int .u32 h5] #[.int .i64 pr, .int .u16 sr, .int .u16 ds, .int .i64 fl, .int .i64 ki, .int .i64 co, .bool er, .int .i64 i0, .int .i64 i1, .int .i64 i2, .int .i64 i3, .int .u32 i4, .int .u32 i5, .int .i64 pa, .bool false] := ⟨b1, b2, bm, bl, by omega⟩
      clear b1 b2 bm bl
      have hmm := @run_makeMap Try.prog
      go_upto_if 15 with (refine wpList_mapPut _ rfl _ _ _ (.inr rfl) _ _ _ rfl hf.mp (by omega) _ _ rfl rfl (i64_inr (by omega)) (i64_inr (by omega)) ?_; intro w1 hm1 hu1; have hg := hf.step hm1 hu1; clear hf hm1 hu1; have hf := hg; clear hg)
      clear hmm
      have q0 := hf.bh.cell 0
      have q3 := hf.bh.cell 3
      have p6 := hf.bp.cell 6
      have p7 := hf.bp.cell 7
      have p10 := hf.bp.cell 10
      have p13 := hf.bp.cell 13
      have p14 := hf.bp.cell 14
      go_wp2_with fail
      refine (hf.put (k := 4) (by omega) (by omega) (by omega) (by omega)).mono ?_
      clear q0 q3 p6 p7 p10 p13 p14
      rintro e wx ⟨rfl, hg⟩
      clear hf
      have hf := hg
      clear hg
      have q0 := hf.bh.cell 0
      have q3 := hf.bh.cell 3
      have p6 := hf.bp.cell 6
      have p7 := hf.bp.cell 7
      have p10 := hf.bp.cell 10
      have p13 := hf.bp.cell 13
      have p14 := hf.bp.cell 14
      go_wp2_with fail
      refine (hf.put (k := 2) (by omega) (by omega) (by omega) (by omega)).mono ?_
      clear q0 q3 p6 p7 p10 p13 p14
      rintro e wx ⟨rfl, hg⟩
      clear hf
      have hf := hg
      clear hg
      have q0 := hf.bh.cell 0
      have q3 := hf.bh.cell 3
      have p6 := hf.bp.cell 6
      have p7 := hf.bp.cell 7
      have p10 := hf.bp.cell 10
      have p13 := hf.bp.cell 13
      have p14 := hf.bp.cell 14
      go_wp2_with fail
      refine (hf.put (k := 2) (by omega) (by omega) (by omega) (by omega)).mono ?_
      clear q0 q3 p6 p7 p10 p13 p14
      rintro e wx ⟨rfl, hg⟩
      clear hf
      have hf := hg
      clear hg
      have q0 := hf.bh.cell 0
      have q3 := hf.bh.cell 3
      have p6 := hf.bp.cell 6
      have p7 := hf.bp.cell 7
      have p10 := hf.bp.cell 10
      have p13 := hf.bp.cell 13
      have p14 := hf.bp.cell 14
      go_wp2_with fail
      go_ret
      refine hf.end_ ?_
      have e := hF.out
      clear hF q0 q3 p6 p7 p10 p13 p14 hf
      rw [← e]
      simp [freeF, show (17:Int) = 17 from rfl]
    · go_enter Try.func40, Try.ntmps40
      go_upto_region 1 with fail
      have b1 := ((Blk.new w 47 #[.int .i64 h0, .int .i64 h1, .int .i64 h2, .int .i64 17, .int .u32 h4, .int .u32 h5]).alloc (.cells #[.int .i64 pr, .int .u16 sr, .int .u16 ds, .int .i64 fl, .int .i64 ki, .int .i64 co, .bool er, .int .i64 i0, .int .i64 i1, .int .i64 i2, .int .i64 i3, .int .u32 i4, .int .u32 i5, .int .i64 pa, .bool true] 73)).alloc (.map #[] 0)
      have b2 := (Blk.new (w.alloc (.cells #[.int .i64 h0, .int .i64 h1, .int .i64 h2, .int .i64 17, .int .u32 h4, .int .u32 h5] 47)) 73 #[.int .i64 pr, .int .u16 sr, .int .u16 ds, .int .i64 fl, .int .i64 ki, .int .i64 co, .bool er, .int .i64 i0, .int .i64 i1, .int .i64 i2, .int .i64 i3, .int .u32 i4, .int .u32 i5, .int .i64 pa, .bool true]).alloc (.map #[] 0)
      have bm := MapI.made ((w.alloc (.cells #[.int .i64 h0, .int .i64 h1, .int .i64 h2, .int .i64 17, .int .u32 h4, .int .u32 h5] 47)).alloc (.cells #[.int .i64 pr, .int .u16 sr, .int .u16 ds, .int .i64 fl, .int .i64 ki, .int .i64 co, .bool er, .int .i64 i0, .int .i64 i1, .int .i64 i2, .int .i64 i3, .int .u32 i4, .int .u32 i5, .int .i64 pa, .bool true] 73))
      have bl : Below w.heap.size w (((w.alloc (.cells #[.int .i64 h0, .int .i64 h1, .int .i64 h2, .int .i64 17, .int .u32 h4, .int .u32 h5] 47)).alloc (.cells #[.int .i64 pr, .int .u16 sr, .int .u16 ds, .int .i64 fl, .int .i64 ki, .int .i64 co, .bool er, .int .i64 i0, .int .i64 i1, .int .i64 i2, .int .i64 i3, .int .u32 i4, .int .u32 i5, .int .i64 pa, .bool true] 73)).alloc (.map #[] 0)) := ((bel_alloc _ _).alloc (by simp) _).alloc (by simp; omega) _
      rw [show (w.alloc (.cells #[.int .i64 h0, .int .i64 h1, .int .i64 h2, .int .i64 17, .int .u32 h4, .int .u32 h5] 47)).heap.size = w.heap.size + 1 by simp] at b2
      rw [show ((w.alloc (.cells #[.int .i64 h0, .int .i64 h1, .int .i64 h2, .int .i64 17, .int .u32 h4, .int .u32 h5] 47)).alloc (.cells #[.int .i64 pr, .int .u16 sr, .int .u16 ds, .int .i64 fl, .int .i64 ki, .int .i64 co, .bool er, .int .i64 i0, .int .i64 i1, .int .i64 i2, .int .i64 i3, .int .u32 i4, .int .u32 i5, .int .i64 pa, .bool true] 73)).heap.size = w.heap.size + 2 by simp] at bm
      have hf : FrS w _ (w.heap.size + 2) 0 _ #[.int .i64 h0, .int .i64 h1, .int .i64 h2, .int .i64 17, .int .u32 h4, .int .u32 h5] #[.int .i64 pr, .int .u16 sr, .int .u16 ds, .int .i64 fl, .int .i64 ki, .int .i64 co, .bool er, .int .i64 i0, .int .i64 i1, .int .i64 i2, .int .i64 i3, .int .u32 i4, .int .u32 i5, .int .i64 pa, .bool true] := ⟨b1, b2, bm, bl, by omega⟩
      clear b1 b2 bm bl
      have hmm := @run_makeMap Try.prog
      go_upto_if 15 with (refine wpList_mapPut _ rfl _ _ _ (.inr rfl) _ _ _ rfl hf.mp (by omega) _ _ rfl rfl (i64_inr (by omega)) (i64_inr (by omega)) ?_; intro w1 hm1 hu1; have hg := hf.step hm1 hu1; clear hf hm1 hu1; have hf := hg; clear hg)
      clear hmm
      have q0 := hf.bh.cell 0
      have q3 := hf.bh.cell 3
      have p6 := hf.bp.cell 6
      have p7 := hf.bp.cell 7
      have p10 := hf.bp.cell 10
      have p13 := hf.bp.cell 13
      have p14 := hf.bp.cell 14
      go_wp2_with fail
      refine (hf.put (k := 4) (by omega) (by omega) (by omega) (by omega)).mono ?_
      clear q0 q3 p6 p7 p10 p13 p14
      rintro e wx ⟨rfl, hg⟩
      clear hf
      have hf := hg
      clear hg
      have q0 := hf.bh.cell 0
      have q3 := hf.bh.cell 3
      have p6 := hf.bp.cell 6
      have p7 := hf.bp.cell 7
      have p10 := hf.bp.cell 10
      have p13 := hf.bp.cell 13
      have p14 := hf.bp.cell 14
      go_wp2_with fail
      refine (hf.put (k := 2) (by omega) (by omega) (by omega) (by omega)).mono ?_
      clear q0 q3 p6 p7 p10 p13 p14
      rintro e wx ⟨rfl, hg⟩
      clear hf
      have hf := hg
      clear hg
      have q0 := hf.bh.cell 0
      have q3 := hf.bh.cell 3
      have p6 := hf.bp.cell 6
      have p7 := hf.bp.cell 7
      have p10 := hf.bp.cell 10
      have p13 := hf.bp.cell 13
      have p14 := hf.bp.cell 14
      go_wp2_with fail
      go_ret
      refine hf.end_ ?_
      have e := hF.out
      clear hF q0 q3 p6 p7 p10 p13 p14 hf
      rw [← e]
      simp [freeF, show (17:Int) = 17 from rfl]
  have d17 : (h3 == 17) = false := by simpa using c17
  by_cases c6 : h3 = 6
  · subst c6
    clear c17 d17
    go_enter Try.func40, Try.ntmps40
    go_upto_region 1 with fail
    have b1 := ((Blk.new w 47 #[.int .i64 h0, .int .i64 h1, .int .i64 h2, .int .i64 6, .int .u32 h4, .int .u32 h5]).alloc (.cells #[.int .i64 pr, .int .u16 sr, .int .u16 ds, .int .i64 fl, .int .i64 ki, .int .i64 co, .bool er, .int .i64 i0, .int .i64 i1, .int .i64 i2, .int .i64 i3, .int .u32 i4, .int .u32 i5, .int .i64 pa, .bool ba] 73)).alloc (.map #[] 0)
    have b2 := (Blk.new (w.alloc (.cells #[.int .i64 h0, .int .i64 h1, .int .i64 h2, .int .i64 6, .int .u32 h4, .int .u32 h5] 47)) 73 #[.int .i64 pr, .int .u16 sr, .int .u16 ds, .int .i64 fl, .int .i64 ki, .int .i64 co, .bool er, .int .i64 i0, .int .i64 i1, .int .i64 i2, .int .i64 i3, .int .u32 i4, .int .u32 i5, .int .i64 pa, .bool ba]).alloc (.map #[] 0)
    have bm := MapI.made ((w.alloc (.cells #[.int .i64 h0, .int .i64 h1, .int .i64 h2, .int .i64 6, .int .u32 h4, .int .u32 h5] 47)).alloc (.cells #[.int .i64 pr, .int .u16 sr, .int .u16 ds, .int .i64 fl, .int .i64 ki, .int .i64 co, .bool er, .int .i64 i0, .int .i64 i1, .int .i64 i2, .int .i64 i3, .int .u32 i4, .int .u32 i5, .int .i64 pa, .bool ba] 73))
    have bl : Below w.heap.size w (((w.alloc (.cells #[.int .i64 h0, .int .i64 h1, .int .i64 h2, .int .i64 6, .int .u32 h4, .int .u32 h5] 47)).alloc (.cells #[.int .i64 pr, .int .u16 sr, .int .u16 ds, .int .i64 fl, .int .i64 ki, .int .i64 co, .bool er, .int .i64 i0, .int .i64 i1, .int .i64 i2, .int .i64 i3, .int .u32 i4, .int .u32 i5, .int .i64 pa, .bool ba] 73)).alloc (.map #[] 0)) := ((bel_alloc _ _).alloc (by simp) _).alloc (by simp; omega) _
    rw [show (w.alloc (.cells #[.int .i64 h0, .int .i64 h1, .int .i64 h2, .int .i64 6, .int .u32 h4, .int .u32 h5] 47)).heap.size = w.heap.size + 1 by simp] at b2
    rw [show ((w.alloc (.cells #[.int .i64 h0, .int .i64 h1, .int .i64 h2, .int .i64 6, .int .u32 h4, .int .u32 h5] 47)).alloc (.cells #[.int .i64 pr, .int .u16 sr, .int .u16 ds, .int .i64 fl, .int .i64 ki, .int .i64 co, .bool er, .int .i64 i0, .int .i64 i1, .int .i64 i2, .int .i64 i3, .int .u32 i4, .int .u32 i5, .int .i64 pa, .bool ba] 73)).heap.size = w.heap.size + 2 by simp] at bm
    have hf : FrS w _ (w.heap.size + 2) 0 _ #[.int .i64 h0, .int .i64 h1, .int .i64 h2, .int .i64 6, .int .u32 h4, .int .u32 h5] #[.int .i64 pr, .int .u16 sr, .int .u16 ds, .int .i64 fl, .int .i64 ki, .int .i64 co, .bool er, .int .i64 i0, .int .i64 i1, .int .i64 i2, .int .i64 i3, .int .u32 i4, .int .u32 i5, .int .i64 pa, .bool ba] := ⟨b1, b2, bm, bl, by omega⟩
    clear b1 b2 bm bl
    have hmm := @run_makeMap Try.prog
    go_upto_if 15 with (refine wpList_mapPut _ rfl _ _ _ (.inr rfl) _ _ _ rfl hf.mp (by omega) _ _ rfl rfl (i64_inr (by omega)) (i64_inr (by omega)) ?_; intro w1 hm1 hu1; have hg := hf.step hm1 hu1; clear hf hm1 hu1; have hf := hg; clear hg)
    clear hmm
    have q0 := hf.bh.cell 0
    have q3 := hf.bh.cell 3
    have p6 := hf.bp.cell 6
    have p7 := hf.bp.cell 7
    have p10 := hf.bp.cell 10
    have p13 := hf.bp.cell 13
    have p14 := hf.bp.cell 14
    go_wp2_with fail
    refine (hf.put (k := 4) (by omega) (by omega) (by omega) (by omega)).mono ?_
    clear q0 q3 p6 p7 p10 p13 p14
    rintro e wx ⟨rfl, hg⟩
    clear hf
    have hf := hg
    clear hg
    have q0 := hf.bh.cell 0
    have q3 := hf.bh.cell 3
    have p6 := hf.bp.cell 6
    have p7 := hf.bp.cell 7
    have p10 := hf.bp.cell 10
    have p13 := hf.bp.cell 13
    have p14 := hf.bp.cell 14
    go_wp2_with fail
    refine (hf.put (k := 2) (by omega) (by omega) (by omega) (by omega)).mono ?_
    clear q0 q3 p6 p7 p10 p13 p14
    rintro e wx ⟨rfl, hg⟩
    clear hf
    have hf := hg
    clear hg
    have q0 := hf.bh.cell 0
    have q3 := hf.bh.cell 3
    have p6 := hf.bp.cell 6
    have p7 := hf.bp.cell 7
    have p10 := hf.bp.cell 10
    have p13 := hf.bp.cell 13
    have p14 := hf.bp.cell 14
    go_wp2_with fail
    refine (hf.put (k := 2) (by omega) (by omega) (by omega) (by omega)).mono ?_
    clear q0 q3 p6 p7 p10 p13 p14
    rintro e wx ⟨rfl, hg⟩
    clear hf
    have hf := hg
    clear hg
    have q0 := hf.bh.cell 0
    have q3 := hf.bh.cell 3
    have p6 := hf.bp.cell 6
    have p7 := hf.bp.cell 7
    have p10 := hf.bp.cell 10
    have p13 := hf.bp.cell 13
    have p14 := hf.bp.cell 14
    go_wp2_with fail
    go_ret
    refine hf.end_ ?_
    have e := hF.out
    clear hF q0 q3 p6 p7 p10 p13 p14 hf
    rw [← e]
    simp [freeF, show (6:Int) = 6 from rfl]
  have d6 : (h3 == 6) = false := by simpa using c6
  replace c17 := Lib.hid c17
  replace c6 := Lib.hid c6
  cases er
  · go_enter Try.func40, Try.ntmps40
    go_upto_region 1 with fail
    have b1 := ((Blk.new w 47 #[.int .i64 h0, .int .i64 h1, .int .i64 h2, .int .i64 h3, .int .u32 h4, .int .u32 h5]).alloc (.cells #[.int .i64 pr, .int .u16 sr, .int .u16 ds, .int .i64 fl, .int .i64 ki, .int .i64 co, .bool false, .int .i64 i0, .int .i64 i1, .int .i64 i2, .int .i64 i3, .int .u32 i4, .int .u32 i5, .int .i64 pa, .bool ba] 73)).alloc (.map #[] 0)
    have b2 := (Blk.new (w.alloc (.cells #[.int .i64 h0, .int .i64 h1, .int .i64 h2, .int .i64 h3, .int .u32 h4, .int .u32 h5] 47)) 73 #[.int .i64 pr, .int .u16 sr, .int .u16 ds, .int .i64 fl, .int .i64 ki, .int .i64 co, .bool false, .int .i64 i0, .int .i64 i1, .int .i64 i2, .int .i64 i3, .int .u32 i4, .int .u32 i5, .int .i64 pa, .bool ba]).alloc (.map #[] 0)
    have bm := MapI.made ((w.alloc (.cells #[.int .i64 h0, .int .i64 h1, .int .i64 h2, .int .i64 h3, .int .u32 h4, .int .u32 h5] 47)).alloc (.cells #[.int .i64 pr, .int .u16 sr, .int .u16 ds, .int .i64 fl, .int .i64 ki, .int .i64 co, .bool false, .int .i64 i0, .int .i64 i1, .int .i64 i2, .int .i64 i3, .int .u32 i4, .int .u32 i5, .int .i64 pa, .bool ba] 73))
    have bl : Below w.heap.size w (((w.alloc (.cells #[.int .i64 h0, .int .i64 h1, .int .i64 h2, .int .i64 h3, .int .u32 h4, .int .u32 h5] 47)).alloc (.cells #[.int .i64 pr, .int .u16 sr, .int .u16 ds, .int .i64 fl, .int .i64 ki, .int .i64 co, .bool false, .int .i64 i0, .int .i64 i1, .int .i64 i2, .int .i64 i3, .int .u32 i4, .int .u32 i5, .int .i64 pa, .bool ba] 73)).alloc (.map #[] 0)) := ((bel_alloc _ _).alloc (by simp) _).alloc (by simp; omega) _
    rw [show (w.alloc (.cells #[.int .i64 h0, .int .i64 h1, .int .i64 h2, .int .i64 h3, .int .u32 h4, .int .u32 h5] 47)).heap.size = w.heap.size + 1 by simp] at b2
    rw [show ((w.alloc (.cells #[.int .i64 h0, .int .i64 h1, .int .i64 h2, .int .i64 h3, .int .u32 h4, .int .u32 h5] 47)).alloc (.cells #[.int .i64 pr, .int .u16 sr, .int .u16 ds, .int .i64 fl, .int .i64 ki, .int .i64 co, .bool false, .int .i64 i0, .int .i64 i1, .int .i64 i2, .int .i64 i3, .int .u32 i4, .int .u32 i5, .int .i64 pa, .bool ba] 73)).heap.size = w.heap.size + 2 by simp] at bm
    have hf : FrS w _ (w.heap.size + 2) 0 _ #[.int .i64 h0, .int .i64 h1, .int .i64 h2, .int .i64 h3, .int .u32 h4, .int .u32 h5] #[.int .i64 pr, .int .u16 sr, .int .u16 ds, .int .i64 fl, .int .i64 ki, .int .i64 co, .bool false, .int .i64 i0, .int .i64 i1, .int .i64 i2, .int .i64 i3, .int .u32 i4, .int .u32 i5, .int .i64 pa, .bool ba] := ⟨b1, b2, bm, bl, by omega⟩
    clear b1 b2 bm bl
    have hmm := @run_makeMap Try.prog
    go_upto_if 15 with (refine wpList_mapPut _ rfl _ _ _ (.inr rfl) _ _ _ rfl hf.mp (by omega) _ _ rfl rfl (i64_inr (by omega)) (i64_inr (by omega)) ?_; intro w1 hm1 hu1; have hg := hf.step hm1 hu1; clear hf hm1 hu1; have hf := hg; clear hg)
    clear hmm
    have q0 := hf.bh.cell 0
    have q3 := hf.bh.cell 3
    have p6 := hf.bp.cell 6
    have p7 := hf.bp.cell 7
    have p10 := hf.bp.cell 10
    have p13 := hf.bp.cell 13
    have p14 := hf.bp.cell 14
    go_wp2_with fail
    refine (hf.put (k := 4) (by omega) (by omega) (by omega) (by omega)).mono ?_
    clear q0 q3 p6 p7 p10 p13 p14
    rintro e wx ⟨rfl, hg⟩
    clear hf
    have hf := hg
    clear hg
    have q0 := hf.bh.cell 0
    have q3 := hf.bh.cell 3
    have p6 := hf.bp.cell 6
    have p7 := hf.bp.cell 7
    have p10 := hf.bp.cell 10
    have p13 := hf.bp.cell 13
    have p14 := hf.bp.cell 14
    go_wp2_with fail
    refine (hf.put (k := 2) (by omega) (by omega) (by omega) (by omega)).mono ?_
    clear q0 q3 p6 p7 p10 p13 p14
    rintro e wx ⟨rfl, hg⟩
    clear hf
    have hf := hg
    clear hg
    have q0 := hf.bh.cell 0
    have q3 := hf.bh.cell 3
    have p6 := hf.bp.cell 6
    have p7 := hf.bp.cell 7
    have p10 := hf.bp.cell 10
    have p13 := hf.bp.cell 13
    have p14 := hf.bp.cell 14
    go_wp2_with fail
    refine (hf.put (k := 2) (by omega) (by omega) (by omega) (by omega)).mono ?_
    clear q0 q3 p6 p7 p10 p13 p14
    rintro e wx ⟨rfl, hg⟩
    clear hf
    have hf := hg
    clear hg
    have q0 := hf.bh.cell 0
    have q3 := hf.bh.cell 3
    have p6 := hf.bp.cell 6
    have p7 := hf.bp.cell 7
    have p10 := hf.bp.cell 10
    have p13 := hf.bp.cell 13
    have p14 := hf.bp.cell 14
    go_wp2_with fail
    go_ret
    refine hf.end_ ?_
    have e := hF.out
    clear hF q0 q3 p6 p7 p10 p13 p14 hf
    rw [← e]
    simp [freeF, c17.out, c6.out]
  by_cases c17i : i3 = 17
  · subst c17i
    go_enter Try.func40, Try.ntmps40
    go_upto_region 1 with fail
    have b1 := ((Blk.new w 47 #[.int .i64 h0, .int .i64 h1, .int .i64 h2, .int .i64 h3, .int .u32 h4, .int .u32 h5]).alloc (.cells #[.int .i64 pr, .int .u16 sr, .int .u16 ds, .int .i64 fl, .int .i64 ki, .int .i64 co, .bool true, .int .i64 i0, .int .i64 i1, .int .i64 i2, .int .i64 17, .int .u32 i4, .int .u32 i5, .int .i64 pa, .bool ba] 73)).alloc (.map #[] 0)
    have b2 := (Blk.new (w.alloc (.cells #[.int .i64 h0, .int .i64 h1, .int .i64 h2, .int .i64 h3, .int .u32 h4, .int .u32 h5] 47)) 73 #[.int .i64 pr, .int .u16 sr, .int .u16 ds, .int .i64 fl, .int .i64 ki, .int .i64 co, .bool true, .int .i64 i0, .int .i64 i1, .int .i64 i2, .int .i64 17, .int .u32 i4, .int .u32 i5, .int .i64 pa, .bool ba]).alloc (.map #[] 0)
    have bm := MapI.made ((w.alloc (.cells #[.int .i64 h0, .int .i64 h1, .int .i64 h2, .int .i64 h3, .int .u32 h4, .int .u32 h5] 47)).alloc (.cells #[.int .i64 pr, .int .u16 sr, .int .u16 ds, .int .i64 fl, .int .i64 ki, .int .i64 co, .bool true, .int .i64 i0, .int .i64 i1, .int .i64 i2, .int .i64 17, .int .u32 i4, .int .u32 i5, .int .i64 pa, .bool ba] 73))
    have bl : Below w.heap.size w (((w.alloc (.cells #[.int .i64 h0, .int .i64 h1, .int .i64 h2, .int .i64 h3, .int .u32 h4, .int .u32 h5] 47)).alloc (.cells #[.int .i64 pr, .int .u16 sr, .int .u16 ds, .int .i64 fl, .int .i64 ki, .int .i64 co, .bool true, .int .i64 i0, .int .i64 i1, .int .i64 i2, .int .i64 17, .int .u32 i4, .int .u32 i5, .int .i64 pa, .bool ba] 73)).alloc (.map #[] 0)) := ((bel_alloc _ _).alloc (by simp) _).alloc (by simp; omega) _
    rw [show (w.alloc (.cells #[.int .i64 h0, .int .i64 h1, .int .i64 h2, .int .i64 h3, .int .u32 h4, .int .u32 h5] 47)).heap.size = w.heap.size + 1 by simp] at b2
    rw [show ((w.alloc (.cells #[.int .i64 h0, .int .i64 h1, .int .i64 h2, .int .i64 h3, .int .u32 h4, .int .u32 h5] 47)).alloc (.cells #[.int .i64 pr, .int .u16 sr, .int .u16 ds, .int .i64 fl, .int .i64 ki, .int .i64 co, .bool true, .int .i64 i0, .int .i64 i1, .int .i64 i2, .int .i64 17, .int .u32 i4, .int .u32 i5, .int .i64 pa, .bool ba] 73)).heap.size = w.heap.size + 2 by simp] at bm
    have hf : FrS w _ (w.heap.size + 2) 0 _ #[.int .i64 h0, .int .i64 h1, .int .i64 h2, .int .i64 h3, .int .u32 h4, .int .u32 h5] #[.int .i64 pr, .int .u16 sr, .int .u16 ds, .int .i64 fl, .int .i64 ki, .int .i64 co, .bool true, .int .i64 i0, .int .i64 i1, .int .i64 i2, .int .i64 17, .int .u32 i4, .int .u32 i5, .int .i64 pa, .bool ba] := ⟨b1, b2, bm, bl, by omega⟩
    clear b1 b2 bm bl
    have hmm := @run_makeMap Try.prog
    go_upto_if 15 with (refine wpList_mapPut _ rfl _ _ _ (.inr rfl) _ _ _ rfl hf.mp (by omega) _ _ rfl rfl (i64_inr (by omega)) (i64_inr (by omega)) ?_; intro w1 hm1 hu1; have hg := hf.step hm1 hu1; clear hf hm1 hu1; have hf := hg; clear hg)
    clear hmm
    have q0 := hf.bh.cell 0
    have q3 := hf.bh.cell 3
    have p6 := hf.bp.cell 6
    have p7 := hf.bp.cell 7
    have p10 := hf.bp.cell 10
    have p13 := hf.bp.cell 13
    have p14 := hf.bp.cell 14
    go_wp2_with fail
    refine (hf.put (k := 4) (by omega) (by omega) (by omega) (by omega)).mono ?_
    clear q0 q3 p6 p7 p10 p13 p14
    rintro e wx ⟨rfl, hg⟩
    clear hf
    have hf := hg
    clear hg
    have q0 := hf.bh.cell 0
    have q3 := hf.bh.cell 3
    have p6 := hf.bp.cell 6
    have p7 := hf.bp.cell 7
    have p10 := hf.bp.cell 10
    have p13 := hf.bp.cell 13
    have p14 := hf.bp.cell 14
    go_wp2_with fail
    refine (hf.put (k := 2) (by omega) (by omega) (by omega) (by omega)).mono ?_
    clear q0 q3 p6 p7 p10 p13 p14
    rintro e wx ⟨rfl, hg⟩
    clear hf
    have hf := hg
    clear hg
    go_upto_region 7 with fail
    have z0 : ∀ t : Tw (Up wx), t.w.cell? ⟨w.heap.size + 1, 13, none⟩ = some (.int .i64 pa) := fun t => hf.bp.up t 13
    have z1 : ∀ t : Tw (Up wx), t.w.cell? ⟨w.heap.size + 1, 7, none⟩ = some (.int .i64 i0) := fun t => hf.bp.up t 7
    have zz := Up.one wx
    refine region_tw (Up wx) (by kernel_rfl) (by kernel_rfl) (Up.rfl_ wx).drew ?_
    unfold clsS
    repeat (first
      | go_big_quiet_skip
      | (go_big_quiet_want; go_big_quiet_op; go_big_quiet_on))
    refine wpQuiet_nil ?_
    intro tq
    clear z0 z1 zz
    have hg : FrS w tq.w _ _ _ _ _ := hf.bel_ tq.h
    clear hf
    have hf := hg
    clear hg
    have q0 := hf.bh.cell 0
    have q3 := hf.bh.cell 3
    have p6 := hf.bp.cell 6
    have p7 := hf.bp.cell 7
    have p10 := hf.bp.cell 10
    have p13 := hf.bp.cell 13
    have p14 := hf.bp.cell 14
    go_wp2_with fail
    refine (hf.put (k := 4) (by omega) (by omega) (by omega) (by omega)).mono ?_
    clear q0 q3 p6 p7 p10 p13 p14
    rintro e wx ⟨rfl, hg⟩
    clear hf
    have hf := hg
    clear hg
    have q0 := hf.bh.cell 0
    have q3 := hf.bh.cell 3
    have p6 := hf.bp.cell 6
    have p7 := hf.bp.cell 7
    have p10 := hf.bp.cell 10
    have p13 := hf.bp.cell 13
    have p14 := hf.bp.cell 14
    go_wp2_with fail
    refine (hf.put (k := 2) (by omega) (by omega) (by omega) (by omega)).mono ?_
    clear q0 q3 p6 p7 p10 p13 p14
    rintro e wx ⟨rfl, hg⟩
    clear hf
    have hf := hg
    clear hg
    have q0 := hf.bh.cell 0
    have q3 := hf.bh.cell 3
    have p6 := hf.bp.cell 6
    have p7 := hf.bp.cell 7
    have p10 := hf.bp.cell 10
    have p13 := hf.bp.cell 13
    have p14 := hf.bp.cell 14
    go_wp2_with fail
    refine (hf.put (k := 2) (by omega) (by omega) (by omega) (by omega)).mono ?_
    clear q0 q3 p6 p7 p10 p13 p14
    rintro e wx ⟨rfl, hg⟩
    clear hf
    have hf := hg
    clear hg
    have q0 := hf.bh.cell 0
    have q3 := hf.bh.cell 3
    have p6 := hf.bp.cell 6
    have p7 := hf.bp.cell 7
    have p10 := hf.bp.cell 10
    have p13 := hf.bp.cell 13
    have p14 := hf.bp.cell 14
    go_wp2_with fail
    refine (hf.put (k := 2) (by omega) (by omega) (by omega) (by omega)).mono ?_
    clear q0 q3 p6 p7 p10 p13 p14
    rintro e wx ⟨rfl, hg⟩
    clear hf
    have hf := hg
    clear hg
    have q0 := hf.bh.cell 0
    have q3 := hf.bh.cell 3
    have p6 := hf.bp.cell 6
    have p7 := hf.bp.cell 7
    have p10 := hf.bp.cell 10
    have p13 := hf.bp.cell 13
    have p14 := hf.bp.cell 14
    go_wp2_with fail
    go_ret
    refine hf.end_ ?_
    have e := hF.out
    clear hF q0 q3 p6 p7 p10 p13 p14 hf
    rw [← e]
    simp [freeF, c17.out, c6.out]
  have d17i : (i3 == 17) = false := by simpa using c17i
  by_cases c6i : i3 = 6
  · subst c6i
    clear c17i d17i
    go_enter Try.func40, Try.ntmps40
    go_upto_region 1 with fail
    have b1 := ((Blk.new w 47 #[.int .i64 h0, .int .i64 h1, .int .i64 h2, .int .i64 h3, .int .u32 h4, .int .u32 h5]).alloc (.cells #[.int .i64 pr, .int .u16 sr, .int .u16 ds, .int .i64 fl, .int .i64 ki, .int .i64 co, .bool true, .int .i64 i0, .int .i64 i1, .int .i64 i2, .int .i64 6, .int .u32 i4, .int .u32 i5, .int .i64 pa, .bool ba] 73)).alloc (.map #[] 0)
    have b2 := (Blk.new (w.alloc (.cells #[.int .i64 h0, .int .i64 h1, .int .i64 h2, .int .i64 h3, .int .u32 h4, .int .u32 h5] 47)) 73 #[.int .i64 pr, .int .u16 sr, .int .u16 ds, .int .i64 fl, .int .i64 ki, .int .i64 co, .bool true, .int .i64 i0, .int .i64 i1, .int .i64 i2, .int .i64 6, .int .u32 i4, .int .u32 i5, .int .i64 pa, .bool ba]).alloc (.map #[] 0)
    have bm := MapI.made ((w.alloc (.cells #[.int .i64 h0, .int .i64 h1, .int .i64 h2, .int .i64 h3, .int .u32 h4, .int .u32 h5] 47)).alloc (.cells #[.int .i64 pr, .int .u16 sr, .int .u16 ds, .int .i64 fl, .int .i64 ki, .int .i64 co, .bool true, .int .i64 i0, .int .i64 i1, .int .i64 i2, .int .i64 6, .int .u32 i4, .int .u32 i5, .int .i64 pa, .bool ba] 73))
    have bl : Below w.heap.size w (((w.alloc (.cells #[.int .i64 h0, .int .i64 h1, .int .i64 h2, .int .i64 h3, .int .u32 h4, .int .u32 h5] 47)).alloc (.cells #[.int .i64 pr, .int .u16 sr, .int .u16 ds, .int .i64 fl, .int .i64 ki, .int .i64 co, .bool true, .int .i64 i0, .int .i64 i1, .int .i64 i2, .int .i64 6, .int .u32 i4, .int .u32 i5, .int .i64 pa, .bool ba] 73)).alloc (.map #[] 0)) := ((bel_alloc _ _).alloc (by simp) _).alloc (by simp; omega) _
    rw [show (w.alloc (.cells #[.int .i64 h0, .int .i64 h1, .int .i64 h2, .int .i64 h3, .int .u32 h4, .int .u32 h5] 47)).heap.size = w.heap.size + 1 by simp] at b2
    rw [show ((w.alloc (.cells #[.int .i64 h0, .int .i64 h1, .int .i64 h2, .int .i64 h3, .int .u32 h4, .int .u32 h5] 47)).alloc (.cells #[.int .i64 pr, .int .u16 sr, .int .u16 ds, .int .i64 fl, .int .i64 ki, .int .i64 co, .bool true, .int .i64 i0, .int .i64 i1, .int .i64 i2, .int .i64 6, .int .u32 i4, .int .u32 i5, .int .i64 pa, .bool ba] 73)).heap.size = w.heap.size + 2 by simp] at bm
    have hf : FrS w _ (w.heap.size + 2) 0 _ #[.int .i64 h0, .int .i64 h1, .int .i64 h2, .int .i64 h3, .int .u32 h4, .int .u32 h5] #[.int .i64 pr, .int .u16 sr, .int .u16 ds, .int .i64 fl, .int .i64 ki, .int .i64 co, .bool true, .int .i64 i0, .int .i64 i1, .int .i64 i2, .int .i64 6, .int .u32 i4, .int .u32 i5, .int .i64 pa, .bool ba] := ⟨b1, b2, bm, bl, by omega⟩
    clear b1 b2 bm bl
    have hmm := @run_makeMap Try.prog
    go_upto_if 15 with (refine wpList_mapPut _ rfl _ _ _ (.inr rfl) _ _ _ rfl hf.mp (by omega) _ _ rfl rfl (i64_inr (by omega)) (i64_inr (by omega)) ?_; intro w1 hm1 hu1; have hg := hf.step hm1 hu1; clear hf hm1 hu1; have hf := hg; clear hg)
    clear hmm
    have q0 := hf.bh.cell 0
    have q3 := hf.bh.cell 3
    have p6 := hf.bp.cell 6
    have p7 := hf.bp.cell 7
    have p10 := hf.bp.cell 10
    have p13 := hf.bp.cell 13
    have p14 := hf.bp.cell 14
    go_wp2_with fail
    refine (hf.put (k := 4) (by omega) (by omega) (by omega) (by omega)).mono ?_
    clear q0 q3 p6 p7 p10 p13 p14
    rintro e wx ⟨rfl, hg⟩
    clear hf
    have hf := hg
    clear hg
    have q0 := hf.bh.cell 0
    have q3 := hf.bh.cell 3
    have p6 := hf.bp.cell 6
    have p7 := hf.bp.cell 7
    have p10 := hf.bp.cell 10
    have p13 := hf.bp.cell 13
    have p14 := hf.bp.cell 14
    go_wp2_with fail
    refine (hf.put (k := 2) (by omega) (by omega) (by omega) (by omega)).mono ?_
    clear q0 q3 p6 p7 p10 p13 p14
    rintro e wx ⟨rfl, hg⟩
    clear hf
    have hf := hg
    clear hg
    go_upto_region 7 with fail
    have z0 : ∀ t : Tw (Up wx), t.w.cell? ⟨w.heap.size + 1, 13, none⟩ = some (.int .i64 pa) := fun t => hf.bp.up t 13
    have z1 : ∀ t : Tw (Up wx), t.w.cell? ⟨w.heap.size + 1, 7, none⟩ = some (.int .i64 i0) := fun t => hf.bp.up t 7
    have zz := Up.one wx
    refine region_tw (Up wx) (by kernel_rfl) (by kernel_rfl) (Up.rfl_ wx).drew ?_
    unfold clsS
    repeat (first
      | go_big_quiet_skip
      | (go_big_quiet_want; go_big_quiet_op; go_big_quiet_on))
    refine wpQuiet_nil ?_
    intro tq
    clear z0 z1 zz
    have hg : FrS w tq.w _ _ _ _ _ := hf.bel_ tq.h
    clear hf
    have hf := hg
    clear hg
    have q0 := hf.bh.cell 0
    have q3 := hf.bh.cell 3
    have p6 := hf.bp.cell 6
    have p7 := hf.bp.cell 7
    have p10 := hf.bp.cell 10
    have p13 := hf.bp.cell 13
    have p14 := hf.bp.cell 14
    go_wp2_with fail
    refine (hf.put (k := 4) (by omega) (by omega) (by omega) (by omega)).mono ?_
    clear q0 q3 p6 p7 p10 p13 p14
    rintro e wx ⟨rfl, hg⟩
    clear hf
    have hf := hg
    clear hg
    have q0 := hf.bh.cell 0
    have q3 := hf.bh.cell 3
    have p6 := hf.bp.cell 6
    have p7 := hf.bp.cell 7
    have p10 := hf.bp.cell 10
    have p13 := hf.bp.cell 13
    have p14 := hf.bp.cell 14
    go_wp2_with fail
    refine (hf.put (k := 2) (by omega) (by omega) (by omega) (by omega)).mono ?_
    clear q0 q3 p6 p7 p10 p13 p14
    rintro e wx ⟨rfl, hg⟩
    clear hf
    have hf := hg
    clear hg
    have q0 := hf.bh.cell 0
    have q3 := hf.bh.cell 3
    have p6 := hf.bp.cell 6
    have p7 := hf.bp.cell 7
    have p10 := hf.bp.cell 10
    have p13 := hf.bp.cell 13
    have p14 := hf.bp.cell 14
    go_wp2_with fail
    refine (hf.put (k := 2) (by omega) (by omega) (by omega) (by omega)).mono ?_
    clear q0 q3 p6 p7 p10 p13 p14
    rintro e wx ⟨rfl, hg⟩
    clear hf
    have hf := hg
    clear hg
    have q0 := hf.bh.cell 0
    have q3 := hf.bh.cell 3
    have p6 := hf.bp.cell 6
    have p7 := hf.bp.cell 7
    have p10 := hf.bp.cell 10
    have p13 := hf.bp.cell 13
    have p14 := hf.bp.cell 14
    go_wp2_with fail
    refine (hf.put (k := 2) (by omega) (by omega) (by omega) (by omega)).mono ?_
    clear q0 q3 p6 p7 p10 p13 p14
    rintro e wx ⟨rfl, hg⟩
    clear hf
    have hf := hg
    clear hg
    have q0 := hf.bh.cell 0
    have q3 := hf.bh.cell 3
    have p6 := hf.bp.cell 6
    have p7 := hf.bp.cell 7
    have p10 := hf.bp.cell 10
    have p13 := hf.bp.cell 13
    have p14 := hf.bp.cell 14
    go_wp2_with fail
    go_ret
    refine hf.end_ ?_
    have e := hF.out
    clear hF q0 q3 p6 p7 p10 p13 p14 hf
    rw [← e]
    simp [freeF, c17.out, c6.out]
  have d6i : (i3 == 6) = false := by simpa using c6i
  by_cases c1i : i3 = 1
  · subst c1i
    clear c17i d17i c6i d6i
    go_enter Try.func40, Try.ntmps40
    go_upto_region 1 with fail
    have b1 := ((Blk.new w 47 #[.int .i64 h0, .int .i64 h1, .int .i64 h2, .int .i64 h3, .int .u32 h4, .int .u32 h5]).alloc (.cells #[.int .i64 pr, .int .u16 sr, .int .u16 ds, .int .i64 fl, .int .i64 ki, .int .i64 co, .bool true, .int .i64 i0, .int .i64 i1, .int .i64 i2, .int .i64 1, .int .u32 i4, .int .u32 i5, .int .i64 pa, .bool ba] 73)).alloc (.map #[] 0)
    have b2 := (Blk.new (w.alloc (.cells #[.int .i64 h0, .int .i64 h1, .int .i64 h2, .int .i64 h3, .int .u32 h4, .int .u32 h5] 47)) 73 #[.int .i64 pr, .int .u16 sr, .int .u16 ds, .int .i64 fl, .int .i64 ki, .int .i64 co, .bool true, .int .i64 i0, .int .i64 i1, .int .i64 i2, .int .i64 1, .int .u32 i4, .int .u32 i5, .int .i64 pa, .bool ba]).alloc (.map #[] 0)
    have bm := MapI.made ((w.alloc (.cells #[.int .i64 h0, .int .i64 h1, .int .i64 h2, .int .i64 h3, .int .u32 h4, .int .u32 h5] 47)).alloc (.cells #[.int .i64 pr, .int .u16 sr, .int .u16 ds, .int .i64 fl, .int .i64 ki, .int .i64 co, .bool true, .int .i64 i0, .int .i64 i1, .int .i64 i2, .int .i64 1, .int .u32 i4, .int .u32 i5, .int .i64 pa, .bool ba] 73))
    have bl : Below w.heap.size w (((w.alloc (.cells #[.int .i64 h0, .int .i64 h1, .int .i64 h2, .int .i64 h3, .int .u32 h4, .int .u32 h5] 47)).alloc (.cells #[.int .i64 pr, .int .u16 sr, .int .u16 ds, .int .i64 fl, .int .i64 ki, .int .i64 co, .bool true, .int .i64 i0, .int .i64 i1, .int .i64 i2, .int .i64 1, .int .u32 i4, .int .u32 i5, .int .i64 pa, .bool ba] 73)).alloc (.map #[] 0)) := ((bel_alloc _ _).alloc (by simp) _).alloc (by simp; omega) _
    rw [show (w.alloc (.cells #[.int .i64 h0, .int .i64 h1, .int .i64 h2, .int .i64 h3, .int .u32 h4, .int .u32 h5] 47)).heap.size = w.heap.size + 1 by simp] at b2
    rw [show ((w.alloc (.cells #[.int .i64 h0, .int .i64 h1, .int .i64 h2, .int .i64 h3, .int .u32 h4, .int .u32 h5] 47)).alloc (.cells #[.int .i64 pr, .int .u16 sr, .int .u16 ds, .int .i64 fl, .int .i64 ki, .int .i64 co, .bool true, .int .i64 i0, .int .i64 i1, .int .i64 i2, .int .i64 1, .int .u32 i4, .int .u32 i5, .int .i64 pa, .bool ba] 73)).heap.size = w.heap.size + 2 by simp] at bm
    have hf : FrS w _ (w.heap.size + 2) 0 _ #[.int .i64 h0, .int .i64 h1, .int .i64 h2, .int .i64 h3, .int .u32 h4, .int .u32 h5] #[.int .i64 pr, .int .u16 sr, .int .u16 ds, .int .i64 fl, .int .i64 ki, .int .i64 co, .bool true, .int .i64 i0, .int .i64 i1, .int .i64 i2, .int .i64 1, .int .u32 i4, .int .u32 i5, .int .i64 pa, .bool ba] := ⟨b1, b2, bm, bl, by omega⟩
    clear b1 b2 bm bl
    have hmm := @run_makeMap Try.prog
    go_upto_if 15 with (refine wpList_mapPut _ rfl _ _ _ (.inr rfl) _ _ _ rfl hf.mp (by omega) _ _ rfl rfl (i64_inr (by omega)) (i64_inr (by omega)) ?_; intro w1 hm1 hu1; have hg := hf.step hm1 hu1; clear hf hm1 hu1; have hf := hg; clear hg)
    clear hmm
    have q0 := hf.bh.cell 0
    have q3 := hf.bh.cell 3
    have p6 := hf.bp.cell 6
    have p7 := hf.bp.cell 7
    have p10 := hf.bp.cell 10
    have p13 := hf.bp.cell 13
    have p14 := hf.bp.cell 14
    go_wp2_with fail
    refine (hf.put (k := 4) (by omega) (by omega) (by omega) (by omega)).mono ?_
    clear q0 q3 p6 p7 p10 p13 p14
    rintro e wx ⟨rfl, hg⟩
    clear hf
    have hf := hg
    clear hg
    have q0 := hf.bh.cell 0
    have q3 := hf.bh.cell 3
    have p6 := hf.bp.cell 6
    have p7 := hf.bp.cell 7
    have p10 := hf.bp.cell 10
    have p13 := hf.bp.cell 13
    have p14 := hf.bp.cell 14
    go_wp2_with fail
    refine (hf.put (k := 2) (by omega) (by omega) (by omega) (by omega)).mono ?_
    clear q0 q3 p6 p7 p10 p13 p14
    rintro e wx ⟨rfl, hg⟩
    clear hf
    have hf := hg
    clear hg
    go_upto_region 7 with fail
    have z0 : ∀ t : Tw (Up wx), t.w.cell? ⟨w.heap.size + 1, 13, none⟩ = some (.int .i64 pa) := fun t => hf.bp.up t 13
    have z1 : ∀ t : Tw (Up wx), t.w.cell? ⟨w.heap.size + 1, 7, none⟩ = some (.int .i64 i0) := fun t => hf.bp.up t 7
    have zz := Up.one wx
    refine region_tw (Up wx) (by kernel_rfl) (by kernel_rfl) (Up.rfl_ wx).drew ?_
    unfold clsS
    repeat (first
      | go_big_quiet_skip
      | (go_big_quiet_want; go_big_quiet_op; go_big_quiet_on))
    refine wpQuiet_nil ?_
    intro tq
    clear z0 z1 zz
    have hg : FrS w tq.w _ _ _ _ _ := hf.bel_ tq.h
    clear hf
    have hf := hg
    clear hg
    have q0 := hf.bh.cell 0
    have q3 := hf.bh.cell 3
    have p6 := hf.bp.cell 6
    have p7 := hf.bp.cell 7
    have p10 := hf.bp.cell 10
    have p13 := hf.bp.cell 13
    have p14 := hf.bp.cell 14
    go_wp2_with fail
    refine (hf.put (k := 4) (by omega) (by omega) (by omega) (by omega)).mono ?_
    clear q0 q3 p6 p7 p10 p13 p14
    rintro e wx ⟨rfl, hg⟩
    clear hf
    have hf := hg
    clear hg
    have q0 := hf.bh.cell 0
    have q3 := hf.bh.cell 3
    have p6 := hf.bp.cell 6
    have p7 := hf.bp.cell 7
    have p10 := hf.bp.cell 10
    have p13 := hf.bp.cell 13
    have p14 := hf.bp.cell 14
    go_wp2_with fail
    refine (hf.put (k := 2) (by omega) (by omega) (by omega) (by omega)).mono ?_
    clear q0 q3 p6 p7 p10 p13 p14
    rintro e wx ⟨rfl, hg⟩
    clear hf
    have hf := hg
    clear hg
    have q0 := hf.bh.cell 0
    have q3 := hf.bh.cell 3
    have p6 := hf.bp.cell 6
    have p7 := hf.bp.cell 7
    have p10 := hf.bp.cell 10
    have p13 := hf.bp.cell 13
    have p14 := hf.bp.cell 14
    go_wp2_with fail
    refine (hf.put (k := 2) (by omega) (by omega) (by omega) (by omega)).mono ?_
    clear q0 q3 p6 p7 p10 p13 p14
    rintro e wx ⟨rfl, hg⟩
    clear hf
    have hf := hg
    clear hg
    have q0 := hf.bh.cell 0
    have q3 := hf.bh.cell 3
    have p6 := hf.bp.cell 6
    have p7 := hf.bp.cell 7
    have p10 := hf.bp.cell 10
    have p13 := hf.bp.cell 13
    have p14 := hf.bp.cell 14
    go_wp2_with fail
    refine (hf.put (k := 2) (by omega) (by omega) (by omega) (by omega)).mono ?_
    clear q0 q3 p6 p7 p10 p13 p14
    rintro e wx ⟨rfl, hg⟩
    clear hf
    have hf := hg
    clear hg
    have q0 := hf.bh.cell 0
    have q3 := hf.bh.cell 3
    have p6 := hf.bp.cell 6
    have p7 := hf.bp.cell 7
    have p10 := hf.bp.cell 10
    have p13 := hf.bp.cell 13
    have p14 := hf.bp.cell 14
    go_wp2_with fail
    go_ret
    refine hf.end_ ?_
    have e := hF.out
    clear hF q0 q3 p6 p7 p10 p13 p14 hf
    rw [← e]
    simp [freeF, c17.out, c6.out]
  have d1i : (i3 == 1) = false := by simpa using c1i
  replace c17i := Lib.hid c17i
  replace c6i := Lib.hid c6i
  replace c1i := Lib.hid c1i
  go_enter Try.func40, Try.ntmps40
  go_upto_region 1 with fail
  have b1 := ((Blk.new w 47 #[.int .i64 h0, .int .i64 h1, .int .i64 h2, .int .i64 h3, .int .u32 h4, .int .u32 h5]).alloc (.cells #[.int .i64 pr, .int .u16 sr, .int .u16 ds, .int .i64 fl, .int .i64 ki, .int .i64 co, .bool true, .int .i64 i0, .int .i64 i1, .int .i64 i2, .int .i64 i3, .int .u32 i4, .int .u32 i5, .int .i64 pa, .bool ba] 73)).alloc (.map #[] 0)
  have b2 := (Blk.new (w.alloc (.cells #[.int .i64 h0, .int .i64 h1, .int .i64 h2, .int .i64 h3, .int .u32 h4, .int .u32 h5] 47)) 73 #[.int .i64 pr, .int .u16 sr, .int .u16 ds, .int .i64 fl, .int .i64 ki, .int .i64 co, .bool true, .int .i64 i0, .int .i64 i1, .int .i64 i2, .int .i64 i3, .int .u32 i4, .int .u32 i5, .int .i64 pa, .bool ba]).alloc (.map #[] 0)
  have bm := MapI.made ((w.alloc (.cells #[.int .i64 h0, .int .i64 h1, .int .i64 h2, .int .i64 h3, .int .u32 h4, .int .u32 h5] 47)).alloc (.cells #[.int .i64 pr, .int .u16 sr, .int .u16 ds, .int .i64 fl, .int .i64 ki, .int .i64 co, .bool true, .int .i64 i0, .int .i64 i1, .int .i64 i2, .int .i64 i3, .int .u32 i4, .int .u32 i5, .int .i64 pa, .bool ba] 73))
  have bl : Below w.heap.size w (((w.alloc (.cells #[.int .i64 h0, .int .i64 h1, .int .i64 h2, .int .i64 h3, .int .u32 h4, .int .u32 h5] 47)).alloc (.cells #[.int .i64 pr, .int .u16 sr, .int .u16 ds, .int .i64 fl, .int .i64 ki, .int .i64 co, .bool true, .int .i64 i0, .int .i64 i1, .int .i64 i2, .int .i64 i3, .int .u32 i4, .int .u32 i5, .int .i64 pa, .bool ba] 73)).alloc (.map #[] 0)) := ((bel_alloc _ _).alloc (by simp) _).alloc (by simp; omega) _
  rw [show (w.alloc (.cells #[.int .i64 h0, .int .i64 h1, .int .i64 h2, .int .i64 h3, .int .u32 h4, .int .u32 h5] 47)).heap.size = w.heap.size + 1 by simp] at b2
  rw [show ((w.alloc (.cells #[.int .i64 h0, .int .i64 h1, .int .i64 h2, .int .i64 h3, .int .u32 h4, .int .u32 h5] 47)).alloc (.cells #[.int .i64 pr, .int .u16 sr, .int .u16 ds, .int .i64 fl, .int .i64 ki, .int .i64 co, .bool true, .int .i64 i0, .int .i64 i1, .int .i64 i2, .int .i64 i3, .int .u32 i4, .int .u32 i5, .int .i64 pa, .bool ba] 73)).heap.size = w.heap.size + 2 by simp] at bm
  have hf : FrS w _ (w.heap.size + 2) 0 _ #[.int .i64 h0, .int .i64 h1, .int .i64 h2, .int .i64 h3, .int .u32 h4, .int .u32 h5] #[.int .i64 pr, .int .u16 sr, .int .u16 ds, .int .i64 fl, .int .i64 ki, .int .i64 co, .bool true, .int .i64 i0, .int .i64 i1, .int .i64 i2, .int .i64 i3, .int .u32 i4, .int .u32 i5, .int .i64 pa, .bool ba] := ⟨b1, b2, bm, bl, by omega⟩
  clear b1 b2 bm bl
  have hmm := @run_makeMap Try.prog
  go_upto_if 15 with (refine wpList_mapPut _ rfl _ _ _ (.inr rfl) _ _ _ rfl hf.mp (by omega) _ _ rfl rfl (i64_inr (by omega)) (i64_inr (by omega)) ?_; intro w1 hm1 hu1; have hg := hf.step hm1 hu1; clear hf hm1 hu1; have hf := hg; clear hg)
  clear hmm
  have q0 := hf.bh.cell 0
  have q3 := hf.bh.cell 3
  have p6 := hf.bp.cell 6
  have p7 := hf.bp.cell 7
  have p10 := hf.bp.cell 10
  have p13 := hf.bp.cell 13
  have p14 := hf.bp.cell 14
  go_wp2_with fail
  refine (hf.put (k := 4) (by omega) (by omega) (by omega) (by omega)).mono ?_
  clear q0 q3 p6 p7 p10 p13 p14
  rintro e wx ⟨rfl, hg⟩
  clear hf
  have hf := hg
  clear hg
  have q0 := hf.bh.cell 0
  have q3 := hf.bh.cell 3
  have p6 := hf.bp.cell 6
  have p7 := hf.bp.cell 7
  have p10 := hf.bp.cell 10
  have p13 := hf.bp.cell 13
  have p14 := hf.bp.cell 14
  go_wp2_with fail
  refine (hf.put (k := 2) (by omega) (by omega) (by omega) (by omega)).mono ?_
  clear q0 q3 p6 p7 p10 p13 p14
  rintro e wx ⟨rfl, hg⟩
  clear hf
  have hf := hg
  clear hg
  go_upto_region 7 with fail
  have z0 : ∀ t : Tw (Up wx), t.w.cell? ⟨w.heap.size + 1, 13, none⟩ = some (.int .i64 pa) := fun t => hf.bp.up t 13
  have z1 : ∀ t : Tw (Up wx), t.w.cell? ⟨w.heap.size + 1, 7, none⟩ = some (.int .i64 i0) := fun t => hf.bp.up t 7
  have zz := Up.one wx
  refine region_tw (Up wx) (by kernel_rfl) (by kernel_rfl) (Up.rfl_ wx).drew ?_
  unfold clsS
  repeat (first
    | go_big_quiet_skip
    | (go_big_quiet_want; go_big_quiet_op; go_big_quiet_on))
  refine wpQuiet_nil ?_
  intro tq
  clear z0 z1 zz
  have hg : FrS w tq.w _ _ _ _ _ := hf.bel_ tq.h
  clear hf
  have hf := hg
  clear hg
  have q0 := hf.bh.cell 0
  have q3 := hf.bh.cell 3
  have p6 := hf.bp.cell 6
  have p7 := hf.bp.cell 7
  have p10 := hf.bp.cell 10
  have p13 := hf.bp.cell 13
  have p14 := hf.bp.cell 14
  go_wp2_with fail
  refine (hf.put (k := 4) (by omega) (by omega) (by omega) (by omega)).mono ?_
  clear q0 q3 p6 p7 p10 p13 p14
  rintro e wx ⟨rfl, hg⟩
  clear hf
  have hf := hg
  clear hg
  have q0 := hf.bh.cell 0
  have q3 := hf.bh.cell 3
  have p6 := hf.bp.cell 6
  have p7 := hf.bp.cell 7
  have p10 := hf.bp.cell 10
  have p13 := hf.bp.cell 13
  have p14 := hf.bp.cell 14
  go_wp2_with fail
  refine (hf.put (k := 2) (by omega) (by omega) (by omega) (by omega)).mono ?_
  clear q0 q3 p6 p7 p10 p13 p14
  rintro e wx ⟨rfl, hg⟩
  clear hf
  have hf := hg
  clear hg
  have q0 := hf.bh.cell 0
  have q3 := hf.bh.cell 3
  have p6 := hf.bp.cell 6
  have p7 := hf.bp.cell 7
  have p10 := hf.bp.cell 10
  have p13 := hf.bp.cell 13
  have p14 := hf.bp.cell 14
  go_wp2_with fail
  go_ret
  refine hf.end_ ?_
  have e := hF.out
  clear hF q0 q3 p6 p7 p10 p13 p14 hf
  rw [← e]
  simp [freeF, c17.out, c6.out, c17i.out, c6i.out, c1i.out]
/- What is rewritten is got again, plain: the head, and what is carried. -/
/-- both words of an address -/
def wd (v : Int) : Int := v / 65536 + v % 65536
theorem sb_n2 {l : List Int} (hl : Bytes8 l) {i : Nat} (he : i % 2 = 0) (h : i + 2 ≤ l.length) : n2 l i ≤ sb true l := by
  have h1 := sb_put2 l i 0 he h
  have h2 := (sb_bd _ (put2_bd hl i (v := 0) (by omega)) true).1
  omega
theorem fo_full {n q : Int} (h0 : 0 < n) (h : n = 65535 * q) : fo n = 65535 := by unfold fo; rw [if_neg (by omega)]; omega
theorem full_of {n : Int} (h0 : 0 ≤ n) (h : fo n = 65535) : 0 < n ∧ ∃ q, n = 65535 * q := by
  unfold fo at h
  split at h
  · omega
  · exact ⟨by omega, n / 65535, by omega⟩
theorem cl_of_zero {l : List Int} (h8 : Bytes8 l) (h : sumOf l = 0) : Cl l := by
  have h0 := (sb_bd l h8 true).1
  obtain ⟨h1, q, h2⟩ := full_of h0 (by unfold sumOf at h; omega)
  exact ⟨q, by omega, h2⟩
theorem cl_mod {l l' : List Int} (h : Cl l) {q : Int} (e : sb true l' = sb true l + 65535 * q) (hp : 0 < sb true l') : Cl l' := by
  obtain ⟨q0, h0, h1⟩ := h
  exact ⟨q0 + q, by omega, by omega⟩
theorem b8_put2 {X : List Int} (h : Bytes8 X) (i : Nat) {v : Int} (hv : 0 ≤ v ∧ v ≤ 65535) : Bytes8 (put2 X i v) := put2_bd h i hv
theorem b8_put4 {X : List Int} (h : Bytes8 X) (i : Nat) {v : Int} (hv : 0 ≤ v ∧ v ≤ 4294967295) : Bytes8 (put4 X i v) := b8_put2 (b8_put2 h _ (by omega)) _ (by omega)
theorem b8_addrL {X : List Int} (h : Bytes8 X) (i : Nat) (src : Bool) {v : Int} (hi : i + 20 ≤ X.length) (hv : 0 ≤ v ∧ v ≤ 4294967295) : Bytes8 (addrL X i src v) := by
  have hp := addrAt_bd i src
  have h1 := b8_put4 h (addrAt i src) hv
  exact b8_put2 h1 _ (fixW_bd (n2_bd h1 (by rw [put4_len]; omega)) (n4_bd h (by omega)) hv)
theorem b8_echoW {X : List Int} (h : Bytes8 X) (i : Nat) {v : Int} (hi : i + 6 ≤ X.length) (hv : 0 ≤ v ∧ v ≤ 65535) : Bytes8 (echoW X i v) := by
  have h1 := b8_put2 h (i + 4) hv
  unfold echoW echoS
  exact b8_put2 h1 _ (nevS_bd (fixOf_bd (n2_bd h1 (by rw [put2_len]; omega)) (n2_bd h (by omega)) hv))
theorem b8_carW {X : List Int} (h : Bytes8 X) (i : Nat) (udp src : Bool) {port o a : Int} (hi : i + 4 ≤ X.length) (hp : 0 ≤ port ∧ port ≤ 65535) (ho : 0 ≤ o ∧ o ≤ 4294967295) (ha : 0 ≤ a ∧ a ≤ 4294967295) : Bytes8 (carW X i udp src port o a) := by
  have hpa : portAt i src + 2 ≤ X.length := by unfold portAt; split <;> omega
  have h1 := b8_put2 h (portAt i src) hp
  unfold carW
  split
  · exact h1
  · rename_i hc
    have hs : sumAt i udp + 2 ≤ X.length := by rcases Nat.lt_or_ge X.length (sumAt i udp + 2) with h | h; exact absurd (.inl h) hc; exact h
    have h2 := b8_put2 h1 (sumAt i udp) (fixW_bd (n2_bd h1 (by rw [put2_len]; omega)) ho ha)
    refine b8_put2 h2 _ ?_
    unfold carS
    split
    · omega
    · exact fixOf_bd (n2_bd h2 (by rw [put2_len, put2_len]; omega)) (n2_bd h hpa) hp
theorem n2_cong {l l' : List Int} {i : Nat} (h : l'.length = l.length) (hi : i + 2 ≤ l.length) (h0 : l'.getD i 0 = l.getD i 0) (h1 : l'.getD (i + 1) 0 = l.getD (i + 1) 0) : n2 l' i = n2 l i := by
  rw [n2_eq _ _ (by omega), n2_eq _ _ hi, h0, h1]
theorem n4_cong {l l' : List Int} {i : Nat} (h : l'.length = l.length) (hi : i + 4 ≤ l.length) (hg : ∀ k, i ≤ k → k < i + 4 → l'.getD k 0 = l.getD k 0) : n4 l' i = n4 l i := by
  rw [n4_eq _ _ (by omega), n4_eq _ _ hi, hg i (by omega) (by omega), hg (i + 1) (by omega) (by omega), hg (i + 2) (by omega) (by omega), hg (i + 3) (by omega) (by omega)]
/-! ### heads -/
def chH (h : Hd) (src : Bool) (a : Int) : Hd := { h with src := if src then a else h.src, dst := if src then h.dst else a }
def HdOk (A : List Int) (m : Nat) : Prop :=
  Bytes8 A ∧ 20 ≤ A.length ∧ (A.length : Int) = A.getD 0 0 % 16 * 4 ∧ A.getD 0 0 / 16 = 4 ∧ n2 A 2 = A.length + m ∧ A.length + m ≤ 1500 ∧ sumOf A = 0 ∧ n2 A 6 % 16384 = 0
theorem getE_zero {X : List Int} (h : getE X = 0) : 20 ≤ X.length ∧ X.getD 0 0 / 16 = 4 ∧ 20 ≤ X.getD 0 0 % 16 * 4 ∧ X.getD 0 0 % 16 * 4 ≤ X.length ∧ X.getD 0 0 % 16 * 4 ≤ n2 X 2 ∧ n2 X 2 ≤ 1500 ∧ n2 X 2 ≤ X.length ∧ sumOf (X.take (X.getD 0 0 % 16 * 4).toNat) = 0 ∧ n2 X 6 % 16384 = 0 := by
  unfold getE at h
  split at h
  · rename_i h1; exact absurd h h1
  rename_i h1
  split at h
  · cases h
  split at h
  · cases h
  rename_i h2 h3
  unfold wholeE at h
  split at h
  · cases h
  rename_i h4
  have := shape_cases X 1500
  omega
theorem getE_mk {X : List Int} (h0 : 20 ≤ X.length) (h1 : X.getD 0 0 / 16 = 4) (h2 : 20 ≤ X.getD 0 0 % 16 * 4) (h3 : X.getD 0 0 % 16 * 4 ≤ X.length) (h4 : X.getD 0 0 % 16 * 4 ≤ n2 X 2) (h5 : n2 X 2 ≤ 1500) (h6 : n2 X 2 ≤ X.length)
    (h7 : sumOf (X.take (X.getD 0 0 % 16 * 4).toNat) = 0) (h8 : n2 X 6 % 16384 = 0) : getE X = 0 := by
  have hs : shapeE X 1500 = 0 := by
    unfold shapeE
    rw [if_neg (by omega), if_neg (by omega), if_neg (by omega), if_neg (by omega)]
  unfold getE wholeE
  rw [if_neg (by omega), if_neg (by omega), if_neg (by omega), if_neg (by omega)]
theorem HdOk.got {A B : List Int} {m : Nat} (h : HdOk A m) (hB : B.length = m) : getE (A ++ B) = 0 ∧ hdOf (A ++ B) = ⟨A.length, A.length + m, A.getD 8 0, A.getD 9 0, n4 A 12, n4 A 16⟩ := by
  obtain ⟨h8, h20, hs, h4, h2, h15, hsum, h6⟩ := h
  have e0 : (A ++ B).getD 0 0 = A.getD 0 0 := getD_left (by omega)
  have e2 : n2 (A ++ B) 2 = n2 A 2 := n2_left (by omega)
  have e6 : n2 (A ++ B) 6 = n2 A 6 := n2_left (by omega)
  have hl : (A ++ B).length = A.length + m := by rw [List.length_append, hB]
  refine ⟨getE_mk (by omega) (by rw [e0]; exact h4) (by rw [e0]; omega) (by rw [e0]; omega) (by rw [e0, e2]; omega) (by rw [e2]; omega) (by rw [e2]; omega) ?_ (by rw [e6]; exact h6), ?_⟩
  · rw [e0, ← hs, Int.toNat_natCast, List.take_left]; exact hsum
  · unfold hdOf
    rw [e0, e2, getD_left (by omega), getD_left (by omega), n4_left (by omega), n4_left (by omega), ← hs, h2]
theorem n2_take {X : List Int} {i s : Nat} (h : i + 2 ≤ s) (hs : s ≤ X.length) : n2 (X.take s) i = n2 X i := by
  have := n2_left (A := X.take s) (B := X.drop s) (i := i) (by rw [List.length_take]; omega)
  rw [List.take_append_drop] at this
  exact this.symm
theorem getD_take_ {X : List Int} {i s : Nat} (h : i < s) (hs : s ≤ X.length) : (X.take s).getD i 0 = X.getD i 0 := by
  have := getD_left (A := X.take s) (B := X.drop s) (i := i) (by rw [List.length_take]; omega)
  rw [List.take_append_drop] at this
  exact this.symm
/-- a frame that is got, in its pieces -/
theorem HdOk.of {X : List Int} (h8 : Bytes8 X) (h : getE X = 0) : ∃ A B : List Int, HdOk A B.length ∧ Bytes8 B ∧ X.take (hdOf X).len.toNat = A ++ B ∧ (hdOf X).size = A.length ∧ (hdOf X).len = A.length + B.length ∧ hdOf X = hdOf (A ++ B) ∧ seg X (hdOf X).size.toNat ((hdOf X).len - (hdOf X).size).toNat = B ∧ A.length + B.length ≤ X.length := by
  obtain ⟨h0, h1, h2, h3, h4, h5, h6, h7, hp⟩ := getE_zero h
  have e1 : (hdOf X).size = X.getD 0 0 % 16 * 4 := rfl
  have e2 : (hdOf X).len = n2 X 2 := rfl
  obtain ⟨s, hs⟩ : ∃ s : Nat, X.getD 0 0 % 16 * 4 = (s : Int) := ⟨(X.getD 0 0 % 16 * 4).toNat, by omega⟩
  obtain ⟨n, hn⟩ : ∃ n : Nat, n2 X 2 = (n : Int) := ⟨(n2 X 2).toNat, by omega⟩
  have lA : (X.take s).length = s := by rw [List.length_take]; omega
  have lB : (seg X s (n - s)).length = n - s := seg_length _ _ _ (by omega)
  have hAB : X.take n = X.take s ++ seg X s (n - s) := by
    have := List.take_add (l := X) (i := s) (j := n - s)
    rw [show s + (n - s) = n by omega] at this
    exact this
  have hok : HdOk (X.take s) (seg X s (n - s)).length := by
    refine ⟨h8.take _, by omega, ?_, ?_, ?_, by omega, ?_, ?_⟩
    · rw [lA, getD_take_ (by omega) (by omega)]; omega
    · rw [getD_take_ (by omega) (by omega)]; exact h1
    · rw [n2_take (by omega) (by omega), lA, lB]; omega
    · rw [hs, Int.toNat_natCast] at h7; exact h7
    · rw [n2_take (by omega) (by omega)]; exact hp
  refine ⟨X.take s, seg X s (n - s), hok, fun x hx => h8 x (seg_mem hx), ?_, by rw [e1, lA, hs], by rw [e2, lA, lB]; omega, ?_, ?_, by omega⟩
  · rw [e2, hn, Int.toNat_natCast]; exact hAB
  · have hg := (hok.got rfl).2
    rw [hg]
    have g4 : ∀ i, i + 4 ≤ s → n4 (X.take s) i = n4 X i := fun i hi => by
      have := n4_left (A := X.take s) (B := X.drop s) (i := i) (by omega)
      rw [List.take_append_drop] at this
      exact this.symm
    unfold hdOf
    rw [getD_take_ (by omega) (by omega), getD_take_ (by omega) (by omega), g4 _ (by omega), g4 _ (by omega), lA, lB, hs, hn]
    congr 1; omega
  · rw [e1, e2, hs, hn, Int.toNat_natCast, show ((n : Int) - (s : Int)).toNat = n - s by omega]
theorem HdOk.addr {A : List Int} {m : Nat} (h : HdOk A m) (src : Bool) {v : Int} (hv : 0 ≤ v ∧ v ≤ 4294967295) : HdOk (addrL A 0 src v) m := by
  obtain ⟨h8, h20, hs, h4, h2, h15, hsum, h6⟩ := h
  have hp := addrAt_bd 0 src
  have hl : (addrL A 0 src v).length = A.length := addrL_len _ _ _ _
  have hf : ∀ k, k < 10 → (addrL A 0 src v).getD k 0 = A.getD k 0 := fun k hk => addrL_far (by omega) (by omega) (by omega)
  have h8' := b8_addrL h8 0 src (v := v) (by omega) hv
  refine ⟨h8', by omega, by rw [hl, hf 0 (by omega)]; exact hs, by rw [hf 0 (by omega)]; exact h4, by rw [n2_cong hl (by omega) (hf _ (by omega)) (hf _ (by omega)), hl]; exact h2, by omega, ?_, by rw [n2_cong hl (by omega) (hf _ (by omega)) (hf _ (by omega))]; exact h6⟩
  obtain ⟨q, hq⟩ := sb_addr A 0 src v rfl (by omega) h8 hv
  refine Cl.zero (cl_mod (cl_of_zero h8 hsum) hq ?_)
  have := sb_n2 h8' (i := 0) rfl (by omega)
  have e := n2_cong hl (i := 0) (by omega) (hf 0 (by omega)) (hf 1 (by omega))
  rw [e, n2_eq _ _ (by omega)] at this
  have b1 := n2_bd h8 (i := 0) (by omega)
  rw [n2_eq _ _ (by omega)] at b1
  have b2 : 0 ≤ A.getD (0 + 1) 0 := by
    have : A.getD 1 0 = A[1]'(by omega) := by rw [List.getD_eq_getElem?_getD, List.getElem?_eq_getElem (by omega)]; rfl
    rw [this]; exact (h8 _ (List.getElem_mem _)).1
  omega
theorem addr_12 {A : List Int} {src : Bool} {v : Int} (h : 20 ≤ A.length) (hv : 0 ≤ v ∧ v ≤ 4294967295) : n4 (addrL A 0 src v) 12 = (if src then v else n4 A 12) ∧ n4 (addrL A 0 src v) 16 = (if src then n4 A 16 else v) := by
  have hl : (addrL A 0 src v).length = A.length := addrL_len _ _ _ _
  have h1 := addrL_n4 (l := A) (i := 0) (src := src) (by omega) hv
  have h2 : ∀ k, (k < addrAt 0 src ∨ addrAt 0 src + 4 ≤ k) → 12 ≤ k → (addrL A 0 src v).getD k 0 = A.getD k 0 := fun k hk hk2 => addrL_far hk (by omega) (by omega)
  cases src
  · exact ⟨n4_cong hl (by omega) (fun k a b => h2 k (by unfold addrAt; simp; omega) (by omega)), h1⟩
  · exact ⟨h1, n4_cong hl (by omega) (fun k a b => h2 k (by unfold addrAt; simp; omega) (by omega))⟩
/-- the head of what is rewritten -/
theorem HdOk.again {A B B' : List Int} (h : HdOk A B.length) (src : Bool) {v : Int} (hv : 0 ≤ v ∧ v ≤ 4294967295) (hB : B'.length = B.length) : getE (addrL A 0 src v ++ B') = 0 ∧ hdOf (addrL A 0 src v ++ B') = chH (hdOf (A ++ B)) src v := by
  have h1 := (h.addr src hv).got (B := B') hB
  have h20 := h.2.1
  have hl : (addrL A 0 src v).length = A.length := addrL_len _ _ _ _
  have hp := addrAt_bd 0 src
  refine ⟨h1.1, ?_⟩
  rw [h1.2, (h.got rfl).2, hl, addrL_far (by omega) (by omega) (by omega), addrL_far (by omega) (by omega) (by omega), (addr_12 (src := src) h20 hv).1, (addr_12 (src := src) h20 hv).2]
  rfl
/- What is rewritten is got again, plain: what is carried. -/
theorem sb_ph {s d p : Int} {n : Nat} (hs : 0 ≤ s) (hd : 0 ≤ d) : sb true (ph s d p n) = wd s + wd d + p + n := by
  simp [ph, be4, be2, sb, wd]; omega
def chPorts (p : Pt) (echo src : Bool) (port : Int) : Pt := { p with src := if echo || src then port else p.src, dst := if echo || !src then port else p.dst }
section
variable {B : List Int} {src : Bool} {port o a : Int}
theorem carW_n2 {udp : Bool} {j : Nat} (hj : j + 2 ≤ sumAt 0 udp) (hl : j + 2 ≤ B.length) : n2 (carW B 0 udp src port o a) j = n2 (put2 B (portAt 0 src) port) j := by
  unfold carW
  split
  · rfl
  · rw [n2_put2_ne (by omega) (by rw [put2_len, put2_len]; omega), n2_put2_ne (by omega) (by rw [put2_len]; omega)]
theorem carW_ports {udp : Bool} (h : 8 ≤ B.length) (hp : 0 ≤ port ∧ port ≤ 65535) :
    n2 (carW B 0 udp src port o a) 0 = (if src then port else n2 B 0) ∧ n2 (carW B 0 udp src port o a) 2 = (if src then n2 B 2 else port) := by
  have hs : 6 ≤ sumAt 0 udp := by unfold sumAt; cases udp <;> simp
  rw [carW_n2 (by omega) (by omega), carW_n2 (by omega) (by omega)]
  cases src
  · exact ⟨n2_put2_ne (by simp [portAt]) (by omega), n2_put2 (i := 2) (by omega) hp⟩
  · exact ⟨n2_put2 (i := 0) (by omega) hp, n2_put2_ne (by simp [portAt]) (by omega)⟩
theorem carS_bd {Y : List Int} {q : Nat} {udp : Bool} {was : Int} (h8 : Bytes8 Y) (hq : q + 2 ≤ Y.length) (hw : 0 ≤ was ∧ was ≤ 65535) (hp : 0 ≤ port ∧ port ≤ 65535) (ho : 0 ≤ o ∧ o ≤ 4294967295) (ha : 0 ≤ a ∧ a ≤ 4294967295) :
    (0 ≤ carS Y q udp was port o a ∧ carS Y q udp was port o a ≤ 65535) ∧ (udp = true → carS Y q udp was port o a ≠ 0) := by
  have h1 := fixW_bd (n2_bd h8 (i := q) hq) ho ha
  have h2 := b8_put2 h8 q h1
  have h3 := fixOf_bd (n2_bd h2 (i := q) (by rw [put2_len]; omega)) hw hp
  unfold carS
  split
  · exact ⟨by omega, fun _ => by omega⟩
  · rename_i hc
    exact ⟨h3, fun hu e => hc ⟨hu, e⟩⟩
theorem csum_iff {s d p : Int} {l : List Int} (hs : 0 ≤ s) (hd : 0 ≤ d) (hp : 0 < p) (h8 : Bytes8 l) : csum s d p l = 0 ↔ ∃ q, wd s + wd d + p + l.length + sb true l = 65535 * q := by
  have h0 := (sb_bd l h8 true).1
  have hw : 0 ≤ wd s ∧ 0 ≤ wd d := by unfold wd; omega
  rw [csum_eq, sb_ph hs hd]
  constructor
  · intro h
    obtain ⟨_, q, hq⟩ := full_of (n := wd s + wd d + p + l.length + sb true l) (by omega) (by omega)
    exact ⟨q, hq⟩
  · rintro ⟨q, hq⟩
    have := fo_full (n := wd s + wd d + p + l.length + sb true l) (by omega) hq
    omega
theorem csum_again {h h' : Hd} {p : Int} {udp : Bool} (h8 : Bytes8 B) (hl : sumAt 0 udp + 2 ≤ B.length) (hp : 0 < p) (hport : 0 ≤ port ∧ port ≤ 65535) (ho : 0 ≤ o ∧ o ≤ 4294967295) (ha : 0 ≤ a ∧ a ≤ 4294967295)
    (hs : 0 ≤ h.src) (hd : 0 ≤ h.dst) (hs' : 0 ≤ h'.src) (hd' : 0 ≤ h'.dst) (hw : wd h'.src + wd h'.dst = wd h.src + wd h.dst - wd o + wd a) (hz : ¬ (udp = true ∧ n2 B (sumAt 0 udp) = 0)) (hc : csum h.src h.dst p B = 0) :
    csum h'.src h'.dst p (carW B 0 udp src port o a) = 0 := by
  have h4 : 4 ≤ B.length := by have : 6 ≤ sumAt 0 udp := by unfold sumAt; cases udp <;> simp
                               omega
  obtain ⟨q, hq⟩ := (csum_iff hs hd hp h8).1 hc
  obtain ⟨k, hk⟩ := sb_car B 0 udp src port o a rfl hl h8 hport ho ha hz
  refine (csum_iff hs' hd' hp (b8_carW h8 0 udp src (by omega) hport ho ha)).2 ⟨q + k, ?_⟩
  rw [carW_len, hk]
  unfold wd at hw hq ⊢
  omega
theorem udp_again {h h' : Hd} {p : Pt} (h8 : Bytes8 B) (hport : 0 ≤ port ∧ port ≤ 65535) (ho : 0 ≤ o ∧ o ≤ 4294967295) (ha : 0 ≤ a ∧ a ≤ 4294967295)
    (hs : 0 ≤ h.src) (hd : 0 ≤ h.dst) (hs' : 0 ≤ h'.src) (hd' : 0 ≤ h'.dst) (hw : wd h'.src + wd h'.dst = wd h.src + wd h.dst - wd o + wd a) (hok : udpR h B = (0, p)) :
    udpR h' (carW B 0 true src port o a) = (0, chPorts p false src port) ∧ p.err = false ∧ p.proto = 17 ∧ 8 ≤ B.length ∧ p.bare = decide (n2 B 6 = 0) ∧ p.src = n2 B 0 ∧ p.dst = n2 B 2 := by
  unfold udpR at hok
  split at hok
  · cases hok
  rename_i h1
  split at hok
  · cases hok
  rename_i h2
  split at hok
  · cases hok
  rename_i h3
  simp only [Prod.mk.injEq, true_and] at hok
  subst hok
  have hl := carW_len B 0 true src port o a
  have e4 : n2 (carW B 0 true src port o a) 4 = n2 B 4 := by
    rw [carW_n2 (by simp [sumAt]) (by omega), n2_put2_ne (by unfold portAt; cases src <;> simp) (by omega)]
  have e6 : n2 (carW B 0 true src port o a) 6 = 0 ↔ n2 B 6 = 0 := by
    have hpb : portAt 0 src + 2 ≤ 4 := by unfold portAt; cases src <;> simp
    have e0 : n2 (put2 B (portAt 0 src) port) 6 = n2 B 6 := n2_put2_ne (by omega) (by omega)
    have hY := b8_put2 h8 (portAt 0 src) hport
    unfold carW
    split
    · rw [e0]
    · rename_i hc
      have hb := carS_bd (Y := put2 B (portAt 0 src) port) (q := 6) (udp := true) (was := n2 B (portAt 0 src)) hY (by rw [put2_len]; omega) (n2_bd h8 (by omega)) hport ho ha
      have : n2 (put2 (put2 (put2 B (portAt 0 src) port) (sumAt 0 true) (fixW (n2 (put2 B (portAt 0 src) port) (sumAt 0 true)) o a)) (sumAt 0 true) (carS (put2 B (portAt 0 src) port) (sumAt 0 true) true (n2 B (portAt 0 src)) port o a)) 6 = _ := n2_put2 (i := 6) (by rw [put2_len, put2_len]; omega) hb.1
      rw [this]
      constructor
      · intro h; exact absurd h (hb.2 rfl)
      · intro h; exact absurd (.inr ⟨rfl, by rw [← h, ← e0]; rfl⟩) hc
  have hcs : n2 B 6 ≠ 0 → csum h'.src h'.dst 17 (carW B 0 true src port o a) = 0 := fun hz =>
    csum_again (p := 17) h8 (by simp [sumAt]; omega) (by omega) hport ho ha hs hd hs' hd' hw (by rintro ⟨_, h⟩; exact hz h) (by
      rcases Decidable.em (csum h.src h.dst 17 B = 0) with h | h
      · exact h
      · exact absurd ⟨hz, h⟩ h3)
  obtain ⟨p0, p2⟩ := carW_ports (B := B) (src := src) (o := o) (a := a) (udp := true) (port := port) (by omega) hport
  refine ⟨?_, rfl, rfl, by omega, rfl, rfl, rfl⟩
  unfold udpR
  rw [if_neg (by omega), if_neg (by rw [e4, hl]; omega), if_neg (by rintro ⟨x, y⟩; exact y (hcs (fun e => x (e6.2 e))))]
  simp only [portsP, chPorts, p0, p2, Prod.mk.injEq, true_and, Bool.false_or, Pt.mk.injEq]
  cases src <;> simp [e6]
theorem tcp_again {h h' : Hd} {p : Pt} (h8 : Bytes8 B) (hport : 0 ≤ port ∧ port ≤ 65535) (ho : 0 ≤ o ∧ o ≤ 4294967295) (ha : 0 ≤ a ∧ a ≤ 4294967295)
    (hs : 0 ≤ h.src) (hd : 0 ≤ h.dst) (hs' : 0 ≤ h'.src) (hd' : 0 ≤ h'.dst) (hw : wd h'.src + wd h'.dst = wd h.src + wd h.dst - wd o + wd a) (hok : tcpR h B = (0, p)) :
    tcpR h' (carW B 0 false src port o a) = (0, chPorts p false src port) ∧ p.err = false ∧ p.proto = 6 ∧ 20 ≤ B.length ∧ p.src = n2 B 0 ∧ p.dst = n2 B 2 := by
  unfold tcpR at hok
  split at hok
  · cases hok
  rename_i h1
  split at hok
  · cases hok
  rename_i h2
  split at hok
  · cases hok
  rename_i h3
  simp only [Prod.mk.injEq, true_and] at hok
  subst hok
  have hl := carW_len B 0 false src port o a
  have hpb : portAt 0 src + 2 ≤ 4 := by unfold portAt; cases src <;> simp
  have hfar : ∀ j, 4 ≤ j → j < 16 → (carW B 0 false src port o a).getD j 0 = B.getD j 0 := fun j a b => carW_far (by omega) (by omega) (by simp [sumAt]; omega) (by simp [sumAt]; omega)
  have hcs := csum_again (p := 6) (udp := false) (src := src) h8 (by simp [sumAt]; omega) (by omega) hport ho ha hs hd hs' hd' hw (by simp) (by
      rcases Decidable.em (csum h.src h.dst 6 B = 0) with h | h
      · exact h
      · exact absurd h h3)
  obtain ⟨p0, p2⟩ := carW_ports (B := B) (src := src) (o := o) (a := a) (udp := false) (port := port) (by omega) hport
  refine ⟨?_, rfl, rfl, by omega, rfl, rfl⟩
  unfold tcpR
  rw [if_neg (by omega), if_neg (by rw [hfar 12 (by omega) (by omega), hl]; omega), if_neg (by rw [hcs]; simp), hfar 13 (by omega) (by omega)]
  simp only [portsP, chPorts, p0, p2, Prod.mk.injEq, true_and, Bool.false_or, Pt.mk.injEq]
  cases src <;> simp
end
/- What is rewritten is got again, plain: echoes and errors. -/
section
variable {B : List Int} {src : Bool} {port o a : Int}
theorem b0 {l : List Int} (h : Bytes8 l) {k : Nat} (hk : k < l.length) : 0 ≤ l.getD k 0 ∧ l.getD k 0 ≤ 255 := by
  rw [List.getD_eq_getElem?_getD, List.getElem?_eq_getElem hk]
  exact h _ (List.getElem_mem _)
theorem echo_n2 (h : 6 ≤ B.length) (hp : 0 ≤ port ∧ port ≤ 65535) : n2 (echoW B 0 port) 4 = port := by
  unfold echoW echoS
  rw [n2_put2_ne (by omega) (by rw [put2_len]; omega)]
  exact n2_put2 (i := 4) (by omega) hp
theorem echoW_cl (h8 : Bytes8 B) (hl : 6 ≤ B.length) (hp : 0 ≤ port ∧ port ≤ 65535) (hc : sumOf B = 0) : sumOf (echoW B 0 port) = 0 := by
  obtain ⟨q, hq⟩ := sb_echo B 0 port rfl (by omega) h8 hp
  have e8 := b8_echoW h8 0 (v := port) (by omega) hp
  have hl' : (echoW B 0 port).length = B.length := by unfold echoW; rw [put2_len, put2_len]
  refine Cl.zero (cl_mod (cl_of_zero h8 hc) hq ?_)
  have h2 := sb_n2 e8 (i := 2) rfl (by omega)
  have h3 : n2 (echoW B 0 port) 2 ≠ 0 := by
    have h1 := b8_put2 h8 (0 + 4) hp
    have hb := nevS_bd (fixOf_bd (n2_bd h1 (i := 0 + 2) (by rw [put2_len]; omega)) (n2_bd h8 (i := 0 + 4) (by omega)) hp)
    unfold echoW echoS
    rw [n2_put2 (i := 0 + 2) (by rw [put2_len]; omega) hb]
    unfold nevS
    split <;> omega
  have h4 := n2_bd e8 (i := 2) (by omega)
  omega
theorem icmp_len {h : Hd} {p : Pt} (hok : icmpR h B = (0, p)) : 8 ≤ B.length ∧ sumOf B = 0 := by
  unfold icmpR at hok
  split at hok
  · cases hok
  rename_i h1
  split at hok
  · cases hok
  rename_i h2
  exact ⟨by omega, by
    rcases Decidable.em (sumOf B = 0) with h | h
    · exact h
    · exact absurd h h2⟩
theorem fault_err {p q : Pt} {at_ : Int} {b : List Int} (h : faultR p at_ b = (0, q)) : q.err = true := by
  unfold faultR at h
  split at h
  · rename_i h1
    simp only [Prod.mk.injEq] at h
    exact absurd h.1 h1
  split at h
  · cases h
  split at h
  · simp only [Prod.mk.injEq, true_and] at h; rw [← h]; rfl
  split at h
  · simp only [Prod.mk.injEq, true_and] at h; rw [← h]; rfl
  · cases h
theorem echo_again {h h' : Hd} {p : Pt} (h8 : Bytes8 B) (hport : 0 ≤ port ∧ port ≤ 65535) (hok : icmpR h B = (0, p)) (he : p.err = false) :
    icmpR h' (echoW B 0 port) = (0, chPorts p true src port) ∧ p.proto = 1 ∧ p.src = n2 B 4 := by
  obtain ⟨h1, h2⟩ := icmp_len hok
  have hl' : (echoW B 0 port).length = B.length := by unfold echoW; rw [put2_len, put2_len]
  have f0 : (echoW B 0 port).getD 0 0 = B.getD 0 0 := echoW_far (by omega)
  have f1 : (echoW B 0 port).getD 1 0 = B.getD 1 0 := echoW_far (by omega)
  have hz := echoW_cl h8 (by omega) hport h2
  have h4 := echo_n2 (B := B) (by omega) hport
  unfold icmpR at hok ⊢
  rw [if_neg (by omega), if_neg (by simp [h2])] at hok
  rw [hl', if_neg (by omega), if_neg (by simp [hz]), f0, f1]
  split at hok
  · rename_i hk
    rw [if_pos hk]
    split at hok
    · cases hok
    · rename_i hc
      rw [if_neg hc]
      simp only [Prod.mk.injEq, true_and] at hok
      subst hok
      refine ⟨?_, rfl, rfl⟩
      simp only [portsP, chPorts, h4, Bool.true_or, if_true]
  · split at hok
    · have := fault_err hok
      rw [he] at this; cases this
    · cases hok
theorem partE_cong {l l' : List Int} (hl : l'.length = l.length) (h0 : l'.getD 0 0 = l.getD 0 0) (h2 : n2 l' 2 = n2 l 2) (h6 : n2 l' 6 = n2 l 6) : partE l' = partE l := by
  unfold partE shapeE wholeE
  rw [hl, h0, h2, h6]
/-- the packet that an error is about, in its pieces -/
theorem err_of {h : Hd} {p : Pt} (h8 : Bytes8 B) (hok : icmpR h B = (0, p)) (he : p.err = true) :
    ∃ E I J : List Int, B = E ++ (I ++ J) ∧ E.length = 8 ∧ 20 ≤ I.length ∧ I.length ≤ 60 ∧ 8 ≤ J.length ∧ Bytes8 E ∧ Bytes8 I ∧ Bytes8 J ∧ sumOf B = 0 ∧ p.inner.size = I.length ∧ p.pat = h.size + 8 ∧ p.proto = 1 ∧
      (B.getD 0 0 = 3 ∨ B.getD 0 0 = 11 ∨ B.getD 0 0 = 12) ∧ partE (I ++ J) = 0 ∧ p.inner = hdOf (I ++ J) ∧ (hdOf (I ++ J)).size + 8 ≤ (hdOf (I ++ J)).len ∧
      ((p.inner.proto = 17 ∨ p.inner.proto = 6) ∧ p.src = n2 J 0 ∧ p.dst = n2 J 2 ∨ p.inner.proto = 1 ∧ (J.getD 0 0 = 0 ∨ J.getD 0 0 = 8) ∧ p.src = n2 J 4 ∧ p.dst = n2 J 4) ∧
      p.flags = 0 ∧ p.kind = B.getD 0 0 ∧ p.code = B.getD 1 0 ∧ p.bare = false := by
  obtain ⟨h1, h2⟩ := icmp_len hok
  unfold icmpR at hok
  rw [if_neg (by omega), if_neg (by simp [h2])] at hok
  split at hok
  · split at hok
    · cases hok
    · simp only [Prod.mk.injEq, true_and] at hok
      subst hok
      cases he
  split at hok
  rotate_left
  · cases hok
  rename_i _ hk
  have hk' : B.getD 0 0 = 3 ∨ B.getD 0 0 = 11 ∨ B.getD 0 0 = 12 := hk
  unfold faultR at hok
  split at hok
  · rename_i hp
    simp only [Prod.mk.injEq] at hok
    exact absurd hok.1 hp
  rename_i hp
  have hp0 : partE (B.drop 8) = 0 := by
    rcases Decidable.em (partE (B.drop 8) = 0) with h | h
    · exact h
    · exact absurd h hp
  split at hok
  · cases hok
  rename_i hlen
  have hsh : shapeE (B.drop 8) 65535 = 0 := by
    unfold partE at hp0
    split at hp0
    · rename_i hx; exact absurd hp0 hx
    · rename_i hx
      rcases Decidable.em (shapeE (B.drop 8) 65535 = 0) with h | h
      · exact h
      · exact absurd h hx
  have hc := shape_cases (B.drop 8) 65535
  have e1 : (hdOf (B.drop 8)).size = (B.drop 8).getD 0 0 % 16 * 4 := rfl
  obtain ⟨s, hs⟩ : ∃ s : Nat, (hdOf (B.drop 8)).size = (s : Int) := ⟨(hdOf (B.drop 8)).size.toNat, by omega⟩
  have hs2 : 20 ≤ s ∧ s ≤ 60 := by omega
  have hb8 : ((B.drop 8).length : Int) - s ≥ 8 := by omega
  have lI : ((B.drop 8).take s).length = s := by rw [List.length_take]; omega
  have e0 : B.take 8 ++ ((B.drop 8).take s ++ (B.drop 8).drop s) = B := by rw [List.take_append_drop, List.take_append_drop]
  have e2 : (B.drop 8).take s ++ (B.drop 8).drop s = B.drop 8 := List.take_append_drop _ _
  have hd8 : Bytes8 (B.drop 8) := fun x hx => h8 x (List.mem_of_mem_drop hx)
  have hst : (hdOf (B.drop 8)).size.toNat = s := by omega
  rw [hst] at hok
  refine ⟨B.take 8, (B.drop 8).take s, (B.drop 8).drop s, e0.symm, by rw [List.length_take]; omega, by omega, by omega, by rw [List.length_drop]; omega, h8.take _, hd8.take _, fun x hx => hd8 x (List.mem_of_mem_drop hx), h2, ?_⟩
  rw [e2, lI]
  split at hok
  · rename_i hpr
    simp only [Prod.mk.injEq, true_and] at hok
    subst hok
    exact ⟨hs, rfl, rfl, hk', hp0, rfl, by omega, .inl ⟨hpr, rfl, rfl⟩, rfl, rfl, rfl, rfl⟩
  · split at hok
    · rename_i hpr
      simp only [Prod.mk.injEq, true_and] at hok
      subst hok
      exact ⟨hs, rfl, rfl, hk', hp0, rfl, by omega, .inr ⟨hpr.1, hpr.2, rfl, rfl⟩, rfl, rfl, rfl, rfl⟩
    · cases hok
end
theorem cl_put0 {C : List Int} (h8 : Bytes8 C) (hl : 4 ≤ C.length) : sumOf (put2 (put2 C 2 0) 2 (sumOf (put2 C 2 0))) = 0 := by
  have h1 := b8_put2 h8 2 (v := 0) (by omega)
  have h2 := sumOf_bd h1
  refine Cl.zero (cl_of _ (put2 C 2 0) (sb_bd _ h1 true).1 ?_)
  rw [sb_put2 _ _ _ rfl (by rw [put2_len]; omega), n2_put2 (by omega) (by omega)]
  omega
section
variable {E I J : List Int} {proto port addr : Int} {src : Bool}
theorem b8_carChg {old : Int} (h : Bytes8 J) (hl : 8 ≤ J.length) (hp : 0 ≤ port ∧ port ≤ 65535) (ho : 0 ≤ old ∧ old ≤ 4294967295) (ha : 0 ≤ addr ∧ addr ≤ 4294967295) : Bytes8 (carChg J proto src port old addr) := by
  unfold carChg
  split
  · exact b8_echoW h 0 (by omega) hp
  · exact b8_carW h 0 _ src (by omega) hp ho ha
theorem b8_errMid (hE : Bytes8 E) (hI : Bytes8 I) (hJ : Bytes8 J) (hI2 : 20 ≤ I.length) (hJ2 : 8 ≤ J.length) (hp : 0 ≤ port ∧ port ≤ 65535) (ha : 0 ≤ addr ∧ addr ≤ 4294967295) : Bytes8 (errMid E I J proto src port addr) := by
  have hb := addrAt_bd 0 src
  exact hE.app ((b8_addrL hI 0 src (by omega) ha).app (b8_carChg hJ hJ2 hp (n4_bd hI (by omega)) ha))
theorem b8_errChg (hE : Bytes8 E) (hI : Bytes8 I) (hJ : Bytes8 J) (hI2 : 20 ≤ I.length) (hJ2 : 8 ≤ J.length) (hp : 0 ≤ port ∧ port ≤ 65535) (ha : 0 ≤ addr ∧ addr ≤ 4294967295) : Bytes8 (errChg E I J proto src port addr) := by
  have h := b8_errMid (proto := proto) (src := src) hE hI hJ hI2 hJ2 hp ha
  have h1 := b8_put2 h 2 (v := 0) (by omega)
  exact b8_put2 h1 2 (sumOf_bd h1)
theorem errChg_split (hE : E.length = 8) : errChg E I J proto src port addr = put2 (put2 E 2 0) 2 (sumOf (put2 (errMid E I J proto src port addr) 2 0)) ++ (addrL I 0 src addr ++ carChg J proto src port (n4 I (addrAt 0 src)) addr) := by
  unfold errChg
  conv => lhs; arg 1; unfold errMid
  rw [put2_left (by omega), put2_left (by rw [put2_len]; omega)]
theorem carChg_ports {old : Int} (hJ : 8 ≤ J.length) (hp : 0 ≤ port ∧ port ≤ 65535) : (proto ≠ 1 → n2 (carChg J proto src port old addr) 0 = (if src then port else n2 J 0) ∧ n2 (carChg J proto src port old addr) 2 = (if src then n2 J 2 else port)) ∧
    (proto = 1 → n2 (carChg J proto src port old addr) 4 = port ∧ (carChg J proto src port old addr).getD 0 0 = J.getD 0 0) := by
  constructor
  · intro h
    unfold carChg
    rw [if_neg h]
    exact carW_ports (by omega) hp
  · intro h
    unfold carChg
    rw [if_pos h]
    exact ⟨echo_n2 (by omega) hp, echoW_far (by omega)⟩
/-- an error, with what it is about rewritten -/
theorem err_again {h h' : Hd} {p : Pt} (h8 : Bytes8 (E ++ (I ++ J))) (hE : E.length = 8) (hI : 20 ≤ I.length) (hJ : 8 ≤ J.length) (hport : 0 ≤ port ∧ port ≤ 65535) (ha : 0 ≤ addr ∧ addr ≤ 4294967295) (hsz : h'.size = h.size)
    (hp0 : partE (I ++ J) = 0) (hin : p.inner = hdOf (I ++ J)) (his : p.inner.size = I.length) (hlen : (hdOf (I ++ J)).size + 8 ≤ (hdOf (I ++ J)).len) (hk : (E ++ (I ++ J)).getD 0 0 = 3 ∨ (E ++ (I ++ J)).getD 0 0 = 11 ∨ (E ++ (I ++ J)).getD 0 0 = 12)
    (hpp : (p.inner.proto = 17 ∨ p.inner.proto = 6) ∧ p.src = n2 J 0 ∧ p.dst = n2 J 2 ∨ p.inner.proto = 1 ∧ (J.getD 0 0 = 0 ∨ J.getD 0 0 = 8) ∧ p.src = n2 J 4 ∧ p.dst = n2 J 4)
    (hpat : p.pat = h.size + 8) (h1 : p.proto = 1) (h2 : p.flags = 0) (h3 : p.kind = (E ++ (I ++ J)).getD 0 0) (h4 : p.code = (E ++ (I ++ J)).getD 1 0) (h5 : p.bare = false) (h6 : p.err = true) :
    icmpR h' (errChg E I J p.inner.proto src port addr) = (0, { chPorts p (p.inner.proto == 1) src port with inner := chH p.inner src addr }) := by
  have hE8 : Bytes8 E := fun x hx => h8 x (List.mem_append_left _ hx)
  have hI8 : Bytes8 I := fun x hx => h8 x (List.mem_append_right _ (List.mem_append_left _ hx))
  have hJ8 : Bytes8 J := fun x hx => h8 x (List.mem_append_right _ (List.mem_append_right _ hx))
  have hb := addrAt_bd 0 src
  have hlen' := errChg_len E I J p.inner.proto src port addr
  have hmid := b8_errMid (proto := p.inner.proto) (src := src) hE8 hI8 hJ8 hI hJ hport ha
  have hz : sumOf (errChg E I J p.inner.proto src port addr) = 0 := cl_put0 hmid (by rw [errMid_len]; omega)
  rw [errChg_split hE] at hz hlen' ⊢
  generalize hEe : put2 (put2 E 2 0) 2 (sumOf (put2 (errMid E I J p.inner.proto src port addr) 2 0)) = E' at *
  have lE : E'.length = 8 := by rw [← hEe, put2_len, put2_len]; exact hE
  have f0 : E'.getD 0 0 = E.getD 0 0 := by rw [← hEe, put2_far (by omega) (by omega), put2_far (by omega) (by omega)]
  have f1 : E'.getD 1 0 = E.getD 1 0 := by rw [← hEe, put2_far (by omega) (by omega), put2_far (by omega) (by omega)]
  have hlI := addrL_len I 0 src addr
  have g0 : ∀ k, k < 10 → (addrL I 0 src addr).getD k 0 = I.getD k 0 := fun k hk => addrL_far (by omega) (by omega) (by omega)
  have hlJ := carChg_len J p.inner.proto src port (n4 I (addrAt 0 src)) addr
  have hports := carChg_ports (J := J) (proto := p.inner.proto) (src := src) (port := port) (addr := addr) (old := n4 I (addrAt 0 src)) hJ hport
  have e12 := addr_12 (A := I) (src := src) (by omega) ha
  rw [getD_left (by omega)] at hk h3
  rw [getD_left (by omega)] at h4
  generalize carChg J p.inner.proto src port (n4 I (addrAt 0 src)) addr = J' at *
  generalize addrL I 0 src addr = I' at *
  have hd8 : (E' ++ (I' ++ J')).drop 8 = I' ++ J' := by rw [← lE, List.drop_left]
  have hIJ : (I' ++ J').length = (I ++ J).length := by rw [List.length_append, List.length_append]; omega
  have hpart : partE (I' ++ J') = 0 := by
    rw [partE_cong (l := I ++ J) hIJ (by rw [getD_left (by omega), getD_left (by omega)]; exact g0 0 (by omega)) (by rw [n2_left (by omega), n2_left (by omega)]; exact n2_cong hlI (by omega) (g0 _ (by omega)) (g0 _ (by omega)))
      (by rw [n2_left (by omega), n2_left (by omega)]; exact n2_cong hlI (by omega) (g0 _ (by omega)) (g0 _ (by omega)))]
    exact hp0
  have hhd : hdOf (I' ++ J') = chH (hdOf (I ++ J)) src addr := by
    unfold hdOf chH
    rw [getD_left (by omega), getD_left (by omega), getD_left (by omega), getD_left (by omega), getD_left (by omega), getD_left (by omega), g0 0 (by omega), g0 8 (by omega), g0 9 (by omega), n2_left (by omega), n2_left (by omega), n4_left (by omega), n4_left (by omega), n4_left (by omega), n4_left (by omega), e12.1, e12.2,
      n2_cong hlI (by omega) (g0 _ (by omega)) (g0 _ (by omega))]
  have hsz2 : (chH (hdOf (I ++ J)) src addr).size = (hdOf (I ++ J)).size := rfl
  have hln2 : (chH (hdOf (I ++ J)) src addr).len = (hdOf (I ++ J)).len := rfl
  have hpr2 : (chH (hdOf (I ++ J)) src addr).proto = (hdOf (I ++ J)).proto := rfl
  have hsI : (hdOf (I ++ J)).size = I.length := by rw [← hin]; exact his
  have hdr : (I' ++ J').drop I.length = J' := by rw [← hlI, List.drop_left]
  have hpr : (hdOf (I ++ J)).proto = p.inner.proto := by rw [hin]
  unfold icmpR
  rw [if_neg (by omega), if_neg (by simp [hz]), getD_left (by omega), getD_left (by omega), f0, f1, if_neg (by omega), if_pos hk, hd8]
  unfold faultR
  rw [hhd, if_neg (by simp [hpart]), hsz2, hln2, hpr2, hsI, Int.toNat_natCast, hdr, if_neg (by rw [List.length_append] at hIJ ⊢; rw [hsI] at hlen; omega), hpr, hsz, ← hpat, ← h3, ← h4]
  obtain ⟨q1, q2, q3, q4, q5, q6, q7, q8, q9, q10⟩ := p
  simp only at *
  subst h1 h2 h5 h6 hin
  rcases hpp with ⟨hp1, hs, hd⟩ | ⟨hp1, hj, hs, hd⟩
  · have hne : (hdOf (I ++ J)).proto ≠ 1 := by omega
    rw [if_pos hp1]
    obtain ⟨r0, r2⟩ := hports.1 hne
    have hb1 : ((hdOf (I ++ J)).proto == 1) = false := by simpa using hne
    simp only [portsP, chPorts, Pt.z, hb1, r0, r2, hs, hd]
    cases src <;> rfl
  · obtain ⟨r4, r0⟩ := hports.2 hp1
    have hb1 : ((hdOf (I ++ J)).proto == 1) = true := by simpa using hp1
    rw [if_neg (by omega), if_pos ⟨hp1, by rw [r0]; exact hj⟩]
    simp only [portsP, chPorts, Pt.z, hb1, r4]
    cases src <;> rfl
end
/- What is rewritten is got again, plain: the whole frame. -/
def chP (p : Pt) (out : Bool) (a port : Int) : Pt := if p.err = true then { chPorts p (p.inner.proto == 1) (!out) port with inner := chH p.inner (!out) a } else chPorts p (p.proto == 1) out port
theorem putF_off {F : Int → Int} {a n v k : Int} (h : putF F a n v k = 0) (hv : v ≠ 0) : ¬ (a ≤ k ∧ k < a + n) ∧ F k = 0 := by
  unfold putF at h
  split at h
  · exact absurd h hv
  · rename_i hc; exact ⟨hc, h⟩
theorem getR_mid {h : Hd} {X B : List Int} (h1 : 20 ≤ h.size ∧ h.size ≤ 60) (h2 : h.size ≤ h.len) (h3 : h.len ≤ X.length) (hB : seg X h.size.toNat (h.len - h.size).toNat = B) : getR h X = getX h.proto h B := by
  unfold getR getX
  rw [if_neg (by omega), hB]
theorem carChg_far {B : List Int} {proto port old a : Int} {src : Bool} {j : Nat} (h : proto = 1 → j < 2 ∨ 6 ≤ j) (h' : proto ≠ 1 → j ≠ portAt 0 src ∧ j ≠ portAt 0 src + 1 ∧ j ≠ sumAt 0 (proto == 17) ∧ j ≠ sumAt 0 (proto == 17) + 1) : (carChg B proto src port old a).getD j 0 = B.getD j 0 := by
  unfold carChg
  split
  · rename_i h1; exact echoW_far (by have := h h1; omega)
  · rename_i h1
    obtain ⟨a1, a2, a3, a4⟩ := h' h1
    exact carW_far a1 a2 a3 a4
theorem carW_bare {B : List Int} {port o a : Int} {src : Bool} (hl : 8 ≤ B.length) (h : n2 B 6 = 0) : carW B 0 true src port o a = put2 B (portAt 0 src) port := by
  have hpb : portAt 0 src + 2 ≤ 4 := by unfold portAt; cases src <;> simp
  have e0 : n2 (put2 B (portAt 0 src) port) 6 = n2 B 6 := n2_put2_ne (by omega) (by omega)
  unfold carW
  rw [if_pos (.inr ⟨rfl, by rw [show sumAt 0 true = 6 from rfl, e0]; exact h⟩)]
/-- what the statements ask of a rewritten frame -/
structure Again (X Y : List Int) (h : Hd) (p : Pt) (out : Bool) (a port : Int) : Prop where
  b8 : Bytes8 Y
  len : (Y.length : Int) = h.len
  getE : getE Y = 0
  hd : hdOf Y = chH h out a
  part : getR (hdOf Y) Y = (0, chP p out a port)
  far : ∀ k : Nat, k < Y.length → freeF h p out k = 0 → Y.getD k 0 = X.getD k 0
  sum : p.err = true → sumOf (seg Y p.pat.toNat p.inner.size.toNat) % 65535 = sumOf (seg X p.pat.toNat p.inner.size.toNat) % 65535
/-- a frame that is got, in its pieces -/
structure Pieces (X : List Int) (A B : List Int) : Prop where
  ok : HdOk A B.length
  b8 : Bytes8 B
  cut : X.take (hdOf X).len.toNat = A ++ B
  hd : hdOf X = ⟨A.length, A.length + B.length, A.getD 8 0, A.getD 9 0, n4 A 12, n4 A 16⟩
  mid : seg X (hdOf X).size.toNat ((hdOf X).len - (hdOf X).size).toNat = B
  le : A.length + B.length ≤ X.length
  sz : A.length ≤ 60
theorem pieces {X : List Int} (h8 : Bytes8 X) (hE : Go.Proofs.Ytgfjdnbejmmckaa.getE X = 0) : ∃ A B, Pieces X A B := by
  obtain ⟨A, B, ok, b8, cut, hs, hl, hh, hm, hle⟩ := HdOk.of h8 hE
  have hsz := ok.2.2.1
  exact ⟨A, B, ok, b8, cut, by rw [hh, (ok.got rfl).2], hm, hle, by omega⟩
theorem Pieces.getR {X A B : List Int} (h : Pieces X A B) : Go.Proofs.Ytgfjdnbejmmckaa.getR (hdOf X) X = getX (hdOf X).proto (hdOf X) B := by
  have e := h.hd
  have h20 := h.ok.2.1
  have := h.sz
  have := h.le
  refine getR_mid ?_ ?_ ?_ h.mid <;> rw [e] <;> simp only [] <;> omega
theorem Pieces.at_ {X A B : List Int} (h : Pieces X A B) {k : Nat} (hk : k < A.length + B.length) : (A ++ B).getD k 0 = X.getD k 0 := by
  rw [← h.cut]
  have e : (hdOf X).len.toNat = A.length + B.length := by rw [h.hd]; simp only []; omega
  rw [e]
  exact getD_take_ hk h.le
section
variable {X A B : List Int} {p : Pt} {out : Bool} {a port : Int}
theorem getX_to {h : Hd} {q : Pt} {pr : Int} (hok : getX pr h B = (0, q)) : pr = 17 ∧ udpR h B = (0, q) ∨ pr = 6 ∧ tcpR h B = (0, q) ∨ pr = 1 ∧ icmpR h B = (0, q) := by
  unfold getX at hok
  split at hok
  · rename_i h1; exact .inl ⟨h1, hok⟩
  split at hok
  · rename_i h1; exact .inr (.inl ⟨h1, hok⟩)
  split at hok
  · rename_i h1; exact .inr (.inr ⟨h1, hok⟩)
  · cases hok
/-- the frame A' ++ B' is got, as the whole -/
theorem again_of {B' : List Int} (hp : Pieces X A B) (h8 : Bytes8 B') (hB' : B'.length = B.length) (ha : 0 ≤ a ∧ a ≤ 4294967295) {q : Pt} (hq : getX (hdOf X).proto (chH (hdOf X) out a) B' = (0, q)) :
    Bytes8 (addrL A 0 out a ++ B') ∧ ((addrL A 0 out a ++ B').length : Int) = (hdOf X).len ∧ Go.Proofs.Ytgfjdnbejmmckaa.getE (addrL A 0 out a ++ B') = 0 ∧ hdOf (addrL A 0 out a ++ B') = chH (hdOf X) out a ∧ Go.Proofs.Ytgfjdnbejmmckaa.getR (hdOf (addrL A 0 out a ++ B')) (addrL A 0 out a ++ B') = (0, q) := by
  obtain ⟨e1, e2⟩ := hp.ok.again out ha hB'
  have h20 := hp.ok.2.1
  have hA8 := b8_addrL hp.ok.1 0 out (v := a) (by omega) ha
  have hl : (addrL A 0 out a ++ B').length = A.length + B.length := by rw [List.length_append, addrL_len, hB']
  have hh : hdOf (A ++ B) = hdOf X := by rw [hp.hd, (hp.ok.got rfl).2]
  rw [hh] at e2
  have hd := hp.hd
  have hsz := hp.sz
  refine ⟨hA8.app h8, by rw [hl, hd]; simp only []; omega, e1, e2, ?_⟩
  rw [e2]
  have hs : (chH (hdOf X) out a).size = A.length := by rw [hd]; rfl
  have hn : (chH (hdOf X) out a).len = A.length + B.length := by rw [hd]; rfl
  rw [getR_mid (B := B') (by omega) (by omega) (by omega)]
  · exact hq
  · rw [hs, hn, Int.toNat_natCast, show ((A.length : Int) + B.length - A.length).toNat = B.length by omega]
    have := seg_right (addrL A 0 out a) B' 0 B.length
    rw [addrL_len] at this
    rw [show A.length = A.length + 0 from rfl, this]
    unfold seg
    rw [List.drop_zero, List.take_of_length_le (by omega)]
theorem head_far {k : Nat} (h20 : 20 ≤ A.length) (h1 : k < addrAt 0 out ∨ addrAt 0 out + 4 ≤ k) (h2 : k ≠ 10) (h3 : k ≠ 11) : (addrL A 0 out a).getD k 0 = A.getD k 0 := addrL_far h1 (by omega) (by omega)
/-- bytes that are left, of both pieces -/
theorem far_of {B' : List Int} (hp : Pieces X A B) (hB' : B'.length = B.length) {k : Nat} (hk : k < A.length + B.length) (h1 : k < addrAt 0 out ∨ addrAt 0 out + 4 ≤ k) (h2 : k ≠ 10) (h3 : k ≠ 11) (hb : ∀ j, k = A.length + j → B'.getD j 0 = B.getD j 0) :
    (addrL A 0 out a ++ B').getD k 0 = X.getD k 0 := by
  have h20 := hp.ok.2.1
  rw [← hp.at_ hk]
  rcases Nat.lt_or_ge k A.length with hlt | hge
  · rw [getD_left (by rw [addrL_len]; omega), getD_left hlt, head_far h20 h1 h2 h3]
  · obtain ⟨j, rfl⟩ : ∃ j, k = A.length + j := ⟨k - A.length, by omega⟩
    have e := getD_right (addrL A 0 out a) B' j
    rw [addrL_len] at e
    rw [e, getD_right, hb j rfl]
theorem outer_off {f : Int → Int} {k : Nat} (h : putF (fun k => if k = 11 then 3 else if k = 10 then 3 else 0) (if out = true then 12 else 16) 4 1 k = 0) : (k < addrAt 0 out ∨ addrAt 0 out + 4 ≤ k) ∧ k ≠ 10 ∧ k ≠ 11 := by
  obtain ⟨h1, h2⟩ := putF_off h (by omega)
  unfold addrAt
  split at h2
  · omega
  split at h2
  · omega
  cases out <;> simp at h1 ⊢ <;> omega
end
/- What is rewritten is got again, plain: UDP, TCP, echoes, errors. -/
def f0 (out : Bool) : Int → Int := putF (fun k => if k = 11 then 3 else if k = 10 then 3 else 0) (if out then 12 else 16) 4 1
section
variable {h : Hd} {p : Pt} {out : Bool}
theorem freeF_bare (h1 : h.proto = 17) (hb : p.bare = true) : freeF h p out = putF (f0 out) (h.size + (if out then 0 else 2)) 2 2 := by unfold freeF f0; rw [if_pos h1, if_pos hb]
theorem freeF_udp (h1 : h.proto = 17) (hb : p.bare = false) : freeF h p out = putF (putF (f0 out) (h.size + (if out then 0 else 2)) 2 2) (h.size + 6) 2 3 := by unfold freeF f0; rw [if_pos h1, if_neg (by simp [hb])]
theorem freeF_tcp (h1 : h.proto = 6) : freeF h p out = putF (putF (f0 out) (h.size + (if out then 0 else 2)) 2 2) (h.size + 16) 2 3 := by unfold freeF f0; rw [if_neg (by omega), if_pos h1]
theorem freeF_echo (h1 : h.proto = 1) (he : p.err = false) : freeF h p out = putF (putF (f0 out) (h.size + 4) 2 2) (h.size + 2) 2 3 := by unfold freeF f0; rw [if_neg (by omega), if_neg (by omega), if_pos he]
def fe (h : Hd) (p : Pt) (out : Bool) : Int → Int := putF (putF (putF (f0 out) (h.size + 2) 2 3) (p.pat + (if out then 16 else 12)) 4 1) (p.pat + 10) 2 3
theorem freeF_err (h1 : h.proto = 1) (he : p.err = true) (hi : p.inner.proto = 17 ∨ p.inner.proto = 6 ∨ p.inner.proto = 1) : freeF h p out =
    putF (putF (fe h p out) (p.pat + p.inner.size + (if p.inner.proto = 1 then 4 else if out then 2 else 0)) 2 2) (p.pat + p.inner.size + (if p.inner.proto = 1 then 2 else if p.inner.proto = 17 then 6 else 16)) 2 3 := by
  unfold freeF fe f0
  rw [if_neg (by omega), if_neg (by omega), if_neg (by simp [he])]
  rcases hi with hi | hi | hi
  · rw [if_pos hi, if_neg (show ¬ p.inner.proto = 1 by omega), if_neg (show ¬ p.inner.proto = 1 by omega), if_pos hi]
  · rw [if_neg (show ¬ p.inner.proto = 17 by omega), if_pos hi, if_neg (show ¬ p.inner.proto = 1 by omega), if_neg (show ¬ p.inner.proto = 1 by omega), if_neg (show ¬ p.inner.proto = 17 by omega)]
  · rw [if_neg (show ¬ p.inner.proto = 17 by omega), if_neg (show ¬ p.inner.proto = 6 by omega), if_pos hi, if_pos hi, if_pos hi]
end
section
variable {X A B : List Int} {p : Pt} {out : Bool} {a port : Int}
theorem wd_ch (hp : Pieces X A B) (out : Bool) (a : Int) : wd (chH (hdOf X) out a).src + wd (chH (hdOf X) out a).dst = wd (hdOf X).src + wd (hdOf X).dst - wd (n4 A (addrAt 0 out)) + wd a := by
  rw [hp.hd]
  cases out
  · simp only [chH, addrAt, Bool.false_eq_true, if_false, Nat.zero_add]; omega
  · simp only [chH, addrAt, if_true, Nat.zero_add]; omega
theorem ch_bds (hp : Pieces X A B) (out : Bool) (ha : 0 ≤ a) : 0 ≤ (hdOf X).src ∧ 0 ≤ (hdOf X).dst ∧ 0 ≤ (chH (hdOf X) out a).src ∧ 0 ≤ (chH (hdOf X) out a).dst ∧ (hdOf X).size = A.length ∧ (hdOf X).len = A.length + B.length := by
  have h20 := hp.ok.2.1
  have s12 := n4_bd hp.ok.1 (i := 12) (by omega)
  have s16 := n4_bd hp.ok.1 (i := 16) (by omega)
  rw [hp.hd]
  cases out
  · exact ⟨s12.1, s16.1, s12.1, ha, rfl, rfl⟩
  · exact ⟨s12.1, s16.1, ha, s16.1, rfl, rfl⟩
theorem outer_0 {k : Nat} (h : f0 out k = 0) : (k < addrAt 0 out ∨ addrAt 0 out + 4 ≤ k) ∧ k ≠ 10 ∧ k ≠ 11 := outer_off (f := f0 out) h
theorem got_udp (hp : Pieces X A B) (h1 : (hdOf X).proto = 17) (h2 : udpR (hdOf X) B = (0, p)) (ha : 0 ≤ a ∧ a ≤ 4294967295) (hport : 0 ≤ port ∧ port ≤ 65535) : Again X (chgW (A ++ B) (hdOf X) p out a port) (hdOf X) p out a port := by
  have hb := addrAt_bd 0 out
  have h20 := hp.ok.2.1
  have ho := n4_bd hp.ok.1 (i := addrAt 0 out) (by omega)
  obtain ⟨c1, c2, c3, c4, hs, hn⟩ := ch_bds hp out ha.1
  obtain ⟨q1, q2, q3, q4, q5, _, _⟩ := udp_again (h' := chH (hdOf X) out a) (src := out) hp.b8 hport ho ha c1 c2 c3 c4 (wd_ch hp out a) h2
  rw [chgW_plain q2 h20 (by rw [hs]; rfl)]
  have eC : carChg B p.proto out port (n4 A (addrAt 0 out)) a = carW B 0 true out port (n4 A (addrAt 0 out)) a := by rw [q3]; rfl
  rw [eC]
  have hX : getX (hdOf X).proto (chH (hdOf X) out a) (carW B 0 true out port (n4 A (addrAt 0 out)) a) = (0, chP p out a port) := by
    rw [h1]; unfold getX chP; rw [if_pos rfl, q1, q2, q3]; rfl
  obtain ⟨r1, r2, r3, r4, r5⟩ := again_of hp (b8_carW hp.b8 0 true out (by omega) hport ho ha) (carW_len _ _ _ _ _ _ _) ha hX
  refine ⟨r1, r2, r3, r4, r5, fun k hk hf => ?_, fun he => by rw [q2] at he; cases he⟩
  have hk' : k < A.length + B.length := by omega
  have hpa : portAt 0 out = if out then 0 else 2 := by unfold portAt; rfl
  cases hba : p.bare with
  | true =>
    rw [freeF_bare h1 hba, hs] at hf
    obtain ⟨f1, f2⟩ := putF_off hf (by omega)
    obtain ⟨g1, g2, g3⟩ := outer_0 f2
    refine far_of hp (carW_len _ _ _ _ _ _ _) hk' g1 g2 g3 fun j hj => ?_
    rw [hba] at q5
    rw [carW_bare q4 (by simpa using q5.symm)]
    refine put2_far ?_ ?_ <;> rw [hpa] <;> cases out <;> simp at f1 ⊢ <;> omega
  | false =>
    rw [freeF_udp h1 hba, hs] at hf
    obtain ⟨f0', f1⟩ := putF_off hf (by omega)
    obtain ⟨f1, f2⟩ := putF_off f1 (by omega)
    obtain ⟨g1, g2, g3⟩ := outer_0 f2
    refine far_of hp (carW_len _ _ _ _ _ _ _) hk' g1 g2 g3 fun j hj => ?_
    refine carW_far ?_ ?_ ?_ ?_ <;> first | (rw [hpa]; cases out <;> simp at f1 ⊢ <;> omega) | (simp only [sumAt, if_true]; omega)
theorem got_tcp (hp : Pieces X A B) (h1 : (hdOf X).proto = 6) (h2 : tcpR (hdOf X) B = (0, p)) (ha : 0 ≤ a ∧ a ≤ 4294967295) (hport : 0 ≤ port ∧ port ≤ 65535) : Again X (chgW (A ++ B) (hdOf X) p out a port) (hdOf X) p out a port := by
  have hb := addrAt_bd 0 out
  have h20 := hp.ok.2.1
  have ho := n4_bd hp.ok.1 (i := addrAt 0 out) (by omega)
  obtain ⟨c1, c2, c3, c4, hs, hn⟩ := ch_bds hp out ha.1
  obtain ⟨q1, q2, q3, q4, _, _⟩ := tcp_again (h' := chH (hdOf X) out a) (src := out) hp.b8 hport ho ha c1 c2 c3 c4 (wd_ch hp out a) h2
  rw [chgW_plain q2 h20 (by rw [hs]; rfl)]
  have eC : carChg B p.proto out port (n4 A (addrAt 0 out)) a = carW B 0 false out port (n4 A (addrAt 0 out)) a := by rw [q3]; rfl
  rw [eC]
  have hX : getX (hdOf X).proto (chH (hdOf X) out a) (carW B 0 false out port (n4 A (addrAt 0 out)) a) = (0, chP p out a port) := by
    rw [h1]; unfold getX chP; rw [if_neg (by decide), if_pos rfl, q1, q2, q3]; rfl
  obtain ⟨r1, r2, r3, r4, r5⟩ := again_of hp (b8_carW hp.b8 0 false out (by omega) hport ho ha) (carW_len _ _ _ _ _ _ _) ha hX
  refine ⟨r1, r2, r3, r4, r5, fun k hk hf => ?_, fun he => by rw [q2] at he; cases he⟩
  have hk' : k < A.length + B.length := by omega
  have hpa : portAt 0 out = if out then 0 else 2 := by unfold portAt; rfl
  rw [freeF_tcp h1, hs] at hf
  obtain ⟨f0', f1⟩ := putF_off hf (by omega)
  obtain ⟨f1, f2⟩ := putF_off f1 (by omega)
  obtain ⟨g1, g2, g3⟩ := outer_0 f2
  refine far_of hp (carW_len _ _ _ _ _ _ _) hk' g1 g2 g3 fun j hj => ?_
  refine carW_far ?_ ?_ ?_ ?_ <;> first | (rw [hpa]; cases out <;> simp at f1 ⊢ <;> omega) | (simp only [sumAt, Bool.false_eq_true, if_false]; omega)
theorem got_echo (hp : Pieces X A B) (h1 : (hdOf X).proto = 1) (h2 : icmpR (hdOf X) B = (0, p)) (he : p.err = false) (ha : 0 ≤ a ∧ a ≤ 4294967295) (hport : 0 ≤ port ∧ port ≤ 65535) : Again X (chgW (A ++ B) (hdOf X) p out a port) (hdOf X) p out a port := by
  have hb := addrAt_bd 0 out
  have h20 := hp.ok.2.1
  obtain ⟨c1, c2, c3, c4, hs, hn⟩ := ch_bds hp out ha.1
  obtain ⟨l1, _⟩ := icmp_len h2
  obtain ⟨q1, q3, _⟩ := echo_again (h' := chH (hdOf X) out a) (src := out) hp.b8 hport h2 he
  rw [chgW_plain he h20 (by rw [hs]; rfl)]
  have eC : carChg B p.proto out port (n4 A (addrAt 0 out)) a = echoW B 0 port := by rw [q3]; rfl
  rw [eC]
  have hX : getX (hdOf X).proto (chH (hdOf X) out a) (echoW B 0 port) = (0, chP p out a port) := by
    rw [h1]; unfold getX chP; rw [if_neg (by decide), if_neg (by decide), if_pos rfl, q1, he, q3]; rfl
  have hlB : (echoW B 0 port).length = B.length := by unfold echoW; rw [put2_len, put2_len]
  obtain ⟨r1, r2, r3, r4, r5⟩ := again_of hp (b8_echoW hp.b8 0 (v := port) (by omega) hport) hlB ha hX
  refine ⟨r1, r2, r3, r4, r5, fun k hk hf => ?_, fun he' => by rw [he] at he'; cases he'⟩
  have hk' : k < A.length + B.length := by omega
  rw [freeF_echo h1 he, hs] at hf
  obtain ⟨f0', f1⟩ := putF_off hf (by omega)
  obtain ⟨f1, f2⟩ := putF_off f1 (by omega)
  obtain ⟨g1, g2, g3⟩ := outer_0 f2
  exact far_of hp hlB hk' g1 g2 g3 fun j hj => echoW_far (by omega)
theorem sumOf_mod {l l' : List Int} (h8 : Bytes8 l) (h8' : Bytes8 l') {q : Int} (h : sb true l' = sb true l + 65535 * q) : sumOf l' % 65535 = sumOf l % 65535 := by
  have h1 := (sb_bd l h8 true).1
  have h2 := (sb_bd l' h8' true).1
  unfold sumOf fo
  split <;> split <;> omega
theorem seg_app {A B C : List Int} {i n : Nat} (hi : i = A.length) (hn : n = B.length) : seg (A ++ (B ++ C)) i n = B := by
  subst hi hn
  have := seg_right A (B ++ C) 0 B.length
  rw [Nat.add_zero] at this
  rw [this]
  unfold seg
  rw [List.drop_zero, List.take_left]
set_option maxHeartbeats 2000000 in
theorem got_err (hX8 : Bytes8 X) (hp : Pieces X A B) (h1 : (hdOf X).proto = 1) (h2 : icmpR (hdOf X) B = (0, p)) (he : p.err = true) (ha : 0 ≤ a ∧ a ≤ 4294967295) (hport : 0 ≤ port ∧ port ≤ 65535) : Again X (chgW (A ++ B) (hdOf X) p out a port) (hdOf X) p out a port := by
  have hb := addrAt_bd 0 (!out)
  have h20 := hp.ok.2.1
  obtain ⟨c1, c2, c3, c4, hs, hn⟩ := ch_bds hp out ha.1
  obtain ⟨E, I, J, rfl, lE, lI, lI2, lJ, bE, bI, bJ, _, i1, i2, i3, i4, i5, i6, i7, i8, i9, i10, i11, i12⟩ := err_of hp.b8 h2 he
  have hsz := hp.sz
  have hle := hp.le
  have hll : (E ++ (I ++ J)).length = 8 + I.length + J.length := by rw [List.length_append, List.length_append]; omega
  have hpat : p.pat.toNat = A.length + 8 := by rw [i2, hs]; omega
  have hinr : p.inner.size.toNat = I.length := by rw [i1]; rfl
  rw [chgW_err he h20 lE lI (by rw [hs]; rfl) hpat hinr]
  have q1 := err_again (h' := chH (hdOf X) out a) (h := hdOf X) (src := !out) (addr := a) (port := port) hp.b8 lE lI lJ hport ha rfl i5 i6 i1 i7 i4 i8 i2 i3 i9 i10 i11 i12 he
  have hX : getX (hdOf X).proto (chH (hdOf X) out a) (errChg E I J p.inner.proto (!out) port a) = (0, chP p out a port) := by
    rw [h1]; unfold getX chP; rw [if_neg (by decide), if_neg (by decide), if_pos rfl, q1, he]; rfl
  have hlB : (errChg E I J p.inner.proto (!out) port a).length = (E ++ (I ++ J)).length := by rw [errChg_len]; omega
  obtain ⟨r1, r2, r3, r4, r5⟩ := again_of hp (b8_errChg bE bI bJ lI lJ hport ha) hlB ha hX
  refine ⟨r1, r2, r3, r4, r5, fun k hk hf => ?_, fun _ => ?_⟩
  · have hk' : k < A.length + (E ++ (I ++ J)).length := by omega
    have hip : p.inner.proto = 17 ∨ p.inner.proto = 6 ∨ p.inner.proto = 1 := by omega
    rw [freeF_err h1 he hip, i1, i2, hs] at hf
    obtain ⟨f5, hf⟩ := putF_off hf (by omega)
    obtain ⟨f4, hf⟩ := putF_off hf (by omega)
    unfold fe at hf
    rw [i2, hs] at hf
    obtain ⟨f3, hf⟩ := putF_off hf (by omega)
    obtain ⟨f2, hf⟩ := putF_off hf (by omega)
    obtain ⟨f1, hf⟩ := putF_off hf (by omega)
    obtain ⟨g1, g2, g3⟩ := outer_0 hf
    refine far_of hp hlB hk' g1 g2 g3 fun j hj => ?_
    rw [errChg_split lE]
    have lE' : (put2 (put2 E 2 0) 2 (sumOf (put2 (errMid E I J p.inner.proto (!out) port a) 2 0))).length = E.length := by rw [put2_len, put2_len]
    rcases Nat.lt_or_ge j 8 with hj8 | hj8
    · rw [getD_left (by omega), getD_left (by omega), put2_far (by omega) (by omega), put2_far (by omega) (by omega)]
    obtain ⟨j, rfl⟩ : ∃ j', j = E.length + j' := ⟨j - E.length, by omega⟩
    have e1 := getD_right (put2 (put2 E 2 0) 2 (sumOf (put2 (errMid E I J p.inner.proto (!out) port a) 2 0))) (addrL I 0 (!out) a ++ carChg J p.inner.proto (!out) port (n4 I (addrAt 0 (!out))) a) j
    rw [lE'] at e1
    rw [e1, getD_right]
    rcases Nat.lt_or_ge j I.length with hjI | hjI
    · rw [getD_left (by rw [addrL_len]; omega), getD_left hjI]
      refine addrL_far ?_ (by omega) (by omega)
      unfold addrAt
      cases out <;> simp at f2 ⊢ <;> omega
    · obtain ⟨j, rfl⟩ : ∃ j', j = I.length + j' := ⟨j - I.length, by omega⟩
      have e2 := getD_right (addrL I 0 (!out) a) (carChg J p.inner.proto (!out) port (n4 I (addrAt 0 (!out))) a) j
      rw [addrL_len] at e2
      rw [e2, getD_right]
      refine carChg_far (fun hi => ?_) (fun hi => ?_)
      · rw [if_pos hi] at f4 f5; omega
      · rw [if_neg hi] at f4 f5
        refine ⟨?_, ?_, ?_, ?_⟩
        · unfold portAt; cases out <;> simp at f4 ⊢ <;> omega
        · unfold portAt; cases out <;> simp at f4 ⊢ <;> omega
        · unfold sumAt
          rcases hip with h | h | h
          · rw [if_pos h] at f5; simp [h]; omega
          · rw [if_neg (by omega)] at f5; simp [h]; omega
          · exact absurd h hi
        · unfold sumAt
          rcases hip with h | h | h
          · rw [if_pos h] at f5; simp [h]; omega
          · rw [if_neg (by omega)] at f5; simp [h]; omega
          · exact absurd h hi
  · rw [hpat, hinr, errChg_split lE]
    have e1 : seg (addrL A 0 out a ++ (put2 (put2 E 2 0) 2 (sumOf (put2 (errMid E I J p.inner.proto (!out) port a) 2 0)) ++ (addrL I 0 (!out) a ++ carChg J p.inner.proto (!out) port (n4 I (addrAt 0 (!out))) a))) (A.length + 8) I.length = addrL I 0 (!out) a := by
      rw [← List.append_assoc]
      exact seg_app (by rw [List.length_append, addrL_len, put2_len, put2_len]; omega) (by rw [addrL_len])
    have e2 : seg X (A.length + 8) I.length = I := by
      have h3 : seg (X.take (hdOf X).len.toNat) (A.length + 8) I.length = seg X (A.length + 8) I.length := by
        have e : (hdOf X).len.toNat = A.length + (E ++ (I ++ J)).length := by rw [hn]; omega
        unfold seg
        rw [List.drop_take, List.take_take, e, Nat.min_eq_left (by omega)]
      rw [← h3, hp.cut, ← List.append_assoc]
      exact seg_app (by rw [List.length_append]; omega) rfl
    rw [e1, e2]
    obtain ⟨q, hq⟩ := sb_addr I 0 (!out) a rfl (by omega) bI ha
    exact sumOf_mod bI (b8_addrL bI 0 (!out) (by omega) ha) hq
theorem chg_got (hX8 : Bytes8 X) (hE : getE X = 0) (hR : getR (hdOf X) X = (0, p)) (ha : 0 ≤ a ∧ a ≤ 4294967295) (hport : 0 ≤ port ∧ port ≤ 65535) : Again X (chgW (X.take (hdOf X).len.toNat) (hdOf X) p out a port) (hdOf X) p out a port := by
  obtain ⟨A, B, hp⟩ := pieces hX8 hE
  rw [hp.getR] at hR
  rw [hp.cut]
  rcases getX_to hR with ⟨h1, h2⟩ | ⟨h1, h2⟩ | ⟨h1, h2⟩
  · exact got_udp hp h1 h2 ha hport
  · exact got_tcp hp h1 h2 ha hport
  · cases he : p.err with
    | false => exact got_echo hp h1 h2 he ha hport
    | true => exact got_err hX8 hp h1 h2 he ha hport
end
end Go.Proofs.Ytgfjdnbejmmckaa
