/- What packets carry, plain: what is laid is got; one bit turned; another sum; errors about errors. -/
import Derived.Test.YtlhfbmoodehoiaaFepAll2
namespace Go.Proofs.Ytlhfbmoodehoiaa
set_option linter.unusedVariables false
set_option linter.unusedSimpArgs false
open Go.RowKit
def Cl (l : List Int) : Prop := ∃ q : Int, 0 < q ∧ sb true l = 65535 * q
theorem Cl.zero {l : List Int} (h : Cl l) : sumOf l = 0 := by obtain ⟨q, h1, h2⟩ := h; exact sumOf_null l q h1 h2
theorem Cl.turn {l : List Int} (h : Cl l) (hl : ∀ x, x ∈ l → 0 ≤ x ∧ x ≤ 255) (j m : Nat) (hj : j < l.length) (hm : m < 8) : sumOf (l.set j (flip (l.getD j 0).toNat m : Nat)) ≠ 0 := by
  obtain ⟨q, _, h2⟩ := h; exact flip_sum l q j m hj hm hl h2
theorem cl_of (l l0 : List Int) (h0 : 0 ≤ sb true l0) (h : sb true l = sb true l0 + sumOf l0) : Cl l := by
  unfold sumOf at h
  unfold Cl
  rw [h]
  generalize sb true l0 = A at *
  by_cases hA : A = 0
  · subst hA; exact ⟨1, by omega, by decide⟩
  · have : fo A = (A - 1) % 65535 + 1 := by unfold fo; rw [if_neg hA]
    rw [this]; exact ⟨(A - 1) / 65535 + 1, by omega, by omega⟩
theorem cl_nev (l l0 : List Int) (h0 : 0 ≤ sb true l0) (h : sb true l = sb true l0 + nev (sumOf l0)) : Cl l := by
  unfold nev at h
  by_cases hz : sumOf l0 = 0
  · rw [if_pos hz] at h
    unfold Cl
    rw [h]
    unfold sumOf at hz
    generalize sb true l0 = A at *
    by_cases hA : A = 0
    · subst hA; exact absurd hz (by decide)
    · have : fo A = (A - 1) % 65535 + 1 := by unfold fo; rw [if_neg hA]
      rw [this] at hz; exact ⟨(A - 1) / 65535 + 2, by omega, by omega⟩
  · rw [if_neg hz] at h
    exact cl_of l l0 h0 h
theorem udpB_sb (a b : Int) (l : List Int) (S : Int) : sb true (udpB a b l S) = sb true (udpB a b l 0) + S := by
  simp only [udpB, be2, List.cons_append, List.nil_append, sb]; omega
theorem tcpB_sb (a b f : Int) (l : List Int) (S : Int) : sb true (tcpB a b f l S) = sb true (tcpB a b f l 0) + S := by
  simp only [tcpB, be2, List.cons_append, List.nil_append, sb]; omega
theorem echoB_sb (k a : Int) (l : List Int) (S : Int) : sb true (echoB k a l S) = sb true (echoB k a l 0) + S := by
  simp only [echoB, be2, List.cons_append, List.nil_append, sb]; omega
theorem faultB_sb (k c : Int) (l : List Int) (S : Int) : sb true (faultB k c l S) = sb true (faultB k c l 0) + S := by
  simp only [faultB, be2, List.cons_append, List.nil_append, sb]; omega
def Bytes8 (l : List Int) : Prop := ∀ x, x ∈ l → 0 ≤ x ∧ x ≤ 255
theorem b8 {l : List Int} (h : ∀ x, x ∈ l → 0 ≤ x ∧ x ≤ 255) : Bytes8 l := h
theorem Bytes8.app {a b : List Int} (ha : Bytes8 a) (hb : Bytes8 b) : Bytes8 (a ++ b) := fun x hx => (List.mem_append.1 hx).elim (ha x) (hb x)
theorem Bytes8.take {a : List Int} (ha : Bytes8 a) (n : Nat) : Bytes8 (a.take n) := fun x hx => ha x (List.mem_of_mem_take hx)
theorem udpB_bd {a b : Int} {l : List Int} {S : Int} (ha : 0 ≤ a ∧ a ≤ 65535) (hb : 0 ≤ b ∧ b ≤ 65535) (hl : Bytes8 l) (hn : l.length ≤ 65527) (hS : 0 ≤ S ∧ S ≤ 65535) : Bytes8 (udpB a b l S) :=
  ((((b8 (be2_bd a ha)).app (be2_bd b hb)).app (be2_bd _ (by omega))).app (be2_bd S hS)).app hl
theorem tcpB_bd {a b f : Int} {l : List Int} {S : Int} (ha : 0 ≤ a ∧ a ≤ 65535) (hb : 0 ≤ b ∧ b ≤ 65535) (hl : Bytes8 l) (hS : 0 ≤ S ∧ S ≤ 65535) : Bytes8 (tcpB a b f l S) :=
  (((((b8 (be2_bd a ha)).app (be2_bd b hb)).app (fun x hx => by simp at hx; omega)).app (be2_bd S hS)).app (fun x hx => by simp at hx; omega)).app hl
theorem echoB_bd {k a : Int} {l : List Int} {S : Int} (hk : 0 ≤ k ∧ k ≤ 255) (ha : 0 ≤ a ∧ a ≤ 65535) (hl : Bytes8 l) (hS : 0 ≤ S ∧ S ≤ 65535) : Bytes8 (echoB k a l S) :=
  (((Bytes8.app (fun x hx => by simp at hx; omega) (be2_bd S hS)).app (be2_bd a ha)).app (fun x hx => by simp at hx; omega)).app hl
theorem faultB_bd {k c : Int} {l : List Int} {S : Int} (hl : Bytes8 l) (hS : 0 ≤ S ∧ S ≤ 65535) : Bytes8 (faultB k c l S) :=
  ((Bytes8.app (fun x hx => by simp at hx; omega) (be2_bd S hS)).app (fun x hx => by simp at hx; omega)).app hl
theorem few_len (l : List Int) : (fewL l).length ≤ 1400 := by unfold fewL; rw [List.length_take]; omega
theorem few_bd {l : List Int} (h : Bytes8 l) : Bytes8 (fewL l) := h.take _
theorem nev_bd {s : Int} (h : 0 ≤ s ∧ s ≤ 65535) : 0 ≤ nev s ∧ nev s ≤ 65535 ∧ nev s ≠ 0 := by unfold nev; split <;> omega
section
variable {s d a b : Int} {l : List Int} (hs : 0 ≤ s ∧ s ≤ 4294967295) (hd : 0 ≤ d ∧ d ≤ 4294967295) (ha : 0 ≤ a ∧ a ≤ 65535) (hb : 0 ≤ b ∧ b ≤ 65535) (hl : Bytes8 l)
include hs hd ha hb hl
theorem udp_sum : 0 ≤ csum s d 17 (udpB a b (fewL l) 0) ∧ csum s d 17 (udpB a b (fewL l) 0) ≤ 65535 := by
  have hf := few_len l
  exact csum_bd hs hd (by omega) (by rw [udpB_len]; omega) (udpB_bd ha hb (few_bd hl) (by omega) (by omega))
theorem tcp_sum (f : Int) : 0 ≤ csum s d 6 (tcpB a b f (fewL l) 0) ∧ csum s d 6 (tcpB a b f (fewL l) 0) ≤ 65535 := by
  have hf := few_len l
  exact csum_bd hs hd (by omega) (by rw [tcpB_len]; omega) (tcpB_bd ha hb (few_bd hl) (by omega))
theorem udpL_bd : Bytes8 (udpL s d a b l) := by
  have h := nev_bd (udp_sum hs hd ha hb hl)
  have hf := few_len l
  exact udpB_bd ha hb (few_bd hl) (by omega) ⟨h.1, h.2.1⟩
theorem tcpL_bd (f : Int) : Bytes8 (tcpL s d a b f l) := tcpB_bd ha hb (few_bd hl) (tcp_sum hs hd ha hb hl f)
theorem udp_cl (S : Int) (hS : S = nev (csum s d 17 (udpB a b (fewL l) 0))) : Cl (ph s d 17 (udpB a b (fewL l) S).length ++ udpB a b (fewL l) S) := by
  have hf := few_len l
  refine cl_nev _ (ph s d 17 (udpB a b (fewL l) 0).length ++ udpB a b (fewL l) 0) (sb_bd _ (Bytes8.app (ph_bd hs hd (by omega) (by rw [udpB_len]; omega)) (udpB_bd ha hb (few_bd hl) (by omega) (by omega))) true).1 ?_
  rw [sb_app _ _ (by rw [ph_len]), sb_app _ _ (by rw [ph_len]), udpB_len, udpB_len, udpB_sb, hS]
  unfold csum
  rw [udpB_len]
  omega
theorem tcp_cl (f S : Int) (hS : S = csum s d 6 (tcpB a b f (fewL l) 0)) : Cl (ph s d 6 (tcpB a b f (fewL l) S).length ++ tcpB a b f (fewL l) S) := by
  have hf := few_len l
  refine cl_of _ (ph s d 6 (tcpB a b f (fewL l) 0).length ++ tcpB a b f (fewL l) 0) (sb_bd _ (Bytes8.app (ph_bd hs hd (by omega) (by rw [tcpB_len]; omega)) (tcpB_bd ha hb (few_bd hl) (by omega))) true).1 ?_
  rw [sb_app _ _ (by rw [ph_len]), sb_app _ _ (by rw [ph_len]), tcpB_len, tcpB_len, tcpB_sb, hS]
  unfold csum
  rw [tcpB_len]
  omega
end
section
variable {k a c : Int} {l : List Int} (hl : Bytes8 l)
include hl
theorem echo_sum (hk : 0 ≤ k ∧ k ≤ 255) (ha : 0 ≤ a ∧ a ≤ 65535) : 0 ≤ sumOf (echoB k a (fewL l) 0) ∧ sumOf (echoB k a (fewL l) 0) ≤ 65535 := sumOf_bd (echoB_bd hk ha (few_bd hl) (by omega))
theorem fault_sum : 0 ≤ sumOf (faultB k c (fewL l) 0) ∧ sumOf (faultB k c (fewL l) 0) ≤ 65535 := sumOf_bd (faultB_bd (few_bd hl) (by omega))
theorem echoL_bd (r : Bool) (ha : 0 ≤ a ∧ a ≤ 65535) : Bytes8 (echoL r a l) := by
  have hk : 0 ≤ (if r then (0 : Int) else 8) ∧ (if r then (0 : Int) else 8) ≤ 255 := by cases r <;> decide
  exact echoB_bd hk ha (few_bd hl) (echo_sum hl hk ha)
theorem faultL_bd : Bytes8 (faultL k c l) := faultB_bd (few_bd hl) (fault_sum hl)
theorem echo_cl (hk : 0 ≤ k ∧ k ≤ 255) (ha : 0 ≤ a ∧ a ≤ 65535) : Cl (echoB k a (fewL l) (sumOf (echoB k a (fewL l) 0))) :=
  cl_of _ (echoB k a (fewL l) 0) (sb_bd _ (echoB_bd hk ha (few_bd hl) (by omega)) true).1 (echoB_sb _ _ _ _)
theorem fault_cl : Cl (faultL k c l) :=
  cl_of _ (faultB k c (fewL l) 0) (sb_bd _ (faultB_bd (few_bd hl) (by omega)) true).1 (faultB_sb _ _ _ _)
end
theorem put_bd {t p s d : Int} {l : List Int} (ht : 0 ≤ t ∧ t ≤ 255) (hp : 0 ≤ p ∧ p ≤ 255) (hs : 0 ≤ s ∧ s ≤ 4294967295) (hd : 0 ≤ d ∧ d ≤ 4294967295) (hl : Bytes8 l) (hn : l.length ≤ 65515) : Bytes8 (putL t p s d l) :=
  Bytes8.app (hd_bd t p s d (20 + l.length) _ ht hp hs hd (by omega) (sumOf_bd (hd_bd t p s d (20 + l.length) 0 ht hp hs hd (by omega) (by omega)))) hl
theorem csum_turn {s d p : Int} {x : List Int} (hc : Cl (ph s d p x.length ++ x)) (hb : Bytes8 (ph s d p x.length)) (hx : Bytes8 x) (j m : Nat) (hj : j < x.length) (hm : m < 8) : csum s d p (x.set j (flip (x.getD j 0).toNat m : Nat)) ≠ 0 := by
  have h := hc.turn (hb.app hx) (12 + j) m (by rw [List.length_append, ph_len]; omega) hm
  have e1 : (ph s d p x.length ++ x).getD (12 + j) 0 = x.getD j 0 := by
    rw [List.getD_eq_getElem?_getD, List.getElem?_append_right (by rw [ph_len]; omega), ph_len, List.getD_eq_getElem?_getD]; congr 2; omega
  rw [e1, List.set_append, ph_len, if_neg (by omega)] at h
  unfold csum
  rw [List.length_set]
  have e2 : 12 + j - 12 = j := by omega
  rw [e2] at h
  exact h
/-- what comes of a packet -/
theorem seg_put (t p s d : Int) (x : List Int) : seg (putL t p s d x) 20 x.length = x := by
  unfold seg putL
  generalize sumOf (hd20 t p s d (20 + (x.length : Int)) 0) = S
  have hl : (hd20 t p s d (20 + (x.length : Int)) S).length = 20 := rfl
  rw [List.drop_left' hl, List.take_length]
def getX (p : Int) (h : Hd) (x : List Int) : PR := if p = 17 then udpR h x else if p = 6 then tcpR h x else if p = 1 then icmpR h x else (6, Pt.z)
theorem getR_put (t p s d : Int) (x : List Int) (h : Hd) (hh : h = ⟨20, 20 + x.length, t, p, s, d⟩) : getR h (putL t p s d x) = getX p h x := by
  have e1 : h.size = 20 := by rw [hh]
  have e2 : h.len = 20 + x.length := by rw [hh]
  have e3 : h.proto = p := by rw [hh]
  have e4 : (20 + (x.length : Int) - 20).toNat = x.length := by omega
  unfold getR
  rw [if_neg (by rw [e1, e2, put_len]; omega), e1, e2, e3, e4, show (20 : Int).toNat = 20 from rfl, seg_put]
  rfl
def Bad (r : PR) : Prop := (r.1 ≠ 0 ∧ r.2 = Pt.z) ∨ (r.1 = 0 ∧ r.2.proto = 17 ∧ r.2.bare = true)
theorem udp_bad {h : Hd} {x : List Int} (hl : 8 ≤ x.length) (hc : csum h.src h.dst 17 x ≠ 0) : Bad (udpR h x) := by
  unfold udpR
  rw [if_neg (by omega)]
  by_cases h4 : n2 x 4 = x.length
  · rw [if_neg (by omega)]
    by_cases h6 : n2 x 6 = 0
    · rw [if_neg (fun e => e.1 h6)]; exact .inr ⟨rfl, rfl, by simpa [portsP] using h6⟩
    · rw [if_pos ⟨h6, hc⟩]; exact .inl ⟨by decide, rfl⟩
  · rw [if_pos h4]; exact .inl ⟨by decide, rfl⟩
theorem tcp_bad {h : Hd} {x : List Int} (hl : 20 ≤ x.length) (hc : csum h.src h.dst 6 x ≠ 0) : (tcpR h x).1 ≠ 0 ∧ (tcpR h x).2 = Pt.z := by
  unfold tcpR
  rw [if_neg (by omega)]
  rw [if_pos hc]
  split <;> exact ⟨by decide, rfl⟩
theorem icmp_bad {h : Hd} {x : List Int} (hl : 8 ≤ x.length) (hc : sumOf x ≠ 0) : icmpR h x = (4, Pt.z) := by
  unfold icmpR
  rw [if_neg (by omega), if_pos hc]
/-- what is laid is got -/
theorem udp_got {h : Hd} {a b S : Int} {l : List Int} (ha : 0 ≤ a ∧ a ≤ 65535) (hb : 0 ≤ b ∧ b ≤ 65535) (hS : 0 ≤ S ∧ S ≤ 65535) (hn : l.length ≤ 65527) (hc : S ≠ 0 → csum h.src h.dst 17 (udpB a b l S) = 0) :
    udpR h (udpB a b l S) = (0, { Pt.z with proto := 17, src := a, dst := b, bare := decide (S = 0) }) := by
  have hl := udpB_len a b l S
  have e0 : n2 (udpB a b l S) 0 = a := by rw [n2_eq _ _ (by omega)]; show a / 256 * 256 + a % 256 = a; omega
  have e2 : n2 (udpB a b l S) 2 = b := by rw [n2_eq _ _ (by omega)]; show b / 256 * 256 + b % 256 = b; omega
  have e4 : n2 (udpB a b l S) 4 = 8 + l.length := by rw [n2_eq _ _ (by omega)]; show (8 + (l.length : Int)) / 256 * 256 + (8 + (l.length : Int)) % 256 = _; omega
  have e6 : n2 (udpB a b l S) 6 = S := by rw [n2_eq _ _ (by omega)]; show S / 256 * 256 + S % 256 = S; omega
  unfold udpR
  rw [if_neg (by omega), e4, if_neg (by rw [hl]; omega), e6, if_neg (fun e => e.2 (hc e.1))]
  unfold portsP
  rw [e0, e2]
theorem tcp_got {h : Hd} {a b f S : Int} {l : List Int} (ha : 0 ≤ a ∧ a ≤ 65535) (hb : 0 ≤ b ∧ b ≤ 65535) (hc : csum h.src h.dst 6 (tcpB a b f l S) = 0) :
    tcpR h (tcpB a b f l S) = (0, { Pt.z with proto := 6, src := a, dst := b, flags := f % 256 }) := by
  have hl := tcpB_len a b f l S
  have e0 : n2 (tcpB a b f l S) 0 = a := by rw [n2_eq _ _ (by omega)]; show a / 256 * 256 + a % 256 = a; omega
  have e2 : n2 (tcpB a b f l S) 2 = b := by rw [n2_eq _ _ (by omega)]; show b / 256 * 256 + b % 256 = b; omega
  have e12 : (tcpB a b f l S).getD 12 0 = 80 := rfl
  have e13 : (tcpB a b f l S).getD 13 0 = f % 256 := rfl
  unfold tcpR
  rw [if_neg (by omega), e12, if_neg (by omega), if_neg (fun e => e hc)]
  unfold portsP
  rw [e0, e2, e13]
theorem echo_got {h : Hd} {k a S : Int} {l : List Int} (ha : 0 ≤ a ∧ a ≤ 65535) (hk : k = 0 ∨ k = 8) (hc : sumOf (echoB k a l S) = 0) :
    icmpR h (echoB k a l S) = (0, { Pt.z with proto := 1, kind := k, code := 0, src := a, dst := a }) := by
  have hl := echoB_len k a l S
  have e4 : n2 (echoB k a l S) 4 = a := by rw [n2_eq _ _ (by omega)]; show a / 256 * 256 + a % 256 = a; omega
  have e0 : (echoB k a l S).getD 0 0 = k := rfl
  have e1 : (echoB k a l S).getD 1 0 = 0 := rfl
  unfold icmpR
  rw [if_neg (by omega), if_neg (fun e => e hc), e0, if_pos hk, e1, if_neg (by decide)]
  unfold portsP
  rw [e4]
theorem fault_to {h : Hd} {k c : Int} {l : List Int} (hk : k = 3 ∨ k = 11) (hb : Bytes8 l) (hl : l.length ≤ 1400) :
    icmpR h (faultL k c l) = faultR { Pt.z with proto := 1, kind := k, code := c % 256 } (h.size + 8) l := by
  have hn := faultL_len k c l
  have hz : sumOf (faultL k c l) = 0 := (fault_cl hb).zero
  have e0 : (faultL k c l).getD 0 0 = k := by show k % 256 = k; omega
  have e1 : (faultL k c l).getD 1 0 = c % 256 := rfl
  have e8 : (faultL k c l).drop 8 = fewL l := rfl
  unfold icmpR
  rw [if_neg (by omega), if_neg (fun e => e hz), e0, if_neg (by omega), if_pos (by omega), e1, e8, few_short hl]
/-- an error, about what -/
theorem about_to {P0 : Pt} {at_ : Int} {t p s d n S : Int} {r : List Int} (hr : 8 ≤ r.length) (hn : 28 ≤ n ∧ n ≤ 65535) (hs : 0 ≤ s ∧ s ≤ 4294967295) (hd : 0 ≤ d ∧ d ≤ 4294967295) :
    faultR P0 at_ (hd20 t p s d n S ++ r) = (if p = 17 ∨ p = 6 then (0, portsP { P0 with err := true, inner := ⟨20, n, t, p, s, d⟩, pat := at_ } r 0 2) else
      if p = 1 ∧ (r.getD 0 0 = 0 ∨ r.getD 0 0 = 8) then (0, portsP { P0 with err := true, inner := ⟨20, n, t, p, s, d⟩, pat := at_ } r 4 4) else (6, Pt.z)) := by
  have hz : partE (hd20 t p s d n S ++ r) = 0 := by
    unfold partE
    rw [hd_shape _ _ _ _ _ _ _ 65535 (by omega) (by omega), if_neg (by decide), hd_whole]
  have hh := hd_hd t p s d n S r hs hd
  have hdr : (hd20 t p s d n S ++ r).drop 20 = r := List.drop_left' rfl
  unfold faultR
  rw [if_neg (fun e => e hz), hh, hd_len]
  dsimp only
  rw [if_neg (by omega), show (20 : Int).toNat = 20 from rfl, hdr]
end Go.Proofs.Ytlhfbmoodehoiaa
