/- What is sent, plain: it is got; with one bit turned it isn't; another sum; errors about it. -/
import Derived.Test.YtlhfbmoodehoiaaPartFacts
namespace Go.Proofs.Ytlhfbmoodehoiaa
set_option linter.unusedVariables false
set_option linter.unusedSimpArgs false
open Go.RowKit
def gotP (k : Nat) (a b f : Int) : Pt :=
  if k = 0 then { Pt.z with proto := 17, src := a, dst := b } else if k = 1 then { Pt.z with proto := 6, src := a, dst := b, flags := f % 256 } else
  { Pt.z with proto := 1, kind := if k = 2 then 8 else 0, src := a, dst := a }
theorem wrong_sum {h : Hd} {a b S T : Int} {l : List Int} (hS : 0 ≤ S ∧ S ≤ 65535) (hT : 0 < T ∧ T ≤ 65535) (hne : T ≠ S) (hS0 : S ≠ 0) (hn : l.length ≤ 65527) (hb : Bytes8 (ph h.src h.dst 17 (8 + l.length) ++ udpB a b l T))
    (hc : Cl (ph h.src h.dst 17 (udpB a b l S).length ++ udpB a b l S)) : (udpR h (udpB a b l T)).1 ≠ 0 := by
  have hl := udpB_len a b l T
  have e6 : n2 (udpB a b l T) 6 = T := by rw [n2_eq _ _ (by omega)]; show T / 256 * 256 + T % 256 = T; omega
  have hcs : csum h.src h.dst 17 (udpB a b l T) ≠ 0 := by
    obtain ⟨q, hq, h1⟩ := hc
    unfold csum
    refine sumOf_not _ q (T - S) ?_ ?_ (by omega)
    · rw [hl]; exact (sb_bd _ hb true).1
    · rw [← h1, sb_app _ _ (by rw [ph_len]), sb_app _ _ (by rw [ph_len]), udpB_len, udpB_len, udpB_sb, udpB_sb a b l S]; omega
  unfold udpR
  split
  · decide
  split
  · decide
  rw [if_pos ⟨by rw [e6]; omega, hcs⟩]; decide
theorem bad_of {r : PR} (h : r = (4, Pt.z)) : Bad r := by rw [h]; exact .inl ⟨by decide, rfl⟩
section
variable {s d a b f : Int} {l : List Int} {h : Hd} (hs : 0 ≤ s ∧ s ≤ 4294967295) (hd : 0 ≤ d ∧ d ≤ 4294967295) (ha : 0 ≤ a ∧ a ≤ 65535) (hb : 0 ≤ b ∧ b ≤ 65535) (hl : Bytes8 l) (h1 : h.src = s) (h2 : h.dst = d)
include hs hd ha hb hl h1 h2
theorem udpL_got : udpR h (udpL s d a b l) = (0, gotP 0 a b f) := by
  have hf := few_len l
  have hn := nev_bd (udp_sum hs hd ha hb hl)
  have hc := udp_cl hs hd ha hb hl _ rfl
  unfold udpL
  rw [udp_got ha hb ⟨hn.1, hn.2.1⟩ (by omega) (fun _ => by rw [h1, h2]; exact hc.zero)]
  rw [decide_eq_false hn.2.2]
  rfl
theorem tcpL_got : tcpR h (tcpL s d a b f l) = (0, gotP 1 a b f) := by
  have hc := tcp_cl hs hd ha hb hl f _ rfl
  unfold tcpL
  rw [tcp_got ha hb (by rw [h1, h2]; exact hc.zero)]
  rfl
omit hs hd hb h1 h2 in
theorem echoL_got (r : Bool) : icmpR h (echoL r a l) = (0, gotP (if r then 3 else 2) a b f) := by
  have hk : 0 ≤ (if r then (0 : Int) else 8) ∧ (if r then (0 : Int) else 8) ≤ 255 := by cases r <;> decide
  have hc := echo_cl hl hk ha
  unfold echoL
  rw [echo_got ha (by cases r <;> simp) hc.zero]
  cases r <;> rfl
theorem car_got (k : Nat) (hk : k < 4) : getX (carP k) h (carL k s d a b f l) = (0, gotP k a b f) := by
  have hk' : k = 0 ∨ k = 1 ∨ k = 2 ∨ k = 3 := by omega
  rcases hk' with rfl | rfl | rfl | rfl
  · exact udpL_got hs hd ha hb hl h1 h2
  · exact tcpL_got hs hd ha hb hl h1 h2
  · exact echoL_got (b := b) (f := f) (h := h) ha hl false
  · exact echoL_got (b := b) (f := f) (h := h) ha hl true
omit h1 h2 in
theorem car_bd (k : Nat) (hk : k < 4) : Bytes8 (carL k s d a b f l) := by
  have hk' : k = 0 ∨ k = 1 ∨ k = 2 ∨ k = 3 := by omega
  rcases hk' with rfl | rfl | rfl | rfl
  · exact udpL_bd hs hd ha hb hl
  · exact tcpL_bd hs hd ha hb hl f
  · exact echoL_bd hl false ha
  · exact echoL_bd hl true ha
theorem car_bit (k : Nat) (hk : k < 4) (j m : Nat) (hj : j < (carL k s d a b f l).length) (hm : m < 8) : Bad (getX (carP k) h ((carL k s d a b f l).set j (flip ((carL k s d a b f l).getD j 0).toNat m : Nat))) := by
  have hx := car_bd (f := f) hs hd ha hb hl k hk
  have hf := few_len l
  have hk' : k = 0 ∨ k = 1 ∨ k = 2 ∨ k = 3 := by omega
  rcases hk' with rfl | rfl | rfl | rfl
  · have hc : Cl (ph s d 17 (udpL s d a b l).length ++ udpL s d a b l) := udp_cl hs hd ha hb hl _ rfl
    have := csum_turn hc (ph_bd hs hd (by omega) (by rw [udpL_len]; omega)) (udpL_bd hs hd ha hb hl) j m hj hm
    exact udp_bad (by rw [List.length_set]; show 8 ≤ (udpL s d a b l).length; rw [udpL_len]; omega) (by rw [h1, h2]; exact this)
  · have hc : Cl (ph s d 6 (tcpL s d a b f l).length ++ tcpL s d a b f l) := tcp_cl hs hd ha hb hl f _ rfl
    have := csum_turn hc (ph_bd hs hd (by omega) (by rw [tcpL_len]; omega)) (tcpL_bd hs hd ha hb hl f) j m hj hm
    exact .inl (tcp_bad (by rw [List.length_set]; show 20 ≤ (tcpL s d a b f l).length; rw [tcpL_len]; omega) (by rw [h1, h2]; exact this))
  · have hc : Cl (echoL false a l) := echo_cl hl (by decide) ha
    have := hc.turn hx j m hj hm
    have h3 := icmp_bad (h := h) (by rw [List.length_set]; show 8 ≤ (echoL false a l).length; rw [echoL_len]; omega) this
    exact bad_of h3
  · have hc : Cl (echoL true a l) := echo_cl hl (by decide) ha
    have := hc.turn hx j m hj hm
    have h3 := icmp_bad (h := h) (by rw [List.length_set]; show 8 ≤ (echoL true a l).length; rw [echoL_len]; omega) this
    exact bad_of h3
omit hs hd ha hb hl h1 h2 in
/-- the ports stand where an error's reader looks for them -/
theorem car_ports (k : Nat) (hk : k < 4) : (k < 2 → n2 (carL k s d a b f l) 0 = a ∧ n2 (carL k s d a b f l) 2 = b) ∧ (2 ≤ k → n2 (carL k s d a b f l) 4 = a ∧ ((carL k s d a b f l).getD 0 0 = 0 ∨ (carL k s d a b f l).getD 0 0 = 8)) := by
  have hk' : k = 0 ∨ k = 1 ∨ k = 2 ∨ k = 3 := by omega
  rcases hk' with rfl | rfl | rfl | rfl
  · refine ⟨fun _ => ⟨?_, ?_⟩, fun h => absurd h (by omega)⟩
    · rw [n2_eq _ _ (by show 0 + 2 ≤ (udpL s d a b l).length; rw [udpL_len]; omega)]; show a / 256 * 256 + a % 256 = a; omega
    · rw [n2_eq _ _ (by show 2 + 2 ≤ (udpL s d a b l).length; rw [udpL_len]; omega)]; show b / 256 * 256 + b % 256 = b; omega
  · refine ⟨fun _ => ⟨?_, ?_⟩, fun h => absurd h (by omega)⟩
    · rw [n2_eq _ _ (by show 0 + 2 ≤ (tcpL s d a b f l).length; rw [tcpL_len]; omega)]; show a / 256 * 256 + a % 256 = a; omega
    · rw [n2_eq _ _ (by show 2 + 2 ≤ (tcpL s d a b f l).length; rw [tcpL_len]; omega)]; show b / 256 * 256 + b % 256 = b; omega
  · refine ⟨fun h => absurd h (by omega), fun _ => ⟨?_, ?_⟩⟩
    · rw [n2_eq _ _ (by show 4 + 2 ≤ (echoL false a l).length; rw [echoL_len]; omega)]; show a / 256 * 256 + a % 256 = a; omega
    · exact .inr rfl
  · refine ⟨fun h => absurd h (by omega), fun _ => ⟨?_, ?_⟩⟩
    · rw [n2_eq _ _ (by show 4 + 2 ≤ (echoL true a l).length; rw [echoL_len]; omega)]; show a / 256 * 256 + a % 256 = a; omega
    · exact .inl rfl
theorem car_ok (k : Nat) (hn : l.length ≤ 40) : (getX (carP k) h (carL k s d a b f l)).1 = 0 := by
  have hf : fewL l = l := few_short (by omega)
  by_cases hk : k < 4
  · rw [car_got hs hd ha hb hl h1 h2 k hk]
  by_cases h4 : k = 4
  · subst h4
    have hX := put_bd (t := 9) (p := 17) (by omega) (by omega) hd hs (udpL_bd hd hs hb ha hl) (by rw [udpL_len, hf]; omega)
    show (icmpR h (faultL 3 (f.tmod 16) (putL 9 17 d s (udpL d s b a l)))).1 = 0
    rw [fault_to (.inl rfl) hX (by rw [put_len, udpL_len, hf]; omega), put_eq, about_to (by rw [udpL_len]; omega) (by rw [udpL_len, hf]; omega) hd hs, if_pos (.inl rfl)]
  by_cases h5 : k = 5
  · subst h5
    have hX := put_bd (t := 9) (p := 6) (by omega) (by omega) hd hs (tcpL_bd hd hs hb ha hl 2) (by rw [tcpL_len, hf]; omega)
    show (icmpR h (faultL 11 0 ((putL 9 6 d s (tcpL d s b a 2 l)).take (28 + l.length / 2)))).1 = 0
    rw [fault_to (.inr rfl) (hX.take _) (by rw [List.length_take]; omega), put_eq, show 28 + l.length / 2 = 20 + (8 + l.length / 2) by omega, hd_take, about_to (by rw [List.length_take, tcpL_len]; omega) (by rw [tcpL_len, hf]; omega) hd hs, if_pos (.inr rfl)]
  · have hX := put_bd (t := 9) (p := 1) (by omega) (by omega) hd hs (echoL_bd hl false hb) (by rw [echoL_len, hf]; omega)
    have e1 : carP k = 1 := by unfold carP; rw [if_neg (by omega), if_neg (by omega)]
    have e2 : carL k s d a b f l = faultL 3 1 (putL 9 1 d s (echoL false b l)) := by unfold carL; rw [if_neg (by omega), if_neg (by omega), if_neg (by omega), if_neg (by omega), if_neg h4, if_neg h5]
    rw [e1, e2]
    show (icmpR h (faultL 3 1 (putL 9 1 d s (echoL false b l)))).1 = 0
    rw [fault_to (.inl rfl) hX (by rw [put_len, echoL_len, hf]; omega), put_eq, about_to (by rw [echoL_len]; omega) (by rw [echoL_len, hf]; omega) hd hs, if_neg (by omega), if_pos ⟨rfl, .inr rfl⟩]
end
/-- errors about what is sent -/
theorem car_deep {s d a b f : Int} {l : List Int} {h : Hd} (hs : 0 ≤ s ∧ s ≤ 4294967295) (hd : 0 ≤ d ∧ d ≤ 4294967295) (k : Nat) (hk : 4 ≤ k) (hn : l.length ≤ 40) (hX : Bytes8 (frameL k s d a b f l)) : icmpR h (faultL 3 1 (frameL k s d a b f l)) = (6, Pt.z) := by
  have hc := carL_len k s d a b f l hn
  have e1 : carP k = 1 := by unfold carP; rw [if_neg (by omega), if_neg (by omega)]
  have e2 : (carL k s d a b f l).getD 0 0 = 3 ∨ (carL k s d a b f l).getD 0 0 = 11 := by
    unfold carL
    rw [if_neg (by omega), if_neg (by omega), if_neg (by omega), if_neg (by omega)]
    split
    · exact .inl rfl
    split
    · exact .inr rfl
    · exact .inl rfl
  rw [fault_to (.inl rfl) hX (by unfold frameL; rw [put_len]; omega)]
  unfold frameL
  rw [put_eq, about_to (by omega) (by omega) hs hd, e1, if_neg (by omega), if_neg (by omega)]
theorem car_nest {s d a b f : Int} {l : List Int} {h : Hd} (hs : 0 ≤ s ∧ s ≤ 4294967295) (hd : 0 ≤ d ∧ d ≤ 4294967295) (ha : 0 ≤ a ∧ a ≤ 65535) (hb : 0 ≤ b ∧ b ≤ 65535) (hl : Bytes8 l) (hz : h.size = 20) (k : Nat) (hk : k < 4) (hn : l.length ≤ 40) :
    ∃ p : Pt, icmpR h (faultL 3 1 (frameL k s d a b f l)) = (0, p) ∧ p.err = true ∧ p.pat = 28 ∧ p.src = (gotP k a b f).src ∧ p.dst = (gotP k a b f).dst ∧ p.inner = ⟨20, 20 + (carL k s d a b f l).length, 64, carP k, s, d⟩ := by
  have hc := carL_len k s d a b f l hn
  have hP := carP_bd k
  have hx := car_bd (f := f) hs hd ha hb hl k hk
  have hX : Bytes8 (frameL k s d a b f l) := put_bd (by omega) hP hs hd hx (by omega)
  have hp := car_ports (s := s) (d := d) (a := a) (b := b) (f := f) (l := l) k hk
  rw [fault_to (.inl rfl) hX (by unfold frameL; rw [put_len]; omega)]
  unfold frameL
  rw [put_eq, about_to (by omega) (by omega) hs hd, hz]
  by_cases h2 : k < 2
  · have hc2 : carP k = 17 ∨ carP k = 6 := by
      have : k = 0 ∨ k = 1 := by omega
      rcases this with rfl | rfl
      · exact .inl rfl
      · exact .inr rfl
    rw [if_pos hc2]
    refine ⟨_, rfl, rfl, rfl, ?_, ?_, rfl⟩
    · show n2 (carL k s d a b f l) 0 = _
      rw [(hp.1 h2).1]; unfold gotP; split
      · rfl
      · rw [if_pos (by omega)]
    · show n2 (carL k s d a b f l) 2 = _
      rw [(hp.1 h2).2]; unfold gotP; split
      · rfl
      · rw [if_pos (by omega)]
  · have hc2 : carP k = 1 := by unfold carP; rw [if_neg (by omega), if_neg (by omega)]
    rw [if_neg (by omega), if_pos ⟨hc2, (hp.2 (by omega)).2⟩]
    refine ⟨_, rfl, rfl, rfl, ?_, ?_, rfl⟩
    · show n2 (carL k s d a b f l) 4 = _
      rw [(hp.2 (by omega)).1]; unfold gotP; rw [if_neg (by omega), if_neg (by omega)]
    · show n2 (carL k s d a b f l) 4 = _
      rw [(hp.2 (by omega)).1]; unfold gotP; rw [if_neg (by omega), if_neg (by omega)]
end Go.Proofs.Ytlhfbmoodehoiaa
