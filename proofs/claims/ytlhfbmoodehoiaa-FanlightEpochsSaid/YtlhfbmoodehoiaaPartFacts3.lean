/- Frames, plain. -/
import Derived.Test.YtlhfbmoodehoiaaPartFacts2
namespace Go.Proofs.Ytlhfbmoodehoiaa
set_option linter.unusedVariables false
set_option linter.unusedSimpArgs false
open Go.RowKit
theorem modk (k : Nat) (h : k < 7) : (IntKind.u64.wrap (k : Int)).tmod 7 = (k : Int) := by
  have : k = 0 ∨ k = 1 ∨ k = 2 ∨ k = 3 ∨ k = 4 ∨ k = 5 ∨ k = 6 := by omega
  rcases this with rfl | rfl | rfl | rfl | rfl | rfl | rfl <;> rfl
section
variable {k : Nat} {s d a b f : Int} {l : List Int} (hs : 0 ≤ s ∧ s ≤ 4294967295) (hd : 0 ≤ d ∧ d ≤ 4294967295) (ha : 0 ≤ a ∧ a ≤ 65535) (hb : 0 ≤ b ∧ b ≤ 65535) (hl : Bytes8 l) (hn : l.length ≤ 40)
theorem frame_len : (frameL k s d a b f l).length = 20 + (carL k s d a b f l).length := put_len
include hn in
theorem frame_bd : 28 ≤ (frameL k s d a b f l).length ∧ (frameL k s d a b f l).length ≤ 130 := by
  have := carL_len k s d a b f l hn
  rw [frame_len]; omega
include hs hd hn in
theorem frame_get : getE (frameL k s d a b f l) = 0 ∧ hdIf (frameL k s d a b f l) 0 = ⟨20, (frameL k s d a b f l).length, 64, carP k, s, d⟩ := by
  have hc := carL_len k s d a b f l hn
  have := frame_head (P := carP k) (s := s) (d := d) (l := carL k s d a b f l) (carP_bd k) hs hd (by omega)
  unfold frameL
  rw [put_len]
  push_cast
  exact this
theorem getR_frame (h : Hd) (hh : h = ⟨20, (frameL k s d a b f l).length, 64, carP k, s, d⟩) : getR h (frameL k s d a b f l) = getX (carP k) h (carL k s d a b f l) :=
  getR_put 64 (carP k) s d _ h (by rw [hh, frame_len]; push_cast; rfl)
include hs hd ha hb hl hn
theorem frame_ok : (getR ⟨20, (frameL k s d a b f l).length, 64, carP k, s, d⟩ (frameL k s d a b f l)).1 = 0 := by
  rw [getR_frame _ rfl]
  exact car_ok hs hd ha hb hl rfl rfl k hn
omit hn in
theorem frame_got (hk : k < 4) : getR ⟨20, (frameL k s d a b f l).length, 64, carP k, s, d⟩ (frameL k s d a b f l) = (0, gotP k a b f) := by
  rw [getR_frame _ rfl]
  exact car_got hs hd ha hb hl rfl rfl k hk
omit hn in
theorem frame_bit (hk : k < 4) (j m : Nat) (hj1 : 20 ≤ j) (hj : j < (frameL k s d a b f l).length) (hm : m < 8) :
    Bad (getR ⟨20, (frameL k s d a b f l).length, 64, carP k, s, d⟩ ((frameL k s d a b f l).set j (flip ((frameL k s d a b f l).getD j 0).toNat m : Nat))) := by
  rw [frame_len] at hj
  obtain ⟨i, rfl⟩ : ∃ i, j = 20 + i := ⟨j - 20, by omega⟩
  have hg : (frameL k s d a b f l).getD (20 + i) 0 = (carL k s d a b f l).getD i 0 := by
    unfold frameL putL
    rw [List.getD_eq_getElem?_getD, List.getElem?_append_right (by show 20 ≤ 20 + i; omega), List.getD_eq_getElem?_getD]
    congr 2
    show 20 + i - 20 = i
    omega
  rw [hg, frame_len]
  unfold frameL
  rw [putL_set]
  rw [getR_put 64 (carP k) s d _ ⟨20, ((20 + (carL k s d a b f l).length : Nat) : Int), 64, carP k, s, d⟩ (by rw [List.length_set]; push_cast; rfl)]
  exact car_bit hs hd ha hb hl rfl rfl k hk i m (by omega) hm
end
section
variable {s d a b f : Int} {l : List Int} (hs : 0 ≤ s ∧ s ≤ 4294967295) (hd : 0 ≤ d ∧ d ≤ 4294967295) (ha : 0 ≤ a ∧ a ≤ 65535) (hb : 0 ≤ b ∧ b ≤ 65535) (hl : Bytes8 l) (hn : l.length ≤ 40)
include hs hd ha hb hl hn
/-- a datagram's frame, its sum another one -/
theorem frame_sum : ∃ S : Int, 0 < S ∧ S ≤ 65535 ∧ (frameL 0 s d a b f l).getD 26 0 = S / 256 ∧ (frameL 0 s d a b f l).getD 27 0 = S % 256 ∧
    ∀ T, 0 ≤ T ∧ T ≤ 65535 →
      (T = 0 ∨ T = S → getR ⟨20, (frameL 0 s d a b f l).length, 64, 17, s, d⟩ (((frameL 0 s d a b f l).set 26 (T / 256)).set 27 (T % 256)) = (0, { Pt.z with proto := 17, src := a, dst := b, bare := decide (T = 0) })) ∧
      (T ≠ 0 → T ≠ S → (getR ⟨20, (frameL 0 s d a b f l).length, 64, 17, s, d⟩ (((frameL 0 s d a b f l).set 26 (T / 256)).set 27 (T % 256))).1 ≠ 0) := by
  have hf : fewL l = l := few_short (by omega)
  have hS := nev_bd (udp_sum hs hd ha hb hl)
  have hc := udp_cl hs hd ha hb hl _ rfl
  have e : frameL 0 s d a b f l = putL 64 17 s d (udpB a b (fewL l) (nev (csum s d 17 (udpB a b (fewL l) 0)))) := rfl
  have hln : (frameL 0 s d a b f l).length = 28 + l.length := by rw [e, put_len, udpB_len, hf]; omega
  rw [hln, e]
  generalize nev (csum s d 17 (udpB a b (fewL l) 0)) = S at *
  refine ⟨S, by omega, hS.2.1, rfl, rfl, ?_⟩
  intro T hT
  have e2 : ((putL 64 17 s d (udpB a b (fewL l) S)).set 26 (T / 256)).set 27 (T % 256) = putL 64 17 s d (udpB a b (fewL l) T) := by
    have h1 := putL_set 64 17 s d (udpB a b (fewL l) S) 6 (T / 256)
    have h2 := putL_set 64 17 s d ((udpB a b (fewL l) S).set 6 (T / 256)) 7 (T % 256)
    rw [show 20 + 6 = 26 from rfl] at h1
    rw [show 20 + 7 = 27 from rfl] at h2
    rw [h1, h2]; rfl
  have e3 : getR ⟨20, ((28 + l.length : Nat) : Int), 64, 17, s, d⟩ (putL 64 17 s d (udpB a b (fewL l) T)) = udpR ⟨20, ((28 + l.length : Nat) : Int), 64, 17, s, d⟩ (udpB a b (fewL l) T) :=
    getR_put 64 17 s d _ _ (by rw [udpB_len, hf]; congr 1; push_cast; omega)
  rw [e2, e3]
  refine ⟨fun h => ?_, fun h0 h1 => ?_⟩
  · refine udp_got ha hb hT (by rw [hf]; omega) (fun hne => ?_)
    rcases h with rfl | rfl
    · exact absurd rfl hne
    · exact hc.zero
  · refine wrong_sum ⟨by omega, hS.2.1⟩ ⟨by omega, hT.2⟩ h1 hS.2.2 (by rw [hf]; omega) ?_ hc
    exact Bytes8.app (ph_bd hs hd (by omega) (by rw [hf]; omega)) (udpB_bd ha hb (few_bd hl) (by rw [hf]; omega) hT)
end
end Go.Proofs.Ytlhfbmoodehoiaa
