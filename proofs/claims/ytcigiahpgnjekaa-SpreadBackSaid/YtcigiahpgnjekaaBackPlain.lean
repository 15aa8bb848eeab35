/- Whose work an answer and an error are, plain. -/
import Derived.Test.YtcigiahpgnjekaaSpreadAll
import Derived.Test.YtcigiahpgnjekaaPartFacts3
namespace Go.Proofs.Ytcigiahpgnjekaa
set_option linter.unusedVariables false
set_option linter.unusedSimpArgs false
open Go.RowKit
theorem n2_take {l : List Int} {i k : Nat} (h : i + 2 ≤ k) (hl : i + 2 ≤ l.length) : n2 (l.take k) i = n2 l i := by
  rw [n2_eq _ _ (by rw [List.length_take]; omega), n2_eq _ _ hl]
  simp only [List.getD_eq_getElem?_getD, List.getElem?_take]
  rw [if_pos (by omega), if_pos (by omega)]
theorem get0_take {l : List Int} {k : Nat} (h : 0 < k) : (l.take k).getD 0 0 = l.getD 0 0 := by
  simp only [List.getD_eq_getElem?_getD, List.getElem?_take]
  rw [if_pos h]
section
variable {k : Nat} {s d a b f : Int} {l : List Int} (hs : 0 ≤ s ∧ s ≤ 4294967295) (hd : 0 ≤ d ∧ d ≤ 4294967295) (ha : 0 ≤ a ∧ a ≤ 65535) (hb : 0 ≤ b ∧ b ≤ 65535) (hl : Bytes8 l) (hn : l.length ≤ 40)
include hs hd ha hb hl hn
theorem far_out (hk : k < 4) : farR true (frameL k s d a b f l) = (0, ⟨carP k, d, if carP k = 1 then 0 else (gotP k a b f).dst⟩) := by
  have hg := frame_get (k := k) (a := a) (b := b) (f := f) hs hd hn
  have hr := frame_got (f := f) hs hd ha hb hl hk
  unfold farR
  rw [if_neg (fun h => h hg.1), hg.2, hr, if_neg (fun h => h rfl)]
  have e : (gotP k a b f).err = false := by
    unfold gotP
    split
    · rfl
    split
    · rfl
    · rfl
  unfold farP
  simp only [e, Bool.false_eq_true, if_false, if_true]
theorem far_in (hk : k < 4) : farR false (frameL k s d a b f l) = (0, ⟨carP k, s, if carP k = 1 then 0 else (gotP k a b f).src⟩) := by
  have hg := frame_get (k := k) (a := a) (b := b) (f := f) hs hd hn
  have hr := frame_got (f := f) hs hd ha hb hl hk
  unfold farR
  rw [if_neg (fun h => h hg.1), hg.2, hr, if_neg (fun h => h rfl)]
  have e : (gotP k a b f).err = false := by
    unfold gotP
    split
    · rfl
    split
    · rfl
    · rfl
  unfold farP
  simp only [e, Bool.false_eq_true, if_false]
theorem far_about (hk : k < 4) (v u : Int) (hv : 0 ≤ v ∧ v ≤ 4294967295) (hu : 0 ≤ u ∧ u ≤ 4294967295) :
    farR false (putL 64 1 v u (faultL 3 1 ((frameL k s d a b f l).take 60))) = (0, ⟨carP k, d, if carP k = 1 then 0 else (gotP k a b f).dst⟩) := by
  have hc := carL_len k s d a b f l hn
  have hx := car_bd (f := f) hs hd ha hb hl k hk
  have hP := carP_bd k
  have hX8 : Bytes8 (frameL k s d a b f l) := put_bd (by omega) hP hs hd hx (by omega)
  have ht : (frameL k s d a b f l).take 60 = hd20 64 (carP k) s d (20 + (carL k s d a b f l).length) (sumOf (hd20 64 (carP k) s d (20 + (carL k s d a b f l).length) 0)) ++ (carL k s d a b f l).take 40 := by
    unfold frameL
    rw [put_eq, show 60 = 20 + 40 from rfl, hd_take]
  have hfl : (faultL 3 1 ((frameL k s d a b f l).take 60)).length ≤ 1480 := by rw [faultL_len]; have := few_len ((frameL k s d a b f l).take 60); omega
  have hg := put_get (t := 64) (p := 1) (s := v) (d := u) (l := faultL 3 1 ((frameL k s d a b f l).take 60)) (by omega) (by omega) hv hu hfl []
  rw [List.append_nil] at hg
  have hh : hdIf (putL 64 1 v u (faultL 3 1 ((frameL k s d a b f l).take 60))) 0 = ⟨20, 20 + (faultL 3 1 ((frameL k s d a b f l).take 60)).length, 64, 1, v, u⟩ := by unfold hdIf; rw [if_pos rfl, hg.2]
  have hr := getR_put 64 1 v u (faultL 3 1 ((frameL k s d a b f l).take 60)) _ hh
  have hi : getX 1 (hdIf (putL 64 1 v u (faultL 3 1 ((frameL k s d a b f l).take 60))) 0) (faultL 3 1 ((frameL k s d a b f l).take 60)) = icmpR (hdIf (putL 64 1 v u (faultL 3 1 ((frameL k s d a b f l).take 60))) 0) (faultL 3 1 ((frameL k s d a b f l).take 60)) := rfl
  rw [hi, fault_to (.inl rfl) (hX8.take 60) (by rw [List.length_take]; omega), ht, about_to (by rw [List.length_take]; omega) (by omega) hs hd] at hr
  unfold farR
  rw [if_neg (fun h => h hg.1)]
  rw [← ht] at hr
  rw [hr]
  have hp := car_ports (s := s) (d := d) (a := a) (b := b) (f := f) (l := l) k hk
  by_cases h2 : k < 2
  · have hc2 : carP k = 17 ∨ carP k = 6 := by
      have : k = 0 ∨ k = 1 := by omega
      rcases this with rfl | rfl
      · exact .inl rfl
      · exact .inr rfl
    have hc1 : carP k ≠ 1 := by omega
    have hd2 : (gotP k a b f).dst = b := by
      have : k = 0 ∨ k = 1 := by omega
      rcases this with rfl | rfl <;> rfl
    have hn2 : n2 ((carL k s d a b f l).take 40) 2 = b := by rw [n2_take (by omega) (by omega)]; exact (hp.1 h2).2
    rw [if_pos hc2, if_neg (fun h => h rfl)]
    unfold farP portsP
    simp only [if_true, Bool.false_eq_true, if_false, hn2, hd2]
  · have hc1 : carP k = 1 := by unfold carP; rw [if_neg (by omega), if_neg (by omega)]
    have h0 := (hp.2 (by omega)).2
    have hno : ¬ (carP k = 17 ∨ carP k = 6) := by omega
    have hyes : carP k = 1 ∧ (((carL k s d a b f l).take 40).getD 0 0 = 0 ∨ ((carL k s d a b f l).take 40).getD 0 0 = 8) := ⟨hc1, by rw [get0_take (by omega)]; exact h0⟩
    rw [if_neg hno, if_pos hyes, if_neg (fun h => h rfl)]
    unfold farP portsP
    simp only [if_true, Bool.false_eq_true, if_false, hc1]
end
end Go.Proofs.Ytcigiahpgnjekaa
