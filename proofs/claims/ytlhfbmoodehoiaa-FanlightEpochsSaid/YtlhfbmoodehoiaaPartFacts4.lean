/- Frames of any life, plain. -/
import Derived.Test.YtlhfbmoodehoiaaPartFacts3
namespace Go.Proofs.Ytlhfbmoodehoiaa
set_option linter.unusedVariables false
set_option linter.unusedSimpArgs false
open Go.RowKit
theorem car_len60 (k : Nat) (s d a b f : Int) (l : List Int) (hk : k < 4) (hl : l.length ≤ 60) : 8 ≤ (carL k s d a b f l).length ∧ (carL k s d a b f l).length ≤ 80 := by
  have hf : fewL l = l := few_short (by omega)
  have hk' : k = 0 ∨ k = 1 ∨ k = 2 ∨ k = 3 := by omega
  rcases hk' with rfl | rfl | rfl | rfl
  · show 8 ≤ (udpL s d a b l).length ∧ (udpL s d a b l).length ≤ 80
    rw [udpL_len, hf]; omega
  · show 8 ≤ (tcpL s d a b f l).length ∧ (tcpL s d a b f l).length ≤ 80
    rw [tcpL_len, hf]; omega
  · show 8 ≤ (echoL false a l).length ∧ (echoL false a l).length ≤ 80
    rw [echoL_len, hf]; omega
  · show 8 ≤ (echoL true a l).length ∧ (echoL true a l).length ≤ 80
    rw [echoL_len, hf]; omega
theorem life_get {t P s d : Int} {l : List Int} (ht : 0 ≤ t ∧ t ≤ 255) (hP : 0 ≤ P ∧ P ≤ 255) (hs : 0 ≤ s ∧ s ≤ 4294967295) (hd : 0 ≤ d ∧ d ≤ 4294967295) (hl : l.length ≤ 1480) :
    getE (putL t P s d l) = 0 ∧ hdIf (putL t P s d l) 0 = ⟨20, (putL t P s d l).length, t, P, s, d⟩ := by
  have h := put_get (t := t) (p := P) (s := s) (d := d) (l := l) ht hP hs hd hl []
  rw [List.append_nil] at h
  refine ⟨h.1, ?_⟩
  unfold hdIf
  rw [if_pos rfl, h.2, put_len]
  push_cast
  rfl
theorem life_sum {t P s d : Int} {l : List Int} (ht : 0 ≤ t ∧ t ≤ 255) (hP : 0 ≤ P ∧ P ≤ 255) (hs : 0 ≤ s ∧ s ≤ 4294967295) (hd : 0 ≤ d ∧ d ≤ 4294967295) (hl : l.length ≤ 1480) : sumOf ((putL t P s d l).take 20) = 0 := by
  have hb := hd_bd t P s d (20 + l.length) 0 ht hP hs hd (by omega) (by omega)
  obtain ⟨q, hq, hc⟩ := hd_closed t P s d (20 + l.length) (sb_bd _ hb true).1
  rw [put_eq, hd_take20]
  exact sumOf_null _ q hq hc
theorem lifeR (t P s d : Int) (x : List Int) : getR ⟨20, (putL t P s d x).length, t, P, s, d⟩ (putL t P s d x) = getX P ⟨20, (putL t P s d x).length, t, P, s, d⟩ x :=
  getR_put t P s d x _ (by rw [put_len]; push_cast; rfl)
/-- one bit turned, anywhere but in the first byte: the head's reader refuses it, or it is behind the head and the part's reader does -/
theorem life_bit {k : Nat} {t s d a b f : Int} {l : List Int} (ht : 0 ≤ t ∧ t ≤ 255) (hs : 0 ≤ s ∧ s ≤ 4294967295) (hd : 0 ≤ d ∧ d ≤ 4294967295) (ha : 0 ≤ a ∧ a ≤ 65535) (hb : 0 ≤ b ∧ b ≤ 65535) (hl : Bytes8 l) (hn : l.length ≤ 60) (hk : k < 4)
    (j m : Nat) (hj1 : 1 ≤ j) (hj : j < (putL t (carP k) s d (carL k s d a b f l)).length) (hm : m < 8) (F : List Int) (hF : F = (putL t (carP k) s d (carL k s d a b f l)).set j (flip ((putL t (carP k) s d (carL k s d a b f l)).getD j 0).toNat m : Nat)) :
    (j < 20 ∧ getE F ≠ 0) ∨ (20 ≤ j ∧ getE F = 0 ∧ hdIf F 0 = ⟨20, (putL t (carP k) s d (carL k s d a b f l)).length, t, carP k, s, d⟩ ∧ Bad (getR ⟨20, (putL t (carP k) s d (carL k s d a b f l)).length, t, carP k, s, d⟩ F)) := by
  have hc := car_len60 k s d a b f l hk hn
  have hP := carP_bd k
  by_cases h20 : j < 20
  · left
    exact ⟨h20, by rw [hF]; exact put_flip ht hP hs hd (by omega) j m hj1 h20 hm⟩
  right
  rw [put_len] at hj
  obtain ⟨i, rfl⟩ : ∃ i, j = 20 + i := ⟨j - 20, by omega⟩
  have hg : (putL t (carP k) s d (carL k s d a b f l)).getD (20 + i) 0 = (carL k s d a b f l).getD i 0 := by
    unfold putL
    rw [List.getD_eq_getElem?_getD, List.getElem?_append_right (by show 20 ≤ 20 + i; omega), List.getD_eq_getElem?_getD]
    congr 2
    show 20 + i - 20 = i
    omega
  rw [hg, putL_set] at hF
  have hbit := fun h h1 h2 => car_bit (f := f) (h := h) hs hd ha hb hl h1 h2 k hk i m (by omega) hm
  generalize (flip ((carL k s d a b f l).getD i 0).toNat m : Nat) = x at *
  have e : (putL t (carP k) s d (carL k s d a b f l)).length = (putL t (carP k) s d ((carL k s d a b f l).set i (x : Int))).length := by rw [put_len, put_len, List.length_set]
  rw [e]
  have hget := life_get (t := t) (P := carP k) (s := s) (d := d) (l := (carL k s d a b f l).set i (x : Int)) ht hP hs hd (by rw [List.length_set]; omega)
  rw [hF]
  refine ⟨by omega, hget.1, hget.2, ?_⟩
  rw [lifeR]
  exact hbit _ rfl rfl
theorem land255 (f : Int) : bits .and .i64 f 255 = f % 256 := by
  show IntKind.i64.wrap ((BitVec.ofInt 64 f &&& BitVec.ofInt 64 ((255 : Nat) : Int)).toNat : Int) = _
  rw [BitVec.ofInt_natCast, BitVec.toNat_and, BitVec.toNat_ofNat, Nat.mod_eq_of_lt (by omega)]
  have hb : ((BitVec.ofInt 64 f).toNat : Int) = f % 18446744073709551616 := by rw [BitVec.toNat_ofInt]; omega
  have h2 : (BitVec.ofInt 64 f).toNat &&& 255 = (BitVec.ofInt 64 f).toNat % 2 ^ 8 := Nat.and_two_pow_sub_one_eq_mod _ 8
  rw [h2]
  have h3 : (((BitVec.ofInt 64 f).toNat % 2 ^ 8 : Nat) : Int) = f % 256 := by omega
  rw [h3]
  exact IntWalk.i64_in _ (by omega)
end Go.Proofs.Ytlhfbmoodehoiaa
