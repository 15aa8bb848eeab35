/- The walk of the reference's Do on a list of the call's own. -/
import Derived.Test.YtjnkfkcfjggdiaaCells2
namespace Go.Proofs.Ytjnkfkcfjggdiaa
set_option linter.unusedVariables false
open Go.RowKit
/-- what a call does: the number that it tells, and the list behind it -/
def doNum (l : List Int) (k i a b : Int) : Int :=
  if 0 ≤ i ∧ i < l.length then (if k = 0 then celAt l i else if k = 2 then (if celAt l i = a then 1 else 0) else if k = 3 then (celAt l i + a) % 18446744073709551616 else 0) else 0
def doList (l : List Int) (k i a b : Int) : List Int :=
  if k = 1 then celSet l i a else if k = 2 then (if 0 ≤ i ∧ i < l.length ∧ celAt l i = a then celSet l i b else l) else if k = 3 then celSet l i ((celAt l i + a) % 18446744073709551616) else l
theorem doList_length (l : List Int) (k i a b : Int) : (doList l k i a b).length = l.length := by
  unfold doList; (repeat' split) <;> simp [celSet_length]
theorem celAt_in {l : List Int} {k : Nat} (h : k < l.length) : celAt l k = l.getD k 0 := by unfold celAt; rw [if_pos (by omega)]; rfl
theorem celSet_in {l : List Int} {k : Nat} (v : Int) (h : k < l.length) : celSet l k v = l.set k v := by unfold celSet; rw [if_pos (by omega)]; rfl
theorem celSet_out {l : List Int} {i : Int} (v : Int) (h : ¬ (0 ≤ i ∧ i < l.length)) : celSet l i v = l := by unfold celSet; rw [if_neg h]
theorem celAt_out {l : List Int} {i : Int} (h : ¬ (0 ≤ i ∧ i < l.length)) : celAt l i = 0 := by unfold celAt; rw [if_neg h]
theorem Own.upd1 {kd : IntKind} {e : TypeId} {w : World} {base : Nat} {g n c : Nat} {l : List Int} (h : Own kd e w base (.slice (some ⟨g, 0, none⟩) n c) l) (hn : l.length = n) (j : Nat) (x : Int) :
    Upd (· = g) w (w.setCell ⟨g, j, none⟩ (.int kd x)) := Upd.one _ _ _ _
theorem Do_out (k i a b : Int) (g c : Nat) (base : Nat) (l : List Int) (n : Nat) (w : World) (hw : Own .u64 22 w base (.slice (some ⟨g, 0, none⟩) n c) l) (hn : l.length = n) (ho : ¬ (0 ≤ i ∧ i < n)) :
    Calls Try.prog 16 #[.slice (some ⟨g, 0, none⟩) n c, .int .i64 k, .int .i64 i, .int .u64 a, .int .u64 b] w fun e w' => e = .returned (.int .u64 0) ∧ w = w' := by
  by_cases h : i < 0
  · have hd : decide (i < 0) = true := by simpa using h
    go_enter Try.func16, Try.ntmps16
    go_wp2
    go_ret
    exact ⟨rfl, rfl⟩
  · have hd : decide (i < 0) = false := by simpa using h
    have hd2 : decide ((n : Int) ≤ i) = true := by simp; omega
    clear hn
    go_enter Try.func16, Try.ntmps16
    go_wp2
    go_ret
    exact ⟨rfl, rfl⟩
theorem Do_in (k i : Nat) (a b : Int) (g c : Nat) (base : Nat) (l : List Int) (n : Nat) (w : World) (hw : Own .u64 22 w base (.slice (some ⟨g, 0, none⟩) n c) l) (hn : l.length = n) (hi : i < n) (hm : n ≤ 65536) (hk : k < 4)
    (ha : 0 ≤ a ∧ a ≤ 18446744073709551615) (hb : 0 ≤ b ∧ b ≤ 18446744073709551615) :
    Calls Try.prog 16 #[.slice (some ⟨g, 0, none⟩) n c, .int .i64 k, .int .i64 i, .int .u64 a, .int .u64 b] w fun e w' =>
      e = .returned (.int .u64 (doNum l k i a b)) ∧ Own .u64 22 w' base (.slice (some ⟨g, 0, none⟩) n c) (doList l k i a b) ∧ Upd (· = g) w w' := by
  obtain ⟨hc, hf, hx⟩ := hw.at_ hn hi
  replace hx := inr_u64 hx
  have e1 : celAt l i = l.getD i 0 := celAt_in (by omega)
  have e2 : ∀ v, celSet l i v = l.set i v := fun v => celSet_in v (by omega)
  have e3 : (0 ≤ (i : Int) ∧ (i : Int) < l.length) := by omega
  obtain ⟨x, hxe⟩ : ∃ x, x = l.getD i 0 := ⟨_, rfl⟩
  rw [← hxe] at hc hx e1
  have hs := fun (y : Int) (hy : inr .u64 y) => hw.set hn i hy
  have hd : decide ((i : Int) < 0) = false := by simp
  have hd2 : decide (n ≤ i) = false := by simp; omega
  have hcases : k = 0 ∨ k = 1 ∨ k = 2 ∨ k = 3 := by omega
  rcases hcases with rfl | rfl | rfl | rfl
  · have h1 : doNum l (0 : Nat) i a b = x := by unfold doNum; rw [if_pos e3]; simp [e1]
    have h2 : doList l (0 : Nat) i a b = l := by unfold doList; simp
    rw [h1, h2]
    clear h1 h2 e1 e2 hs hn hxe
    go_enter Try.func16, Try.ntmps16
    go_wp2
    go_ret
    exact ⟨rfl, hw, Upd.refl _ _⟩
  · have h1 : doNum l (1 : Nat) i a b = 0 := by unfold doNum; rw [if_pos e3]; simp
    have h2 : doList l (1 : Nat) i a b = l.set i a := by unfold doList; simp [e2]
    rw [h1, h2]
    have hs1 := hs a (u64_inr ha)
    clear h1 h2 e1 e2 hs hn hxe
    go_enter Try.func16, Try.ntmps16
    go_wp2
    go_ret
    exact ⟨rfl, hs1, Upd.one _ _ _ _⟩
  · by_cases hxa : x = a
    · have h1 : doNum l (2 : Nat) i a b = 1 := by unfold doNum; rw [if_pos e3]; simp [e1, hxa]
      have h2 : doList l (2 : Nat) i a b = l.set i b := by unfold doList; simp only [e1, hxa, e2]; rw [if_neg (by omega), if_pos (show ((2 : Nat) : Int) = 2 from rfl), if_pos ⟨e3.1, e3.2, trivial⟩]
      rw [h1, h2]
      have hs1 := hs b (u64_inr hb)
      have hxb : (x == a) = true := by simpa using hxa
      clear h1 h2 e1 e2 hs hn hxe hxa
      go_enter Try.func16, Try.ntmps16
      go_wp2
      go_ret
      exact ⟨rfl, hs1, Upd.one _ _ _ _⟩
    · have h1 : doNum l (2 : Nat) i a b = 0 := by unfold doNum; rw [if_pos e3]; simp [e1, hxa]
      have h2 : doList l (2 : Nat) i a b = l := by unfold doList; rw [if_neg (by omega), if_pos (show ((2 : Nat) : Int) = 2 from rfl), if_neg (by rw [e1]; exact fun h => hxa h.2.2)]
      rw [h1, h2]
      have hxb : (x == a) = false := by simpa using hxa
      clear h1 h2 e1 e2 hs hn hxe hxa
      go_enter Try.func16, Try.ntmps16
      go_wp2
      go_ret
      exact ⟨rfl, hw, Upd.refl _ _⟩
  · have h1 : doNum l (3 : Nat) i a b = (x + a) % 18446744073709551616 := by unfold doNum; rw [if_pos e3]; simp [e1]
    have h2 : doList l (3 : Nat) i a b = l.set i ((x + a) % 18446744073709551616) := by unfold doList; simp [e1, e2]
    rw [h1, h2]
    have hs1 := hs ((x + a) % 18446744073709551616) (u64_inr (by omega))
    have hwr : IntKind.u64.wrap (x + a) = (x + a) % 18446744073709551616 := by simp [IntKind.wrap, IntKind.bits, IntKind.signed]
    obtain ⟨y, hy⟩ : ∃ y, y = (x + a) % 18446744073709551616 := ⟨_, rfl⟩
    rw [← hy] at hs1 hwr ⊢
    have hca : (w.setCell ⟨g, i, none⟩ (.int .u64 y)).cell? ⟨g, i, none⟩ = some (.int .u64 y) := World.cell?_setCell_same w _ _ hc
    clear h1 h2 e1 e2 hs hn hxe hy
    go_enter Try.func16, Try.ntmps16
    go_wp2
    go_ret
    exact ⟨rfl, hs1, Upd.one _ _ _ _⟩
theorem doList_out {l : List Int} {k i a b : Int} (h : ¬ (0 ≤ i ∧ i < l.length)) : doList l k i a b = l := by
  unfold doList
  split
  · exact celSet_out _ h
  · split
    · exact if_neg (fun e => h ⟨e.1, e.2.1⟩)
    · split
      · exact celSet_out _ h
      · rfl
theorem Do_any (k : Nat) (kk : Int) (hkk : kk = k) (i a b : Int) (g c : Nat) (base : Nat) (l : List Int) (n : Nat) (w : World) (hw : Own .u64 22 w base (.slice (some ⟨g, 0, none⟩) n c) l) (hn : l.length = n) (hm : n ≤ 65536) (hk : k < 4)
    (ha : 0 ≤ a ∧ a ≤ 18446744073709551615) (hb : 0 ≤ b ∧ b ≤ 18446744073709551615) :
    Calls Try.prog 16 #[.slice (some ⟨g, 0, none⟩) n c, .int .i64 kk, .int .i64 i, .int .u64 a, .int .u64 b] w fun e w' =>
      e = .returned (.int .u64 (doNum l k i a b)) ∧ Own .u64 22 w' base (.slice (some ⟨g, 0, none⟩) n c) (doList l k i a b) ∧ Upd (· = g) w w' := by
  subst hkk
  by_cases h : 0 ≤ i ∧ i < n
  · obtain ⟨j, rfl⟩ := Int.eq_ofNat_of_zero_le h.1
    exact Do_in k j a b g c base l n w hw hn (by omega) hm hk ha hb
  · refine (Do_out k i a b g c base l n w hw hn h).mono fun e w' ⟨h1, h2⟩ => ?_
    subst h2
    rw [doList_out (by rw [hn]; exact h)]
    have : doNum l k i a b = 0 := by unfold doNum; rw [if_neg (by rw [hn]; exact h)]
    rw [this]
    exact ⟨h1, hw, Upd.refl _ _⟩
end Go.Proofs.Ytjnkfkcfjggdiaa
