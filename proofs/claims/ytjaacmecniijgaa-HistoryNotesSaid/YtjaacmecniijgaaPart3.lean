/- The walks of package part: Udp, Tcp, Echo, Fault. -/
import Derived.Test.YtjaacmecniijgaaPart2
namespace Go.Proofs.Ytjaacmecniijgaa
set_option linter.unusedVariables false
set_option linter.unusedSimpArgs false
open Go.RowKit
theorem fewL_len (l : List Int) : (fewL l).length ≤ 1400 := by unfold fewL; rw [List.length_take]; omega
theorem fewL_mem {l : List Int} {x : Int} (h : x ∈ fewL l) : x ∈ l := List.mem_of_mem_take h
theorem udpB_len (a b : Int) (l : List Int) (S : Int) : (udpB a b l S).length = 8 + l.length := by simp [udpB, be2]; omega
theorem tcpB_len (a b f : Int) (l : List Int) (S : Int) : (tcpB a b f l S).length = 20 + l.length := by simp [tcpB, be2]; omega
theorem echoB_len (k a : Int) (l : List Int) (S : Int) : (echoB k a l S).length = 8 + l.length := by simp [echoB, be2]; omega
theorem faultB_len (k c : Int) (l : List Int) (S : Int) : (faultB k c l S).length = 8 + l.length := by simp [faultB, be2]; omega
theorem udpB_set (a b : Int) (l : List Int) (S : Int) : ((udpB a b l 0).set 6 (S / 256)).set (6 + 1) (S % 256) = udpB a b l S := by simp [udpB, be2]
theorem tcpB_set (a b f : Int) (l : List Int) (S : Int) : ((tcpB a b f l 0).set 16 (S / 256)).set (16 + 1) (S % 256) = tcpB a b f l S := by simp [tcpB, be2]
theorem echoB_set (k a : Int) (l : List Int) (S : Int) : ((echoB k a l 0).set 2 (S / 256)).set (2 + 1) (S % 256) = echoB k a l S := by simp [echoB, be2]
theorem faultB_set (k c : Int) (l : List Int) (S : Int) : ((faultB k c l 0).set 2 (S / 256)).set (2 + 1) (S % 256) = faultB k c l S := by simp [faultB, be2]
theorem lit2_own (w : World) (x y : Int) (hx : 0 ≤ x ∧ x ≤ 255) (hy : 0 ≤ y ∧ y ≤ 255) : Own .u8 5 (w.alloc (.cells #[.int .u8 x, .int .u8 y] 5)) w.heap.size (.slice (some ⟨w.heap.size, 0, none⟩) 2 2) [x, y] :=
  Own.new .u8 w 5 w.heap.size (Nat.le_refl _) [x, y] (by intro z hz; simp at hz; rcases hz with rfl | rfl <;> exact u8_inr (by omega)) #[.int .u8 x, .int .u8 y] rfl 2 rfl (by show 2 ≤ maxLen; decide)
theorem App.bel0 {w W0 w' : World} {g n c : Nat} {v' : Value} {l : List Int} (h : App W0 w' w.heap.size (.slice (some ⟨g, 0, none⟩) n c) v' l) (b : Below w.heap.size w W0) (hg : w.heap.size ≤ g) : Below w.heap.size w w' :=
  b.trans (h.below b.size (fun x hx => by simp [Value.ownBlock] at hx; omega))
end Go.Proofs.Ytjaacmecniijgaa
