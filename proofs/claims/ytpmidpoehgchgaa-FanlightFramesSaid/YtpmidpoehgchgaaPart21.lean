/- What is sent, by the document: Carried, Frame. -/
import Derived.Test.YtpmidpoehgchgaaPart20
namespace Go.Proofs.Ytpmidpoehgchgaa
set_option linter.unusedVariables false
set_option linter.unusedSimpArgs false
open Go.RowKit
/-- what is carried: bytes and protocol -/
def carL (k : Nat) (s d a b f : Int) (l : List Int) : List Int :=
  if k = 0 then udpL s d a b l else if k = 1 then tcpL s d a b f l else if k = 2 then echoL false a l else if k = 3 then echoL true a l else
  if k = 4 then faultL 3 (f.tmod 16) (putL 9 17 d s (udpL d s b a l)) else if k = 5 then faultL 11 0 ((putL 9 6 d s (tcpL d s b a 2 l)).take (28 + l.length / 2)) else faultL 3 1 (putL 9 1 d s (echoL false b l))
def carP (k : Nat) : Int := if k = 0 then 17 else if k = 1 then 6 else 1
def frameL (k : Nat) (s d a b f : Int) (l : List Int) : List Int := putL 64 (carP k) s d (carL k s d a b f l)
theorem udpL_len (s d a b : Int) (l : List Int) : (udpL s d a b l).length = 8 + (fewL l).length := udpB_len _ _ _ _
theorem tcpL_len (s d a b f : Int) (l : List Int) : (tcpL s d a b f l).length = 20 + (fewL l).length := tcpB_len _ _ _ _ _
theorem echoL_len (r : Bool) (a : Int) (l : List Int) : (echoL r a l).length = 8 + (fewL l).length := echoB_len _ _ _ _
theorem faultL_len (k c : Int) (l : List Int) : (faultL k c l).length = 8 + (fewL l).length := faultB_len _ _ _ _
theorem few_short {l : List Int} (h : l.length ≤ 1400) : fewL l = l := List.take_of_length_le h
theorem carL_len (k : Nat) (s d a b f : Int) (l : List Int) (hl : l.length ≤ 40) : 8 ≤ (carL k s d a b f l).length ∧ (carL k s d a b f l).length ≤ 110 := by
  have hf : fewL l = l := few_short (by omega)
  unfold carL
  split
  · rw [udpL_len, hf]; omega
  split
  · rw [tcpL_len, hf]; omega
  split
  · rw [echoL_len, hf]; omega
  split
  · rw [echoL_len, hf]; omega
  split
  · have : (putL 9 17 d s (udpL d s b a l)).length = 28 + l.length := by rw [put_len, udpL_len, hf]; omega
    rw [faultL_len, few_short (by omega), this]; omega
  split
  · have : ((putL 9 6 d s (tcpL d s b a 2 l)).take (28 + l.length / 2)).length = 28 + l.length / 2 := by rw [List.length_take, put_len, tcpL_len, hf]; omega
    rw [faultL_len, few_short (by omega), this]; omega
  · have : (putL 9 1 d s (echoL false b l)).length = 28 + l.length := by rw [put_len, echoL_len, hf]; omega
    rw [faultL_len, few_short (by omega), this]; omega
def CarRes (w : World) (p : Int) (l : List Int) (e : Ending) (w' : World) : Prop := ∃ v', e = .returned (.tuple #[v', .int .i64 p]) ∧ Own .u8 5 w' w.heap.size v' l ∧ Below w.heap.size w w'
theorem Own.mono_ {k : IntKind} {e : TypeId} {w : World} {base base' : Nat} {v : Value} {l : List Int} (h : Own k e w base v l) (hb : base' ≤ base) : Own k e w base' v l := by
  refine ⟨⟨h.row.1, ?_⟩, h.rng⟩
  rcases h.row.2 with h1 | ⟨g, cap, cur, h1, h2, h3⟩
  · exact .inl h1
  · exact .inr ⟨g, cap, cur, h1, Nat.le_trans hb h2, h3⟩
end Go.Proofs.Ytpmidpoehgchgaa
