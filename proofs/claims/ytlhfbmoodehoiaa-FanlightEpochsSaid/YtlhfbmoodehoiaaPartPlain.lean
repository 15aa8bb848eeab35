/- What packets carry, plain. -/
import Derived.Test.YtlhfbmoodehoiaaHeadPlain2
import Derived.Test.YtlhfbmoodehoiaaBytes
namespace Go.Proofs.Ytlhfbmoodehoiaa
set_option linter.unusedVariables false
set_option linter.unusedSimpArgs false
open Go.RowKit
/-- what stands ahead of UDP's and TCP's bytes for their sum -/
def ph (s d p : Int) (n : Nat) : List Int := be4 s ++ be4 d ++ [0, p] ++ be2 n
theorem ph_len (s d p : Int) (n : Nat) : (ph s d p n).length = 12 := rfl
def csum (s d p : Int) (l : List Int) : Int := sumOf (ph s d p l.length ++ l)
theorem ph_bd {s d p : Int} {n : Nat} (hs : 0 ≤ s ∧ s ≤ 4294967295) (hd : 0 ≤ d ∧ d ≤ 4294967295) (hp : 0 ≤ p ∧ p ≤ 255) (hn : n ≤ 65535) : ∀ x, x ∈ ph s d p n → 0 ≤ x ∧ x ≤ 255 := by
  intro x hx
  simp only [ph, List.mem_append] at hx
  rcases hx with ((h | h) | h) | h
  · exact be4_bd s hs x h
  · exact be4_bd d hd x h
  · simp only [List.mem_cons, List.not_mem_nil, or_false] at h; omega
  · exact be2_bd n (by omega) x h
theorem csum_eq (s d p : Int) (l : List Int) : csum s d p l = 65535 - fo (sb true (ph s d p l.length) + sb true l) := by
  unfold csum sumOf
  rw [sb_app _ _ (by rw [ph_len])]
theorem csum_bd {s d p : Int} {l : List Int} (hs : 0 ≤ s ∧ s ≤ 4294967295) (hd : 0 ≤ d ∧ d ≤ 4294967295) (hp : 0 ≤ p ∧ p ≤ 255) (hn : l.length ≤ 65535) (hl : ∀ x, x ∈ l → 0 ≤ x ∧ x ≤ 255) : 0 ≤ csum s d p l ∧ csum s d p l ≤ 65535 :=
  sumOf_bd (fun x hx => by
    rcases List.mem_append.1 hx with h | h
    · exact ph_bd hs hd hp hn x h
    · exact hl x h)
/-- the rows that are laid: with the sum S at its place -/
def udpB (a b : Int) (l : List Int) (S : Int) : List Int := be2 a ++ be2 b ++ be2 (8 + l.length) ++ be2 S ++ l
def tcpB (a b f : Int) (l : List Int) (S : Int) : List Int := be2 a ++ be2 b ++ [0, 0, 0, 0, 0, 0, 0, 0, 80, f % 256, 32, 0] ++ be2 S ++ [0, 0] ++ l
def echoB (k a : Int) (l : List Int) (S : Int) : List Int := [k, 0] ++ be2 S ++ be2 a ++ [0, 0] ++ l
def faultB (k c : Int) (l : List Int) (S : Int) : List Int := [k % 256, c % 256] ++ be2 S ++ [0, 0, 0, 0] ++ l
def fewL (l : List Int) : List Int := l.take 1400
def nev (s : Int) : Int := if s = 0 then 65535 else s
def udpL (s d a b : Int) (l : List Int) : List Int := udpB a b (fewL l) (nev (csum s d 17 (udpB a b (fewL l) 0)))
def tcpL (s d a b f : Int) (l : List Int) : List Int := tcpB a b f (fewL l) (csum s d 6 (tcpB a b f (fewL l) 0))
def echoL (r : Bool) (a : Int) (l : List Int) : List Int := echoB (if r then 0 else 8) a (fewL l) (sumOf (echoB (if r then 0 else 8) a (fewL l) 0))
def faultL (k c : Int) (l : List Int) : List Int := faultB k c (fewL l) (sumOf (faultB k c (fewL l) 0))
/-- what a packet carries -/
structure Pt where
  proto : Int
  src : Int
  dst : Int
  flags : Int
  kind : Int
  code : Int
  err : Bool
  inner : Hd
  pat : Int
  bare : Bool
def Pt.z : Pt := ⟨0, 0, 0, 0, 0, 0, false, Hd.z, 0, false⟩
/-- an error, or a part -/
abbrev PR := Int × Pt
def portsP (p : Pt) (l : List Int) (i j : Nat) : Pt := { p with src := n2 l i, dst := n2 l j }
def udpR (h : Hd) (x : List Int) : PR :=
  if x.length < 8 then (2, Pt.z) else if n2 x 4 ≠ x.length then (3, Pt.z) else
  if n2 x 6 ≠ 0 ∧ csum h.src h.dst 17 x ≠ 0 then (4, Pt.z) else (0, portsP { Pt.z with proto := 17, bare := decide (n2 x 6 = 0) } x 0 2)
def tcpR (h : Hd) (x : List Int) : PR :=
  if x.length < 20 then (2, Pt.z) else if x.getD 12 0 / 16 * 4 < 20 ∨ (x.length : Int) < x.getD 12 0 / 16 * 4 then (3, Pt.z) else
  if csum h.src h.dst 6 x ≠ 0 then (4, Pt.z) else (0, portsP { Pt.z with proto := 6, flags := x.getD 13 0 } x 0 2)
def faultR (p : Pt) (at_ : Int) (b : List Int) : PR :=
  if partE b ≠ 0 then (partE b, Pt.z) else
  if (b.length : Int) - (hdOf b).size < 8 ∨ (hdOf b).len < (hdOf b).size + 8 then (3, Pt.z) else
  if (hdOf b).proto = 17 ∨ (hdOf b).proto = 6 then (0, portsP { p with err := true, inner := hdOf b, pat := at_ } (b.drop (hdOf b).size.toNat) 0 2) else
  if (hdOf b).proto = 1 ∧ ((b.drop (hdOf b).size.toNat).getD 0 0 = 0 ∨ (b.drop (hdOf b).size.toNat).getD 0 0 = 8) then (0, portsP { p with err := true, inner := hdOf b, pat := at_ } (b.drop (hdOf b).size.toNat) 4 4) else (6, Pt.z)
def icmpR (h : Hd) (x : List Int) : PR :=
  if x.length < 8 then (2, Pt.z) else if sumOf x ≠ 0 then (4, Pt.z) else
  if x.getD 0 0 = 0 ∨ x.getD 0 0 = 8 then (if x.getD 1 0 ≠ 0 then (3, Pt.z) else (0, portsP { Pt.z with proto := 1, kind := x.getD 0 0, code := x.getD 1 0 } x 4 4)) else
  if x.getD 0 0 = 3 ∨ x.getD 0 0 = 11 ∨ x.getD 0 0 = 12 then faultR { Pt.z with proto := 1, kind := x.getD 0 0, code := x.getD 1 0 } (h.size + 8) (x.drop 8) else (6, Pt.z)
def getR (h : Hd) (b : List Int) : PR :=
  if h.size < 20 ∨ 60 < h.size ∨ h.len < h.size ∨ (b.length : Int) < h.len then (1, Pt.z) else
  if h.proto = 17 then udpR h (seg b h.size.toNat (h.len - h.size).toNat) else
  if h.proto = 6 then tcpR h (seg b h.size.toNat (h.len - h.size).toNat) else
  if h.proto = 1 then icmpR h (seg b h.size.toNat (h.len - h.size).toNat) else (6, Pt.z)
end Go.Proofs.Ytlhfbmoodehoiaa
