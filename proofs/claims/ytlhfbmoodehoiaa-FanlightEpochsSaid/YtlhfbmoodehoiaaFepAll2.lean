import Derived.Test.YtlhfbmoodehoiaaPart9
import Derived.Test.YtlhfbmoodehoiaaHeadRef2
import Derived.Test.YtlhfbmoodehoiaaPart3
import Derived.Test.YtlhfbmoodehoiaaFrame
import Derived.Test.YtlhfbmoodehoiaaHeadPlain2
namespace Go.Proofs.Ytlhfbmoodehoiaa
set_option linter.unusedVariables false
set_option linter.unusedSimpArgs false
open Go.RowKit
/- The document's side of package part: word, wide, few, Pseudo. -/
theorem App.new_ (w : World) (base : Nat) (l : List Int) (hr : ∀ x, x ∈ l → inr .u8 x) (cs : Array Value) (hcs : cs = (l.map (Value.int .u8)).toArray) (n : Nat) (hn : n = l.length) (h0 : n ≤ 100000) (hb : base ≤ w.heap.size) :
    App w (w.alloc (.cells cs 5)) base (.slice none 0 0) (.slice (some ⟨w.heap.size, 0, none⟩) n n) l :=
  ⟨Own.new .u8 w 5 base hb l hr cs hcs n hn (by unfold maxLen; omega), (Upd.refl _ _).alloc _, fun g hg => by right; simp [Value.ownBlock] at hg; omega⟩
theorem be2_inr {n : Int} (h : 0 ≤ n ∧ n ≤ 65535) : ∀ x, x ∈ be2 n → inr .u8 x := fun x hx => u8_inr (be2_bd n h x hx)
theorem be4_inr {n : Int} (h : 0 ≤ n ∧ n ≤ 4294967295) : ∀ x, x ∈ be4 n → inr .u8 x := fun x hx => u8_inr (be4_bd n h x hx)
/- The document's side of package part: icmp. -/
/- The document's side of package part: icmp, errors. -/
/- The document's side of package part: icmp, errors that are right. -/
/- The document's side of package part: Get. -/
/- The document's side of package part: Get of UDP and TCP. -/
theorem n2_zero {l : List Int} {i : Nat} (hl : ∀ x, x ∈ l → 0 ≤ x ∧ x ≤ 255) (h : i + 2 ≤ l.length) : n2 l i = 0 ↔ l.getD i 0 = 0 ∧ l.getD (i + 1) 0 = 0 := by
  rw [n2_eq l i h]
  have h1 := hl (l.getD i 0) (by rw [List.getD_eq_getElem?_getD, List.getElem?_eq_getElem (by omega)]; exact List.getElem_mem _)
  have h2 := hl (l.getD (i + 1) 0) (by rw [List.getD_eq_getElem?_getD, List.getElem?_eq_getElem (by omega)]; exact List.getElem_mem _)
  omega
/- The document's side of package part: Get of TCP, and Get. -/
/- The law's helpers: From, parts. -/
section
variable {P : Program}
end
/- The law's helper parts. -/
theorem echo5 : echoL false 5 [] = [8, 0, 247, 250, 0, 5, 0, 0] := by decide +kernel
theorem get5 : getR ⟨20, 28, 0, 1, 0, 0⟩ [0, 0, 0, 0, 0, 0, 0, 0, 0, 0, 0, 0, 0, 0, 0, 0, 0, 0, 0, 0, 8, 0, 247, 250, 0, 5, 0, 0] = (0, ⟨1, 5, 5, 0, 8, 0, false, Hd.z, 0, false⟩) := by kernel_rfl
theorem str5 : strOfNums [8, 0, 247, 250, 0, 5, 0, 0] = { data := #[8, 0, 247, 250, 0, 5, 0, 0] } := by kernel_rfl
/- Arguments of the laws of package part. -/
theorem arr6 {cs : Array Value} (h : cs.size = 6) {a b c d e f : Value} (h0 : cs.toList[0]? = some a) (h1 : cs.toList[1]? = some b) (h2 : cs.toList[2]? = some c) (h3 : cs.toList[3]? = some d) (h4 : cs.toList[4]? = some e) (h5 : cs.toList[5]? = some f) : cs = #[a, b, c, d, e, f] := by
  obtain ⟨l⟩ := cs
  match l, h with
  | [x0, x1, x2, x3, x4, x5], _ =>
    simp only [List.getElem?_cons_zero, List.getElem?_cons_succ, Option.some.injEq] at h0 h1 h2 h3 h4 h5
    rw [h0, h1, h2, h3, h4, h5]
/- The document's side of package part: Udp, Tcp, Echo, Fault. -/
/- What is sent, by the document: Carried, Frame. -/
/-- what is carried: bytes and protocol -/
def carL (k : Nat) (s d a b f : Int) (l : List Int) : List Int :=
  if k = 0 then udpL s d a b l else if k = 1 then tcpL s d a b f l else if k = 2 then echoL false a l else if k = 3 then echoL true a l else
  if k = 4 then faultL 3 (f.tmod 16) (putL 9 17 d s (udpL d s b a l)) else if k = 5 then faultL 11 0 ((putL 9 6 d s (tcpL d s b a 2 l)).take (28 + l.length / 2)) else faultL 3 1 (putL 9 1 d s (echoL false b l))
def carP (k : Nat) : Int := if k = 0 then 17 else if k = 1 then 6 else 1
def frameL (k : Nat) (s d a b f : Int) (l : List Int) : List Int := putL 64 (carP k) s d (carL k s d a b f l)
theorem udpL_len (s d a b : Int) (l : List Int) : (udpL s d a b l).length = 8 + (fewL l).length := udpB_len _ _ _ _
theorem tcpL_len (s d a b f : Int) (l : List Int) : (tcpL s d a b f l).length = 20 + (fewL l).length := tcpB_len _ _ _ _ _
theorem echoL_len (r : Bool) (a : Int) (l : List Int) : (echoL r a l).length = 8 + (fewL l).length := echoB_len _ _ _ _
theorem faultL_len (k c : Int) (l : List Int) : (faultL k c l).length = 8 + (fewL l).length := faultB_len _ _ _ _
theorem few_short {l : List Int} (h : l.length ≤ 1400) : fewL l = l := List.take_of_length_le h
theorem carL_len (k : Nat) (s d a b f : Int) (l : List Int) (hl : l.length ≤ 40) : 8 ≤ (carL k s d a b f l).length ∧ (carL k s d a b f l).length ≤ 110 := by
  have hf : fewL l = l := few_short (by omega)
  unfold carL
  split
  · rw [udpL_len, hf]; omega
  split
  · rw [tcpL_len, hf]; omega
  split
  · rw [echoL_len, hf]; omega
  split
  · rw [echoL_len, hf]; omega
  split
  · have : (putL 9 17 d s (udpL d s b a l)).length = 28 + l.length := by rw [put_len, udpL_len, hf]; omega
    rw [faultL_len, few_short (by omega), this]; omega
  split
  · have : ((putL 9 6 d s (tcpL d s b a 2 l)).take (28 + l.length / 2)).length = 28 + l.length / 2 := by rw [List.length_take, put_len, tcpL_len, hf]; omega
    rw [faultL_len, few_short (by omega), this]; omega
  · have : (putL 9 1 d s (echoL false b l)).length = 28 + l.length := by rw [put_len, echoL_len, hf]; omega
    rw [faultL_len, few_short (by omega), this]; omega
def CarRes (w : World) (p : Int) (l : List Int) (e : Ending) (w' : World) : Prop := ∃ v', e = .returned (.tuple #[v', .int .i64 p]) ∧ Own .u8 5 w' w.heap.size v' l ∧ Below w.heap.size w w'
theorem Own.mono_ {k : IntKind} {e : TypeId} {w : World} {base base' : Nat} {v : Value} {l : List Int} (h : Own k e w base v l) (hb : base' ≤ base) : Own k e w base' v l := by
  refine ⟨⟨h.row.1, ?_⟩, h.rng⟩
  rcases h.row.2 with h1 | ⟨g, cap, cur, h1, h2, h3⟩
  · exact .inl h1
  · exact .inr ⟨g, cap, cur, h1, Nat.le_trans hb h2, h3⟩
/- What is sent as a frame, by the document. -/
theorem carP_bd (k : Nat) : 0 ≤ carP k ∧ carP k ≤ 255 := by unfold carP; split; · omega
                                                            · split <;> omega
/- The walk of the document's Right: what comes is as long as what was. -/
def RightRes (w : World) (n : Nat) (e : Ending) (w' : World) : Prop := ∃ L : List Int, L.length = n ∧ Gives w L e w'
/- Arguments: Sent; plain: a byte behind the head turned. -/
theorem fld_ints {P : Program} {W : World} {k : IntKind} {e : TypeId} {fs : Array Field} {m i : Nat} {f : Field} {cs : List Value} (hf : ∀ (i : Nat) (f : Field), fs[i]? = some f → Rdg P W m f.type ((cs.drop f.offset).take (P.cellsOf f.type)))
    (hi : fs[i]? = some f) (ht : P.underlying f.type = some (.slice e)) (he : P.underlying e = some (.int k)) (hCe : P.cellsOf e = 1) (hC : P.cellsOf f.type = 1) :
    ∃ A len cap l, cs[f.offset]? = some (.slice A len cap) ∧ len ≤ cap ∧ cap ≤ maxLen ∧ Rd k W W.heap.size A len l := by
  have h := hf i f hi
  rw [hC] at h
  obtain ⟨A, len, cap, l, hcs, h3, h4, h5⟩ := rdg_ints ht he hCe h
  refine ⟨A, len, cap, l, ?_, h3, h4, h5⟩
  have : ((cs.drop f.offset).take 1)[0]? = some (.slice A len cap) := by rw [hcs]; rfl
  simpa using this
theorem arr7 {cs : Array Value} {x0 x1 x2 x3 x4 x5 x6 : Value} (h : cs.size = 7) (h0 : cs.toList[0]? = some x0) (h1 : cs.toList[1]? = some x1) (h2 : cs.toList[2]? = some x2) (h3 : cs.toList[3]? = some x3) (h4 : cs.toList[4]? = some x4) (h5 : cs.toList[5]? = some x5) (h6 : cs.toList[6]? = some x6) : cs = #[x0, x1, x2, x3, x4, x5, x6] := by
  obtain ⟨l⟩ := cs
  match l, h with
  | [y0, y1, y2, y3, y4, y5, y6], _ =>
    simp only [List.getElem?_cons_zero, List.getElem?_cons_succ, Option.some.injEq] at h0 h1 h2 h3 h4 h5 h6
    rw [h0, h1, h2, h3, h4, h5, h6]
theorem arr3 {cs : Array Value} {x0 x1 x2 : Value} (h : cs.size = 3) (h0 : cs.toList[0]? = some x0) (h1 : cs.toList[1]? = some x1) (h2 : cs.toList[2]? = some x2) : cs = #[x0, x1, x2] := by
  obtain ⟨l⟩ := cs
  match l, h with
  | [y0, y1, y2], _ =>
    simp only [List.getElem?_cons_zero, List.getElem?_cons_succ, Option.some.injEq] at h0 h1 h2
    rw [h0, h1, h2]
theorem putL_set (t p s d : Int) (l : List Int) (j : Nat) (x : Int) : (putL t p s d l).set (20 + j) x = putL t p s d (l.set j x) := by
  unfold putL
  rw [List.length_set]
  generalize sumOf (hd20 t p s d (20 + (l.length : Int)) 0) = S
  rw [List.set_append]
  have hl : (hd20 t p s d (20 + (l.length : Int)) S).length = 20 := rfl
  rw [hl, if_neg (by omega)]
  congr 2
  omega
/-- what a frame's head tells -/
theorem frame_head {P s d : Int} {l : List Int} (hP : 0 ≤ P ∧ P ≤ 255) (hs : 0 ≤ s ∧ s ≤ 4294967295) (hd : 0 ≤ d ∧ d ≤ 4294967295) (hl : l.length ≤ 1480) : getE (putL 64 P s d l) = 0 ∧ hdIf (putL 64 P s d l) 0 = ⟨20, 20 + l.length, 64, P, s, d⟩ := by
  have h := put_get (t := 64) (p := P) (s := s) (d := d) (l := l) (by omega) hP hs hd hl []
  rw [List.append_nil] at h
  refine ⟨h.1, ?_⟩
  unfold hdIf
  rw [if_pos rfl, h.2]
end Go.Proofs.Ytlhfbmoodehoiaa
