/- What the laws' proofs lean on: plain facts and contracts of the program's functions, laid together (3). -/
import Derived.Test.YtbckoohljkmahaaGreatPE01
import Derived.Test.YtbckoohljkmahaaGreatPE02
namespace Go.Proofs.YtbckoohljkmahaaGreat
set_option linter.unusedVariables false
set_option linter.unusedSimpArgs false
open Go.RowKit
section
variable {k : Nat} {s d a b f : Int} {l : List Int}
theorem gotP_err : (gotP k a b f).err = false := by
  unfold gotP
  repeat' split
  all_goals rfl
theorem gotP_src : (gotP k a b f).src = a := by
  unfold gotP
  repeat' split
  all_goals rfl
theorem gotP_proto : (gotP k a b f).proto = carP k := by
  unfold gotP carP
  repeat' split
  all_goals rfl
theorem carP_kind (hk : k < 3) (po : Int) (c : Cf) (h : c.lo ≤ po ∧ po ≤ c.hi) : placeP c (carP k) po = kindP (carP k) * c.n + po - c.lo ∧ 0 ≤ kindP (carP k) ∧ kindP (carP k) ≤ 2 := by
  have h3 : k = 0 ∨ k = 1 ∨ k = 2 := by omega
  have hkp : 0 ≤ kindP (carP k) ∧ kindP (carP k) ≤ 2 := by rcases h3 with rfl | rfl | rfl <;> decide
  refine ⟨?_, hkp⟩
  unfold placeP
  rw [if_neg (by omega)]
theorem frame_hd (hs : 0 ≤ s ∧ s ≤ 4294967295) (hd : 0 ≤ d ∧ d ≤ 4294967295) (hn : l.length ≤ 40) : hdOf (frameL k s d a b f l) = ⟨20, (frameL k s d a b f l).length, 64, carP k, s, d⟩ := (frame_get hs hd hn).2
section
variable (hs : 0 ≤ s ∧ s ≤ 4294967295) (hd : 0 ≤ d ∧ d ≤ 4294967295) (ha : 0 ≤ a ∧ a ≤ 65535) (hb : 0 ≤ b ∧ b ≤ 65535) (hl : Bytes8 l) (hn : l.length ≤ 40) (hk : k < 4)
include hs hd ha hb hl hn hk
theorem frame_rw2 : rwE (frameL k s d a b f l) = 0 ∧ (getR (hdOf (frameL k s d a b f l)) (frameL k s d a b f l)).2 = gotP k a b f := by
  have h1 := (frame_get (k := k) (a := a) (b := b) (f := f) hs hd hn).1
  have h2 := frame_got (k := k) (f := f) hs hd ha hb hl hk
  have h3 := frame_hd (k := k) (a := a) (b := b) (f := f) hs hd hn
  refine ⟨?_, ?_⟩
  · unfold rwE; rw [if_neg (by simp [h1]), h3, h2]
  · rw [h3, h2]
theorem frame_rd : rdE (frameL k s d a b f l) = 0 ∧ rdH (frameL k s d a b f l) = ⟨20, (frameL k s d a b f l).length, 64, carP k, s, d⟩ ∧ rdP (frameL k s d a b f l) = gotP k a b f := by
  have h1 := (frame_get (k := k) (a := a) (b := b) (f := f) hs hd hn).1
  have h2 := frame_got (k := k) (f := f) hs hd ha hb hl hk
  have h3 := frame_hd (k := k) (a := a) (b := b) (f := f) hs hd hn
  have e : rdE (frameL k s d a b f l) = 0 := by unfold rdE; rw [if_pos h1, h3, h2]
  refine ⟨e, ?_, ?_⟩
  · unfold rdH; rw [if_pos e, h3]
  · unfold rdP; rw [if_pos e, h3, h2]
theorem frame_who (ou : Int) : whoP ou true (frameL k s d a b f l) = (⟨carP k, s, a⟩, 0) := by
  obtain ⟨h1, h2, h3⟩ := frame_rd (f := f) hs hd ha hb hl hn hk
  unfold whoP insF
  rw [if_neg (by simp [h1]), if_pos rfl, h2, h3, if_neg (by simp [gotP_err]), gotP_src]
theorem frame_begins (h : k < 3) (hf : k = 1 → f = 2) : begP true (frameL k s d a b f l) = true := by
  obtain ⟨h1, h2, h3⟩ := frame_rd (f := f) hs hd ha hb hl hn hk
  unfold begP
  rw [h1, h3, gotP_err]
  have h3 : k = 0 ∨ k = 1 ∨ k = 2 := by omega
  rcases h3 with rfl | rfl | rfl
  · rfl
  · rw [hf rfl]
    show (true && ((0 : Int) == 0) && !false && beginsS 6 0 2) = true
    decide +kernel
  · rfl
theorem frame_again (out : Bool) {ou po : Int} (h8 : Bytes8 (frameL k s d a b f l)) (hou : 0 ≤ ou ∧ ou ≤ 4294967295) (hpo : 0 ≤ po ∧ po ≤ 65535) : Again (frameL k s d a b f l) (rwL (frameL k s d a b f l) out ou po) ⟨20, (frameL k s d a b f l).length, 64, carP k, s, d⟩ (gotP k a b f) out ou po := by
  obtain ⟨h1, h2⟩ := frame_rw2 (f := f) hs hd ha hb hl hn hk
  have h3 := frame_hd (k := k) (a := a) (b := b) (f := f) hs hd hn
  have := rw_again h8 h1 out hou hpo
  rw [h2, h3] at this
  exact this
end
theorem part_again {X Y : List Int} {h : Hd} {p : Pt} {out : Bool} {x y : Int} (g : Again X Y h p out x y) : partI Y = (chP p out x y, true) := by
  unfold partI
  rw [if_pos g.getE]
  have e : hdIf Y 0 = hdOf Y := rfl
  rw [e, g.part]; rfl
theorem chP_plain {p : Pt} (h : p.err = false) (out : Bool) (x y : Int) : chP p out x y = chPorts p (p.proto == 1) out y := by unfold chP; rw [if_neg (by simp [h])]
theorem chP_src {p : Pt} (h : p.err = false) (x y : Int) : (chP p true x y).src = y ∧ (chP p true x y).err = false := by
  rw [chP_plain h]
  unfold chPorts
  exact ⟨by simp, h⟩
theorem part_src {X Y : List Int} {h : Hd} {p : Pt} {x y : Int} (g : Again X Y h p true x y) (he : p.err = false) : ∃ q : Pt, partI Y = (q, true) ∧ q.src = y ∧ q.err = false := ⟨_, part_again g, chP_src he x y⟩
theorem nxt_first (hk : k < 3) (hf : k = 1 → f = 2) : nxt (carP k) 0 true (fb (gotP k a b f).flags 4) (fb (gotP k a b f).flags 1) (fb (gotP k a b f).flags 2) (fb (gotP k a b f).flags 16) = 0 := by
  have h3 : k = 0 ∨ k = 1 ∨ k = 2 := by omega
  rcases h3 with rfl | rfl | rfl
  · rfl
  · rw [hf rfl]
    show nxt 6 0 true (fb 2 4) (fb 2 1) (fb 2 2) (fb 2 16) = 0
    decide +kernel
  · rfl
section
variable (hs : 0 ≤ s ∧ s ≤ 4294967295) (hd : 0 ≤ d ∧ d ≤ 4294967295) (ha : 0 ≤ a ∧ a ≤ 65535) (hb : 0 ≤ b ∧ b ≤ 65535) (hl : Bytes8 l) (hn : l.length ≤ 40) (hk : k < 3)
include hs hd ha hb hl hn hk
theorem step_new (c : Cf) (L : List Bd) (ti po : Int) (hf : k = 1 → f = 2) (hti : 0 ≤ ti ∧ ti ≤ 4294967295) (hpo : 0 ≤ po) (hno : ofB ⟨carP k, s, a⟩ L = none) (hpl : 0 ≤ placeP c (carP k) po) (hat : atB c (placeP c (carP k) po) L = none) :
    stepP c L true (frameL k s d a b f l) ti po = (putB c ⟨⟨carP k, s, a⟩, po, 0, ti⟩ L, 0, rwL (frameL k s d a b f l) true c.ou po) := by
  have h1 := frame_who (f := f) hs hd ha hb hl hn (by omega : k < 4) c.ou
  have h2 := frame_begins (f := f) hs hd ha hb hl hn (by omega : k < 4) hk hf
  obtain ⟨_, _, h3⟩ := frame_rd (f := f) hs hd ha hb hl hn (by omega : k < 4)
  obtain ⟨h4, _⟩ := frame_rw2 (f := f) hs hd ha hb hl hn (by omega : k < 4)
  unfold stepP outS
  rw [if_neg (by omega), h1, if_neg (by simp), if_pos rfl, hno, h2, h3, h4]
  simp only
  rw [if_neg (by simp), if_neg (by omega), if_neg (by omega), if_neg (by rw [hat]; simp; omega), nxt_first hk hf]
end
end
end Go.Proofs.YtbckoohljkmahaaGreat
namespace Go.Proofs.YtbckoohljkmahaaGreat
set_option linter.unusedVariables false
set_option linter.unusedSimpArgs false
open Go.RowKit
variable {α : Type} {P : Program} {cs : α → List Value} {sz : Nat}
theorem wp_appT (hs : ∀ x, (cs x).length = sz) (h1c : ∀ x, ∀ u ∈ cs x, u.oneCell' = true) (hsz : 0 < sz) {o : Oper} {a : Act} {K : Act → World → Prop} {Q : Exit → Act → World → Prop} (w : World) (s x : Operand) (t : TypeId)
    (ho : o.op = .call { callee := .builtin .append, args := #[s, x], argTypes := #[t, t] })
    (base : Nat) (e : TypeId) (i : TypeInfo) (z : Value) (bytes : Nat) (ht : P.underlying t = some (.slice e)) (hi : P.info? e = some i) (hz : i.zero = some z)
    (hsize : i.size = sz) (hby : i.bytes = bytes) (hzs : z.cells.size = sz) (v : Value) (hsv : a.eval s = v) (l : List α) (hown : OwnT cs sz e w base v l)
    (B : Nat) (A : Option Addr) (m c : Nat) (hx : a.eval x = .slice A m c) (l2 : List α) (hr : RdT cs sz w B A m l2) (hlen : (l.length + m) * bytes ≤ 140737488355328) (hbp : 0 < bytes) (hbase : base ≤ w.heap.size)
    (h : ∀ v' w', OwnT cs sz e w' base v' (l ++ l2) → w.grownBy w' v.ownBlock → (v'.ownBlock = v.ownBlock ∨ v'.ownBlock = some w.heap.size) → K (a.put o.dst v') w') : o.wp P a w K Q := by
  obtain ⟨v', w', hrun, h2, h3, h4⟩ := run_appT (P := P) hs h1c hsz w base t o.type e i z bytes ht hi hz hsize hby hzs v l hown B A m c l2 hr hlen hbp hbase
  unfold Oper.wp execOp
  simp only [ho, resolve, invoke, builtin, Sem.run_bind, Sem.run_pure, Result.andThen_ok, List.map_toArray, List.map_cons, List.map_nil, hsv, hx, hrun]
  exact h v' w' h2 h3 h4
end Go.Proofs.YtbckoohljkmahaaGreat
namespace Go.Proofs.YtbckoohljkmahaaGreat
set_option linter.unusedVariables false
set_option linter.unusedSimpArgs false
open Go.RowKit
theorem s15_size : (Tryz.prog.info? 24).map (·.size) = some 9 := by kernel_rfl
theorem arr9 {cs : Array Value} {x0 x1 x2 x3 x4 x5 x6 x7 x8 : Value} (h : cs.size = 9) (h0 : cs.toList[0]? = some x0) (h1 : cs.toList[1]? = some x1) (h2 : cs.toList[2]? = some x2) (h3 : cs.toList[3]? = some x3) (h4 : cs.toList[4]? = some x4) (h5 : cs.toList[5]? = some x5) (h6 : cs.toList[6]? = some x6) (h7 : cs.toList[7]? = some x7) (h8 : cs.toList[8]? = some x8) : cs = #[x0, x1, x2, x3, x4, x5, x6, x7, x8] := by
  obtain ⟨l⟩ := cs
  match l, h with
  | [y0, y1, y2, y3, y4, y5, y6, y7, y8], _ =>
    simp only [List.getElem?_cons_zero, List.getElem?_cons_succ, Option.some.injEq] at h0 h1 h2 h3 h4 h5 h6 h7 h8
    rw [h0, h1, h2, h3, h4, h5, h6, h7, h8]
theorem arg_s15 {W : World} {v : Value} (h : Arg Tryz.prog W 24 v) : ∃ (out : Bool) (wt wo po f be by_ ti : Int) (A : Option Addr) (len cap : Nat) (l : List Int), v = .agg #[.bool out, .int .i64 wt, .int .i64 wo, .int .i64 po, .int .i64 f, .slice A len cap, .int .i64 be, .int .u8 by_, .int .i64 ti] ∧
    (0 ≤ by_ ∧ by_ ≤ 255) ∧ len ≤ cap ∧ cap ≤ maxLen ∧ Rd .u8 W W.heap.size A len l := by
  obtain ⟨cs, m, rfl, hs, hf⟩ := arg_struct Tryz.underlying24 h
  have hC : Tryz.prog.cellsOf 24 = 9 := by kernel_rfl
  have hCi : Tryz.prog.cellsOf 3 = 1 := by kernel_rfl
  have hCl : Tryz.prog.cellsOf 4 = 1 := by kernel_rfl
  have hCb : Tryz.prog.cellsOf 5 = 1 := by kernel_rfl
  have hCs : Tryz.prog.cellsOf 22 = 1 := by kernel_rfl
  obtain ⟨x0, e0⟩ := fld_bool (i := 0) hf rfl Tryz.underlying4 hCl
  obtain ⟨x1, e1, _⟩ := fld_int (i := 1) hf rfl Tryz.underlying3 hCi
  obtain ⟨x2, e2, _⟩ := fld_int (i := 2) hf rfl Tryz.underlying3 hCi
  obtain ⟨x3, e3, _⟩ := fld_int (i := 3) hf rfl Tryz.underlying3 hCi
  obtain ⟨x4, e4, _⟩ := fld_int (i := 4) hf rfl Tryz.underlying3 hCi
  obtain ⟨A, len, cap, l, e5, h1, h2, h3⟩ := fld_ints (i := 5) hf rfl Tryz.underlying22 Tryz.underlying5 hCb hCs
  obtain ⟨x6, e6, _⟩ := fld_int (i := 6) hf rfl Tryz.underlying3 hCi
  obtain ⟨x7, e7, r7⟩ := fld_int (i := 7) hf rfl Tryz.underlying5 hCb
  obtain ⟨x8, e8, _⟩ := fld_int (i := 8) hf rfl Tryz.underlying3 hCi
  exact ⟨x0, x1, x2, x3, x4, x6, x7, x8, A, len, cap, l, by rw [arr9 (hs.trans hC) e0 e1 e2 e3 e4 e5 e6 e7 e8], inr_u8 r7, h1, h2, h3⟩
end Go.Proofs.YtbckoohljkmahaaGreat
namespace Go.Proofs.YtbckoohljkmahaaGreat
set_option linter.unusedVariables false
set_option linter.unusedSimpArgs false
open Go.RowKit
theorem Own.rdS {k : IntKind} {e : TypeId} {w : World} {base n c : Nat} {A : Option Addr} {l : List Int} (h : Own k e w base (.slice A n c) l) (hn : l.length = n) : Rd k w w.heap.size A n l := by
  obtain ⟨A', c', e1, _, _, hr⟩ := h.form hn
  simp only [Value.slice.injEq] at e1
  obtain ⟨rfl, _, rfl⟩ := e1
  exact hr
end Go.Proofs.YtbckoohljkmahaaGreat
namespace Go.Proofs.YtbckoohljkmahaaGreat
set_option linter.unusedVariables false
set_option linter.unusedSimpArgs false
open Go.RowKit
theorem rwE_rdE (l : List Int) : rwE l = rdE l := by
  unfold rwE rdE
  by_cases h : getE l = 0
  · rw [if_neg (by simp [h]), if_pos h]
  · rw [if_pos h, if_neg h]
end Go.Proofs.YtbckoohljkmahaaGreat
namespace Go.Proofs.YtbckoohljkmahaaGreat
set_option linter.unusedVariables false
set_option linter.unusedSimpArgs false
open Go.RowKit
section
variable {c : Cf} {b b' : Bd}
theorem atB_one : atB c (keyB c b) [b] = some b := by simp [atB]
theorem putB_nil : putB c b [] = [b] := rfl
end
section
variable {k : Nat} {s d a b f : Int} {l : List Int}
section
variable (hs : 0 ≤ s ∧ s ≤ 4294967295) (hd : 0 ≤ d ∧ d ≤ 4294967295) (ha : 0 ≤ a ∧ a ≤ 65535) (hb : 0 ≤ b ∧ b ≤ 65535) (hl : Bytes8 l) (hn : l.length ≤ 40) (hk : k < 4)
include hs hd ha hb hl hn hk
end
end
end Go.Proofs.YtbckoohljkmahaaGreat
namespace Go.Proofs.YtbckoohljkmahaaGreat
set_option linter.unusedVariables false
set_option linter.unusedSimpArgs false
open Go.RowKit
theorem life_get {t P s d : Int} {l : List Int} (ht : 0 ≤ t ∧ t ≤ 255) (hP : 0 ≤ P ∧ P ≤ 255) (hs : 0 ≤ s ∧ s ≤ 4294967295) (hd : 0 ≤ d ∧ d ≤ 4294967295) (hl : l.length ≤ 1480) :
    getE (putL t P s d l) = 0 ∧ hdIf (putL t P s d l) 0 = ⟨20, (putL t P s d l).length, t, P, s, d⟩ := by
  have h := put_get (t := t) (p := P) (s := s) (d := d) (l := l) ht hP hs hd hl []
  rw [List.append_nil] at h
  refine ⟨h.1, ?_⟩
  unfold hdIf
  rw [if_pos rfl, h.2, put_len]
  push_cast
  rfl
theorem lifeR (t P s d : Int) (x : List Int) : getR ⟨20, (putL t P s d x).length, t, P, s, d⟩ (putL t P s d x) = getX P ⟨20, (putL t P s d x).length, t, P, s, d⟩ x :=
  getR_put t P s d x _ (by rw [put_len]; push_cast; rfl)
end Go.Proofs.YtbckoohljkmahaaGreat
