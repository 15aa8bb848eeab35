/- The law's turns, plain, beside the steps in memory; what the frame keeps; New. -/
import Derived.Test.YtlhfbmoodehoiaaFep2
import Derived.Test.YtlhfbmoodehoiaaFrame
import Derived.Deep.CutBlock
import Derived.Deep.Cut
import Derived.RegionTactic
import Derived.Outline
namespace Go.Proofs.Ytlhfbmoodehoiaa
set_option linter.unusedVariables false
set_option linter.unusedSimpArgs false
open Go.RowKit
def psm (ps : List (Option (Nat × Es))) : List (Option Es) := ps.map (Option.map Prod.snd)
theorem psm_set (ps : List (Option (Nat × Es))) (k : Nat) (x : Option (Nat × Es)) : psm (ps.set k x) = (psm ps).set k (x.map Prod.snd) := by unfold psm; rw [List.map_set]
theorem psm_at {ps : List (Option (Nat × Es))} {k x : Nat} {s : Es} (h : ps[k]? = some (some (x, s))) : (psm ps)[k]? = some (some s) := by unfold psm; rw [List.getElem?_map, h]; rfl
theorem psm_inv {ps : List (Option (Nat × Es))} {k : Nat} {s : Es} (h : (psm ps)[k]? = some (some s)) : ∃ x, ps[k]? = some (some (x, s)) := by
  unfold psm at h
  rw [List.getElem?_map] at h
  cases hp : ps[k]? with
  | none => rw [hp] at h; cases h
  | some p =>
    rw [hp] at h
    cases p with
    | none => cases h
    | some q =>
      obtain ⟨x, u⟩ := q
      simp at h; subst h
      exact ⟨x, rfl⟩
section
variable {n E E' i nx k r : Nat} {pin pin' : List Nat} {ps : List (Option (Nat × Es))} {G : List (List Th)} {at_ rd : List Nat} {tk gv : Int → Int} {l : List Th} {s s' : Es}
theorem FI.kn (p : FI n E i pin (psm ps) G at_ rd nx tk gv) {a : Nat} (hk : at_[k]? = some a) : k < n := by rw [← p.la]; exact (List.getElem?_eq_some_iff.1 hk).1
theorem FI.rk (p : FI n E i pin (psm ps) G at_ rd nx tk gv) {a : Nat} (hk : at_[k]? = some a) : ∃ r, rd[k]? = some r := ⟨_, List.getElem?_eq_getElem (by rw [p.lr]; exact p.kn hk)⟩
theorem FI.r00 (p : FI n E i pin (psm ps) G at_ rd nx tk gv) {a : Nat} (hk : at_[k]? = some a) (ha : a < 3 ∨ 5 < a) : rd[k]? = some 0 := by
  obtain ⟨r, hr⟩ := p.rk hk
  by_cases h : r = 0
  · rw [← h]; exact hr
  · have := p.r0 k a r hk hr h; omega
theorem FI.beg (p : FI n E i pin (psm ps) G at_ rd nx tk gv) (hk : at_[k]? = some 0) (x : Nat) : FI n E (i + 1) pin (psm (ps.set k (some (x, ⟨(k : Int), false, 0, 0, false, false⟩)))) G (at_.set k 1) rd nx tk gv := by
  have hs := (p.st k 0 hk).2.2.2 (by omega) (by omega)
  have hl : k < (psm ps).length := (List.getElem?_eq_some_iff.1 hs).1
  rw [psm_set]
  have r0 := p.r00 hk (.inl (by omega))
  refine (p.turn (a := 1) hk (by omega) ?_ (fun j hj => List.getElem?_set_ne (Ne.symm hj)) ⟨by omega, fun _ => ⟨_, List.getElem?_set_self hl, rfl⟩, fun h => (by cases h), fun h => absurd rfl h⟩ (fun r hr hr0 => by rw [r0] at hr; injection hr with hr; omega) ⟨Nat.le_refl _, p.eE⟩ (fun j => .inl rfl)).next
  rw [pdOf_set]
  exact p.tv.begP k
theorem FI.fly (p : FI n E i pin (psm ps) G at_ rd nx tk gv) {a : Nat} (hk : at_[k]? = some a) (ha : a = 1 ∨ a = 6) : ∃ x s, ps[k]? = some (some (x, s)) ∧ s.adv = decide (a = 6) := by
  rcases ha with rfl | rfl
  · obtain ⟨s, h1, h2⟩ := (p.st k 1 hk).2.1 rfl
    obtain ⟨x, hx⟩ := psm_inv h1
    exact ⟨x, s, hx, h2⟩
  · obtain ⟨s, h1, h2⟩ := (p.st k 6 hk).2.2.1 rfl
    obtain ⟨x, hx⟩ := psm_inv h1
    exact ⟨x, s, hx, h2⟩
theorem FI.doGo (p : FI n E i pin (psm ps) G at_ rd nx tk gv) {a x : Nat} (hk : at_[k]? = some a) (ha : a = 1 ∨ a = 6) (hps : ps[k]? = some (some (x, s))) (hav : s.adv = decide (a = 6)) (dd : Does n E k pin (psm ps) (pdOf at_) s s' E' pin') (hd : s'.done = false) :
    FI n E' (i + 1) pin' (psm (ps.set k (some (x, s')))) G at_ rd nx tk gv := by
  obtain ⟨h1, h2⟩ := dd.go hd
  have hl : k < (psm ps).length := (List.getElem?_eq_some_iff.1 (psm_at hps)).1
  have r0 := p.r00 hk (by omega)
  rw [psm_set]
  have q := p.next.turn (a := a) (E' := E') (pin' := pin') (ss' := (psm ps).set k (some s')) hk (by omega) (by rw [set_same hk]; exact h2) (fun j hj => List.getElem?_set_ne (Ne.symm hj))
    ⟨by omega, fun e => ⟨_, List.getElem?_set_self hl, by rw [h1, hav]; simp [e]⟩, fun e => ⟨_, List.getElem?_set_self hl, by rw [h1, hav]; simp [e]⟩, fun h h' => by omega⟩
    (fun r hr hr0 => by rw [r0] at hr; injection hr with hr; omega) (by have := dd.le; have := p.eE; omega) (fun j => by
      by_cases hj : j = k
      · exact .inr ⟨hj, r0⟩
      · exact .inl (dd.far j hj))
  rw [set_same hk] at q
  exact q
theorem FI.doEnd (p : FI n E i pin (psm ps) G at_ rd nx tk gv) {a x : Nat} (hk : at_[k]? = some a) (ha : a = 1 ∨ a = 6) (hps : ps[k]? = some (some (x, s))) (hav : s.adv = decide (a = 6)) (dd : Does n E k pin (psm ps) (pdOf at_) s s' E' pin') (hd : s'.done = true) :
    FI n E' (i + 1) pin' (psm (ps.set k none)) G (at_.set k (a + 1)) rd nx tk gv := by
  have h2 := dd.fin hd
  have hl : k < (psm ps).length := (List.getElem?_eq_some_iff.1 (psm_at hps)).1
  have r0 := p.r00 hk (by omega)
  rw [psm_set]
  refine p.next.turn (a := a + 1) hk (by omega) ?_ (fun j hj => List.getElem?_set_ne (Ne.symm hj)) ⟨by omega, fun e => by omega, fun e => by omega, fun _ _ => List.getElem?_set_self hl⟩
    (fun r hr hr0 => by rw [r0] at hr; injection hr with hr; omega) (by have := dd.le; have := p.eE; omega) (fun j => by
      by_cases hj : j = k
      · exact .inr ⟨hj, r0⟩
      · exact .inl (dd.far j hj))
  rcases ha with rfl | rfl
  · rw [hav] at h2
    rw [pdOf_set]
    exact h2
  · rw [hav] at h2
    rw [pdOf_same hk (by decide)]
    exact h2
theorem FI.stay (p : FI n E i pin (psm ps) G at_ rd nx tk gv) (hk : at_[k]? = some 3) : FI n E (i + 1) pin (psm ps) G (at_.set k 5) rd nx tk gv :=
  (p.turn (a := 5) hk (by omega) (by rw [pdOf_same hk (by decide)]; exact p.tv) (fun _ _ => rfl) ⟨by omega, fun h => (by cases h), fun h => (by cases h), fun _ _ => (p.st k 3 hk).2.2.2 (by omega) (by omega)⟩ (fun _ _ _ => by omega) ⟨Nat.le_refl _, p.eE⟩ (fun _ => .inl rfl)).next
theorem FI.leave (p : FI n E i pin (psm ps) G at_ rd nx tk gv) (hk : at_[k]? = some 5) (x : Nat) : FI n E (i + 1) (pin.set k 0) (psm (ps.set k (some (x, ⟨0, true, 0, 0, false, false⟩)))) G (at_.set k 6) (rd.set k 0) nx tk gv := by
  rw [psm_set]; exact (p.unpin hk).next
end
/-- a frame of so many slots, by a function -/
def frm (v : Nat → Value) : List Value := (List.range 252).map v
set_option maxRecDepth 100000 in
theorem frm_lit (v : Nat → Value) : frm v = v 0 :: v 1 :: v 2 :: v 3 :: v 4 :: v 5 :: v 6 :: v 7 :: v 8 :: v 9 :: v 10 :: v 11 :: v 12 :: v 13 :: v 14 :: v 15 :: v 16 :: v 17 :: v 18 :: v 19 :: v 20 :: v 21 :: v 22 :: v 23 :: v 24 :: v 25 :: v 26 :: v 27 :: v 28 :: v 29 :: v 30 :: v 31 :: v 32 :: v 33 :: v 34 :: v 35 :: v 36 :: v 37 :: v 38 :: v 39 :: v 40 :: v 41 :: v 42 :: v 43 :: v 44 :: v 45 :: v 46 :: v 47 :: v 48 :: v 49 :: v 50 :: v 51 :: v 52 :: v 53 :: v 54 :: v 55 :: v 56 :: v 57 :: v 58 :: v 59 :: v 60 :: v 61 :: v 62 :: v 63 :: v 64 :: v 65 :: v 66 :: v 67 :: v 68 :: v 69 :: v 70 :: v 71 :: v 72 :: v 73 :: v 74 :: v 75 :: v 76 :: v 77 :: v 78 :: v 79 :: v 80 :: v 81 :: v 82 :: v 83 :: v 84 :: v 85 :: v 86 :: v 87 :: v 88 :: v 89 :: v 90 :: v 91 :: v 92 :: v 93 :: v 94 :: v 95 :: v 96 :: v 97 :: v 98 :: v 99 :: v 100 :: v 101 :: v 102 :: v 103 :: v 104 :: v 105 :: v 106 :: v 107 :: v 108 :: v 109 :: v 110 :: v 111 :: v 112 :: v 113 :: v 114 :: v 115 :: v 116 :: v 117 :: v 118 :: v 119 :: v 120 :: v 121 :: v 122 :: v 123 :: v 124 :: v 125 :: v 126 :: v 127 :: v 128 :: v 129 :: v 130 :: v 131 :: v 132 :: v 133 :: v 134 :: v 135 :: v 136 :: v 137 :: v 138 :: v 139 :: v 140 :: v 141 :: v 142 :: v 143 :: v 144 :: v 145 :: v 146 :: v 147 :: v 148 :: v 149 :: v 150 :: v 151 :: v 152 :: v 153 :: v 154 :: v 155 :: v 156 :: v 157 :: v 158 :: v 159 :: v 160 :: v 161 :: v 162 :: v 163 :: v 164 :: v 165 :: v 166 :: v 167 :: v 168 :: v 169 :: v 170 :: v 171 :: v 172 :: v 173 :: v 174 :: v 175 :: v 176 :: v 177 :: v 178 :: v 179 :: v 180 :: v 181 :: v 182 :: v 183 :: v 184 :: v 185 :: v 186 :: v 187 :: v 188 :: v 189 :: v 190 :: v 191 :: v 192 :: v 193 :: v 194 :: v 195 :: v 196 :: v 197 :: v 198 :: v 199 :: v 200 :: v 201 :: v 202 :: v 203 :: v 204 :: v 205 :: v 206 :: v 207 :: v 208 :: v 209 :: v 210 :: v 211 :: v 212 :: v 213 :: v 214 :: v 215 :: v 216 :: v 217 :: v 218 :: v 219 :: v 220 :: v 221 :: v 222 :: v 223 :: v 224 :: v 225 :: v 226 :: v 227 :: v 228 :: v 229 :: v 230 :: v 231 :: v 232 :: v 233 :: v 234 :: v 235 :: v 236 :: v 237 :: v 238 :: v 239 :: v 240 :: v 241 :: v 242 :: v 243 :: v 244 :: v 245 :: v 246 :: v 247 :: v 248 :: v 249 :: v 250 :: v 251 :: [] := by kernel_rfl
theorem frm_self {l : List Value} (h : l.length = 252) : l = frm (fun i => l.getD i undef) := by
  apply List.ext_getElem
  · simp [frm, h]
  · intro i h1 h2
    simp [frm, List.getD_eq_getElem?_getD, List.getElem?_eq_getElem h1]
theorem frm_meet {l : List Value} {d : List Deferred} {R : (Nat → Value) → Prop} (h : l.length = 252) (hR : R (fun i => l.getD i undef)) : ∃ v, (⟨l.toArray, d⟩ : Act) = ⟨(frm v).toArray, d⟩ ∧ R v := ⟨_, by rw [← frm_self h], hR⟩
/-- what the frame keeps all along -/
structure Com (n : Nat) (A : Option Addr) (m cap cb b ab lb rb tb vb nx i : Nat) (v : Nat → Value) : Prop where
  v1 : v 1 = .slice A m cap
  v5 : v 5 = .int .i64 n
  v6 : v 6 = .pointer (some ⟨cb, 0, none⟩)
  v8 : v 8 = .pointer (some ⟨b, 0, none⟩)
  v10 : v 10 = .slice (some ⟨ab, 0, none⟩) n n
  v11 : v 11 = .slice (some ⟨lb, 0, none⟩) n n
  v12 : v 12 = .slice (some ⟨rb, 0, none⟩) n n
  v13 : v 13 = .map (some tb)
  v14 : v 14 = .map (some vb)
  v15 : v 15 = .int .u64 nx
  v16 : v 16 = .int .i64 i
theorem fm_new {w W : World} {b g h gr n cb ch : Nat} {hs : List Value} (el : EL w b g h gr n (cellsL 0 (List.replicate n 0)) hs (List.replicate n []) W) (ce : Cel W cb ch [((0 : Nat) : Int)]) (hh : ch ≠ h) (lo : w.heap.size ≤ ch) :
    FM w b g h gr n cb ch W.heap.size (W.heap.size + 1) (W.heap.size + 1 + 1) (W.heap.size + 1 + 1 + 1) (W.heap.size + 1 + 1 + 1 + 1) 0 (List.replicate n 0) (List.replicate n []) hs (List.replicate n (.pointer none)) (List.replicate n none) (List.replicate n 0) (List.replicate n 0) 0 (fun _ => 0) (fun _ => 0) 0
      (((((W.alloc (.cells (Array.replicate n (.int .i64 0)) 3)).alloc (.cells (Array.replicate n (.pointer none)) 34)).alloc (.cells (Array.replicate n (.int .u64 0)) 23)).alloc (.map #[] 0)).alloc (.map #[] 0)) := by
  have hsz := el.bel.size
  have s1 : (W.alloc (.cells (Array.replicate n (.int .i64 0)) 3)).heap.size = W.heap.size + 1 := by simp
  generalize hW1 : W.alloc (.cells (Array.replicate n (.int .i64 0)) 3) = W1 at *
  have s2 : (W1.alloc (.cells (Array.replicate n (.pointer none)) 34)).heap.size = W.heap.size + 1 + 1 := by simp [s1]
  generalize hW2 : W1.alloc (.cells (Array.replicate n (.pointer none)) 34) = W2 at *
  have s3 : (W2.alloc (.cells (Array.replicate n (.int .u64 0)) 23)).heap.size = W.heap.size + 1 + 1 + 1 := by simp [s2]
  generalize hW3 : W2.alloc (.cells (Array.replicate n (.int .u64 0)) 23) = W3 at *
  have s4 : (W3.alloc (.map #[] 0)).heap.size = W.heap.size + 1 + 1 + 1 + 1 := by simp [s3]
  generalize hW4 : W3.alloc (.map #[] 0) = W4 at *
  have b1 : Below W.heap.size W W1 := hW1 ▸ bel_alloc _ _
  have b2 : Below W1.heap.size W1 W2 := hW2 ▸ bel_alloc _ _
  have b3 : Below W2.heap.size W2 W3 := hW3 ▸ bel_alloc _ _
  have b4 : Below W3.heap.size W3 W4 := hW4 ▸ bel_alloc _ _
  have b5 := bel_alloc W4 (.map #[] 0)
  have k1 : Blk W1 W.heap.size 3 _ := hW1 ▸ Blk.new W _ _
  have k2 : Blk W2 W1.heap.size 34 _ := hW2 ▸ Blk.new W1 _ _
  have k3 : Blk W3 W2.heap.size 23 _ := hW3 ▸ Blk.new W2 _ _
  have k4 : MapU W4 W3.heap.size 0 (fun _ => 0) := hW4 ▸ MapU.made W3
  have k5 := MapU.made W4
  rw [s1] at k2; rw [s2] at k3; rw [s3] at k4; rw [s4] at k5
  have a5 := bel_after (bel_after (bel_after (bel_after b1 b2) b3) b4) b5
  refine ⟨el.bel' a5, ce.bel a5, ?_, ?_, ?_, k4.bel b5, k5, fun k x s e => ?_, fun i j x s y u _ e => ?_, hh, by omega, by simp, by omega, by omega, by omega, by omega, by omega, by omega⟩
  · have := (((k1.bel b2).bel b3).bel b4).bel b5
    rw [show natI (List.replicate n 0) = Array.replicate n (.int .i64 0) by unfold natI; rw [List.map_replicate, List.toArray_replicate]; rfl]
    exact this
  · have := ((k2.bel b3).bel b4).bel b5
    rw [List.toArray_replicate]
    exact this
  · have := (k3.bel b4).bel b5
    rw [show natU (List.replicate n 0) = Array.replicate n (.int .u64 0) by unfold natU; rw [List.map_replicate, List.toArray_replicate]; rfl]
    exact this
  · have := (List.mem_replicate.1 (List.mem_of_getElem? e)).2; cases this
  · have := (List.mem_replicate.1 (List.mem_of_getElem? e)).2; cases this
/-- one cell -/
theorem Load1 (g h : Nat) (c : Int) (w : World) (hc : Cel w g h [c]) : Calls Try.prog 8 #[.pointer (some ⟨g, 0, none⟩), .int .i64 0] w fun e w' => e = .returned (.int .u64 c) ∧ w = w' :=
  (Load_any 0 g h [c] w hc (by simp)).mono fun e w' ⟨h1, h2⟩ => ⟨h1, h2⟩
theorem Cas1_hit (g h : Nat) (c v : Int) (w : World) (hc : Cel w g h [c]) (hv : inr .u64 v) : Calls Try.prog 9 #[.pointer (some ⟨g, 0, none⟩), .int .i64 0, .int .u64 c, .int .u64 v] w fun e w' => e = .returned (.bool true) ∧ Cel w' g h [v] ∧ Upd (· = h) w w' := by
  have hd : (0 : Int) ≤ 0 ∧ (0 : Int) < ([c].length : Nat) ∧ celAt [c] 0 = c := ⟨by omega, by simp, rfl⟩
  refine (Cas_any 0 c v g h [c] w hc (by simp) hv).mono fun e w' ⟨h1, h2, h3⟩ => ?_
  rw [if_pos hd] at h2
  rw [decide_eq_true hd] at h1
  exact ⟨h1, h2, h3⟩
theorem Cas1_miss (g h : Nat) (c o v : Int) (w : World) (hc : Cel w g h [c]) (hv : inr .u64 v) (hne : c ≠ o) : Calls Try.prog 9 #[.pointer (some ⟨g, 0, none⟩), .int .i64 0, .int .u64 o, .int .u64 v] w fun e w' => e = .returned (.bool false) ∧ Cel w' g h [c] ∧ Upd (· = h) w w' := by
  have hd : ¬ ((0 : Int) ≤ 0 ∧ (0 : Int) < ([c].length : Nat) ∧ celAt [c] 0 = o) := fun h => hne h.2.2
  refine (Cas_any 0 o v g h [c] w hc (by simp) hv).mono fun e w' ⟨h1, h2, h3⟩ => ?_
  rw [if_neg hd] at h2
  rw [decide_eq_false hd] at h1
  exact ⟨h1, h2, h3⟩
/-- who is taken so far -/
def tkTo (T : List Int) (j : Nat) (tk : Int → Int) : Int → Int := fun x => if x ∈ T.take j then 1 else tk x
theorem tkTo0 (T : List Int) (tk : Int → Int) : tkTo T 0 tk = tk := by funext x; simp [tkTo]
theorem tkTo_all (T : List Int) (tk : Int → Int) (n : Nat) (hn : T.length = n) : tkTo T n tk = fun x => if x ∈ T then 1 else tk x := by funext x; subst hn; simp [tkTo]
theorem tkTo_succ {T : List Int} {j : Nat} {y : Int} (hy : T[j]? = some y) (tk : Int → Int) : (fun x => if x = y then 1 else tkTo T j tk x) = tkTo T (j + 1) tk := by
  funext x
  unfold tkTo
  rw [List.take_add_one, hy]
  by_cases h : x = y
  · simp [h]
  · simp [h]
theorem tkTo_new {T : List Int} {j : Nat} {y : Int} (hnd : T.Nodup) (hy : T[j]? = some y) (tk : Int → Int) : tkTo T j tk y = tk y := by
  unfold tkTo
  refine if_neg fun h => ?_
  obtain ⟨i, hi, he⟩ := List.getElem_of_mem h
  rw [List.getElem_take] at he
  rw [List.length_take] at hi
  obtain ⟨hj, hje⟩ := List.getElem?_eq_some_iff.1 hy
  have := (List.getElem_inj hnd).1 (he.trans hje.symm)
  omega
theorem Own.updM {kd : IntKind} {e : TypeId} {w w' : World} {base x M : Nat} {v : Value} {l : List Int} {F : Int → Int} (ho : Own kd e w base v l) (hm : MapU w x M F) (hu : Upd (fun k => k = x) w w') : Own kd e w' base v l :=
  ho.upd hu (fun g hg e => by
    obtain ⟨cur, hb⟩ := ho.blk_ hg
    exact hm.ne_ hb e)
theorem GvAt.low {w : World} {base base' gr : Nat} {hs : List Value} {G : List (List Th)} (k : GvAt w base gr hs G) (hb : base' ≤ base) : GvAt w base' gr hs G :=
  ⟨k.blk, k.len, fun i v l hv hl => by
    have ho := k.own i v l hv hl
    exact ⟨⟨ho.row.1, ho.row.2.imp id (fun ⟨g, cap, cur, q1, q2, q3⟩ => ⟨g, cap, cur, q1, Nat.le_trans hb q2, q3⟩)⟩⟩, k.far⟩
theorem info_int : (Try.prog.info? 3).map (fun i => (i.zero, i.size, i.bytes)) = some (some (.int .i64 0), 1, 8) := by kernel_rfl
end Go.Proofs.Ytlhfbmoodehoiaa
