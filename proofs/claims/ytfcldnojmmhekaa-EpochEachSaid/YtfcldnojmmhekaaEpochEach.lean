/- Every input of EpochEach answers true, and reads behind the call as it read before. No condition. -/
import Derived.Test.YtfcldnojmmhekaaEachPlain
import Derived.Test.YtfcldnojmmhekaaFrame
import Derived.Deep.CutBlock
import Derived.RegionTactic
import Derived.Outline
namespace Go.Proofs.Ytfcldnojmmhekaa
set_option linter.unusedVariables false
set_option linter.unusedSimpArgs false
open Go.RowKit
attribute [local irreducible] Es.does
def ints (l : List Nat) : Array Value := (l.map fun c : Nat => Value.int .i64 (c : Int)).toArray
theorem ints_at {l : List Nat} {k c : Nat} (h : l[k]? = some c) : (ints l)[k]? = some (.int .i64 (c : Int)) := by simp [ints, h]
theorem ints_set (l : List Nat) (k c : Nat) : (ints l).setIfInBounds k (.int .i64 (c : Int)) = ints (l.set k c) := by unfold ints; rw [List.map_set]; simp
theorem info_inte : (Try.prog.info? 3).map (fun i => (i.zero, i.size, i.bytes)) = some (some (.int .i64 0), 1, 8) := by kernel_rfl
/-- the epochs, and two rows of counts beside them -/
structure EE (w0 : World) (b g h gr n gb tb E : Nat) (hs : List Value) (G : List (List Th)) (gs ts : List Nat) (W : World) : Prop where
  el : EL w0 b g h gr n (idleL n E) hs G W
  gv : Blk W gb 3 (ints gs)
  td : Blk W tb 3 (ints ts)
  ne : gb ≠ tb
  hgb : w0.heap.size ≤ gb
  htb : w0.heap.size ≤ tb
  lg : gs.length = n
  lt : ts.length = n
section
variable {w0 W W' : World} {b g h gr n gb tb sb E E' : Nat} {hs hs' : List Value} {G G' : List (List Th)} {gs ts : List Nat} {s s' : Es}
theorem EE.bel' (k : EE w0 b g h gr n gb tb E hs G gs ts W) (hb : Below W.heap.size W W') : EE w0 b g h gr n gb tb E hs G gs ts W' := ⟨k.el.bel' hb, k.gv.bel hb, k.td.bel hb, k.ne, k.hgb, k.htb, k.lg, k.lt⟩
theorem EE.drew (k : EE w0 b g h gr n gb tb E hs G gs ts W) : EE w0 b g h gr n gb tb E hs G gs ts W.drew := ⟨k.el.drew, k.gv.drew, k.td.drew, k.ne, k.hgb, k.htb, k.lg, k.lt⟩
theorem EE.gave (k : EE w0 b g h gr n gb tb E hs G gs ts W) (eg : EG w0.heap.size b g h gr n (idleL n E) hs' G' W') (up : Upd (GvS gr hs) W W') : EE w0 b g h gr n gb tb E hs' G' gs ts W' :=
  ⟨k.el.gave eg up, k.gv.upd up (k.el.eg.gv.notS k.gv (by decide) (by decide)), k.td.upd up (k.el.eg.gv.notS k.td (by decide) (by decide)), k.ne, k.hgb, k.htb, k.lg, k.lt⟩
theorem EE.step (k : EE w0 b g h gr n gb tb E hs G gs ts W) (st : EsAt W sb s) (hsb : w0.heap.size ≤ sb) (es : ES W b g h gr n sb s' (idleL n E') W') : EE w0 b g h gr n gb tb E' hs G gs ts W' :=
  ⟨k.el.step st hsb es, k.gv.upd es.upd (fun e => e.elim (k.gv.ne_ k.el.eg.ep.cel.row (by decide)) (k.gv.ne_ st (by decide))), k.td.upd es.upd (fun e => e.elim (k.td.ne_ k.el.eg.ep.cel.row (by decide)) (k.td.ne_ st (by decide))), k.ne, k.hgb, k.htb, k.lg, k.lt⟩
theorem EE.setG (k : EE w0 b g h gr n gb tb E hs G gs ts W) (i c : Nat) : EE w0 b g h gr n gb tb E hs G (gs.set i c) ts (W.setCell ⟨gb, i, none⟩ (.int .i64 (c : Int))) :=
  ⟨k.el.other (Upd.one W gb i _) (fun x hx => by subst hx; exact ⟨k.hgb, _, _, k.gv, by decide⟩), by rw [← ints_set]; exact k.gv.set_ i _, k.td.upd (Upd.one W gb i _) (Ne.symm k.ne), k.ne, k.hgb, k.htb, by rw [List.length_set]; exact k.lg, k.lt⟩
theorem EE.setT (k : EE w0 b g h gr n gb tb E hs G gs ts W) (i c : Nat) : EE w0 b g h gr n gb tb E hs G gs (ts.set i c) (W.setCell ⟨tb, i, none⟩ (.int .i64 (c : Int))) :=
  ⟨k.el.other (Upd.one W tb i _) (fun x hx => by subst hx; exact ⟨k.htb, _, _, k.td, by decide⟩), k.gv.upd (Upd.one W tb i _) k.ne, by rw [← ints_set]; exact k.td.set_ i _, k.ne, k.hgb, k.htb, k.lg, by rw [List.length_set]; exact k.lt⟩
end
/-- what holds of all workers -/
def Each (E i : Nat) (G : List (List Th)) (gs ts : List Nat) : Prop := ∀ (k : Nat) l a c, G[k]? = some l → gs[k]? = some a → ts[k]? = some c → EachK E l a c ∧ a ≤ i
theorem Each.later {E E' i i' : Nat} {G : List (List Th)} {gs ts : List Nat} (h : Each E i G gs ts) (hE : E ≤ E') (hi : i ≤ i') : Each E' i' G gs ts := fun k l a c h1 h2 h3 => by
  obtain ⟨q, r⟩ := h k l a c h1 h2 h3
  exact ⟨q.later hE, by omega⟩
theorem Each.put {E i : Nat} {G : List (List Th)} {gs ts : List Nat} (h : Each E i G gs ts) (k : Nat) {l' : List Th} {a' c' : Nat} (q : EachK E l' a' c') (ha : a' ≤ i) : Each E i (G.set k l') (gs.set k a') (ts.set k c') := fun j l a c h1 h2 h3 => by
  by_cases hj : j = k
  · subst hj
    have e1 := List.mem_of_getElem? h1
    obtain ⟨l1, _⟩ := List.getElem?_eq_some_iff.1 h1
    obtain ⟨l2, _⟩ := List.getElem?_eq_some_iff.1 h2
    obtain ⟨l3, _⟩ := List.getElem?_eq_some_iff.1 h3
    rw [List.getElem?_set_self (by simpa using l1)] at h1
    rw [List.getElem?_set_self (by simpa using l2)] at h2
    rw [List.getElem?_set_self (by simpa using l3)] at h3
    simp only [Option.some.injEq] at h1 h2 h3
    subst h1; subst h2; subst h3
    exact ⟨q, ha⟩
  · rw [List.getElem?_set_ne (Ne.symm hj)] at h1 h2 h3
    exact h j l a c h1 h2 h3
theorem sub_len {a b c : Nat} (h : a + c = b) (hb : b ≤ 1000) : IntKind.i64.wrap ((b : Int) - (a : Int)) = (c : Int) := by rw [show (b : Int) - (a : Int) = (c : Int) by omega]; exact IntWalk.i64_in _ (by omega)
theorem add_len {a b c : Nat} (h : c = a + b) (hb : c ≤ 1000) : IntKind.i64.wrap ((a : Int) + (b : Int)) = (c : Int) := by rw [show (a : Int) + (b : Int) = (c : Int) by omega]; exact IntWalk.i64_in _ (by omega)
theorem wr_len {a : Nat} (h : a ≤ 1000) : Value.int .u64 (IntKind.u64.wrap (a : Int)) = .int .u64 (a : Int) := by congr 1; rw [IntKind.wrap_u64]; omega
theorem lt5 (t n : Nat) (h : t ≤ n + 1) : decide ((t : Int) < (n : Int) + 5) = true := by simp; omega
theorem set_same_ {α : Type} {l : List α} {i : Nat} {x : α} (h : l[i]? = some x) : l.set i x = l := by
  obtain ⟨hl, he⟩ := List.getElem?_eq_some_iff.1 h
  rw [← he]; exact List.set_getElem_self hl
theorem ee_new {w w2 : World} {b g h gr n : Nat} {hs : List Value} {G : List (List Th)} (el : EL w b g h gr n (idleL n (0 : Nat)) hs G w2) (_n : Nat) :
    EE w b g h gr n w2.heap.size (w2.heap.size + 1) 0 hs G (List.replicate n 0) (List.replicate n 0) ((w2.alloc (.cells (Array.replicate n (.int .i64 0)) 3)).alloc (.cells (Array.replicate n (.int .i64 0)) 3)).drew ∧
    EE w b g h gr n (w2.heap.size + 1) w2.heap.size 0 hs G (List.replicate n 0) (List.replicate n 0) ((w2.alloc (.cells (Array.replicate n (.int .i64 0)) 3)).alloc (.cells (Array.replicate n (.int .i64 0)) 3)).drew := by
  have hz : ints (List.replicate n 0) = Array.replicate n (.int .i64 0) := by unfold ints; rw [List.map_replicate, List.toArray_replicate]; rfl
  have b1 := (Blk.new w2 3 (Array.replicate n (.int .i64 0))).alloc (.cells (Array.replicate n (.int .i64 0)) 3)
  have b2 := Blk.new (w2.alloc (.cells (Array.replicate n (.int .i64 0)) 3)) 3 (Array.replicate n (.int .i64 0))
  rw [show (w2.alloc (.cells (Array.replicate n (.int .i64 0)) 3)).heap.size = w2.heap.size + 1 by simp] at b2
  have e := (el.bel' ((bel_alloc w2 (.cells (Array.replicate n (.int .i64 0)) 3)).alloc (by simp) (.cells (Array.replicate n (.int .i64 0)) 3))).drew
  have hs := el.bel.size
  exact ⟨⟨e, by rw [hz]; exact b1.drew, by rw [hz]; exact b2.drew, by omega, hs, by omega, by simp, by simp⟩, ⟨e, by rw [hz]; exact b2.drew, by rw [hz]; exact b1.drew, by omega, by omega, hs, by simp, by simp⟩⟩
set_option profiler true in
set_option profiler.threshold 1500 in
set_option maxRecDepth 100000 in
set_option maxHeartbeats 1000000 in
theorem EpochEach_any (x0 : Int) (A : Option Addr) (m cap : Nat) (pk : List Int) (w : World) (rd : Rd .i64 w w.heap.size A m pk) (hmx : m ≤ 9223372036854775807) :
    Calls Try.prog 6 #[.int .i64 x0, .slice A m cap] w fun e w' => e = .returned (.bool true) ∧ Below w.heap.size w w' := by
  obtain ⟨q, hq, hq8⟩ := modn x0 6 (by omega)
  obtain ⟨n, hn⟩ : ∃ n : Nat, n = 1 + q := ⟨_, rfl⟩
  have hqv : (Value.int .u64 ((IntKind.u64.wrap x0).tmod 6)) = .int .u64 q := by rw [hq]
  have hw2 : 1 + (q : Int) = (n : Int) := by omega
  have hn1 : 1 ≤ n := by omega
  have hn2 : n ≤ 6 := by omega
  obtain ⟨i0, hi, hz0, hz1, hz2⟩ := info_parts info_inte
  have hmk := fun W => make_one (P := Try.prog) 22 3 i0 _ Try.underlying22 hi hz0 hz1 rfl .i64 .i64 n (by rw [hz2]; omega) (by omega) W
  clear hq hz0 hz1 hz2
  replace hn := Lib.hid hn
  go_enter Try.func6, Try.ntmps6
  go_wp2_with fail
  refine (EpNew_yes n _ hn1 (by omega)).mono ?_
  rintro e w1 ⟨b, g, h, gr, rfl, bel, hb, hh, hgr, ep, gv⟩
  rw [idle_new] at ep
  have el1 : EL w b g h gr n (idleL n 0) _ _ w1 := ⟨⟨ep, gv, by simp⟩, hh, hgr, bel⟩
  clear ep gv bel hqv hw2 hq8
  generalize List.replicate n (Value.slice none 0 0) = hs at *
  go_wp2_with fail
  refine (moves_any _).mono ?_
  rintro e w2 ⟨rfl, bel2⟩
  have el2 := el1.bel' bel2
  clear el1 bel2
  go_upto_region 5 with fail
  go_cut [8, 9] (fun s8 s9 wx => ∃ gb tb, s8 = .slice (some ⟨gb, 0, none⟩) n n ∧ s9 = .slice (some ⟨tb, 0, none⟩) n n ∧ EE w b g h gr n gb tb 0 hs (List.replicate n []) (List.replicate n 0) (List.replicate n 0) wx)
  case first =>
    obtain ⟨e1, e2⟩ := ee_new el2 n
    go_region
    all_goals
      go_wp2_with fail
      go_meet
      first
        | exact ⟨_, _, rfl, rfl, e1⟩
        | exact ⟨_, _, rfl, rfl, e2⟩
  case rest =>
    obtain ⟨gb, tb, rfl, rfl, ee⟩ := hcut
    clear el2 hmk
    have each : Each 0 0 (List.replicate n []) (List.replicate n 0) (List.replicate n 0) := fun k l a c h1 h2 h3 => by
      obtain rfl := (List.mem_replicate.1 (List.mem_of_getElem? h1)).2
      obtain rfl := (List.mem_replicate.1 (List.mem_of_getElem? h2)).2
      obtain rfl := (List.mem_replicate.1 (List.mem_of_getElem? h3)).2
      exact ⟨each_new 0, Nat.le_refl _⟩
    generalize List.replicate n 0 = zs at *
    generalize (List.replicate n [] : List (List Th)) = G at *
    go_wp2_with fail
    go_loopg [10] m (fun gk s10 wr => ∃ (i E : Nat) (hs : List Value) (G : List (List Th)) (gs ts : List Nat), gk = m - i ∧ i ≤ m ∧ i ≤ 100 ∧ s10 = .int .i64 i ∧ E ≤ i ∧ Each E i G gs ts ∧ EE w b g h gr n gb tb E hs G gs ts wr)
    case atStart => exact ⟨0, 0, hs, G, zs, zs, rfl, Nat.zero_le _, by omega, rfl, Nat.le_refl _, each, ee⟩
    case round =>
      clear each ee
      obtain ⟨i, E, hs, G, gs, ts, hgk, him, hi100, rfl, hEi, each, ee⟩ := hrel
      by_cases hlt : i < m ∧ i < 100
      · obtain ⟨hlt, hlt2⟩ := hlt
        have hd : decide (i < m) = true := by simpa using hlt
        have hd2 : decide ((i : Int) < 100) = true := by simp; omega
        replace hgk := Lib.hid hgk
        obtain ⟨pb, po, rfl, hpb, pc, _⟩ := rd.at_ hlt
        have pcx : wr.cell? ⟨pb, po + i, none⟩ = some (.int .i64 (pk.getD i 0)) := (ee.el.bel.cell (p := ⟨pb, po + i, none⟩) hpb).trans pc
        obtain ⟨k, hk, hkn⟩ := modn ((IntKind.u64.wrap (pk.getD i 0)).tdiv 4) n (by omega)
        obtain ⟨a, ha, ha4⟩ := modn (pk.getD i 0) 4 (by omega)
        generalize pk.getD i 0 = x at *
        clear pc
        go_upto_block 2 with fail
        clear pcx hk ha
        have hkn2 : k < n := by omega
        have hk0 : (0 : Int) ≤ k := by omega
        obtain ⟨l, hl⟩ : ∃ l, G[k]? = some l := ⟨_, List.getElem?_eq_getElem (by rw [ee.el.eg.len]; exact hkn2)⟩
        obtain ⟨gk, hgk2⟩ : ∃ gk, gs[k]? = some gk := ⟨_, List.getElem?_eq_getElem (by rw [ee.lg]; exact hkn2)⟩
        obtain ⟨tk, htk2⟩ : ∃ tk, ts[k]? = some tk := ⟨_, List.getElem?_eq_getElem (by rw [ee.lt]; exact hkn2)⟩
        obtain ⟨ek, hgi⟩ := each k l gk tk hl hgk2 htk2
        go_cut [12] (fun s12 wx => ∃ (E : Nat) (hs : List Value) (G : List (List Th)) (gs ts : List Nat), E ≤ i + 1 ∧ Each E (i + 1) G gs ts ∧ EE w b g h gr n gb tb E hs G gs ts wx)
        case first =>
          have hkl := ek.len
          have h4 : a = 0 ∨ a = 1 ∨ a = 2 ∨ a = 3 := by omega
          have hgive : a = 0 ∨ a = 1 → ((a : Int) == 0) = true ∨ (((a : Int) == 0) = false ∧ ((a : Int) == 1) = true) := by
            rintro (rfl | rfl)
            · exact .inl rfl
            · exact .inr ⟨rfl, rfl⟩
          have cg1 := ee.gv.cell k
          have cg2 := ee.gv.frozen k
          rw [ints_at hgk2] at cg1
          have hgkv : Value.int .u64 (IntKind.u64.wrap (gk : Int)) = .int .u64 (gk : Int) := by congr 1; rw [IntKind.wrap_u64]; omega
          by_cases h01 : a = 0 ∨ a = 1
          · replace hgive := hgive h01
            have ee4 := fun (W4 : World) (hs4 : List Value) (eg4 : EG w.heap.size b g h gr n (idleL n E) hs4 (G.set k (l ++ [⟨gk, E⟩])) W4) (up4 : Upd (GvS gr hs) wr W4) => ((ee.gave eg4 up4).setG k (gk + 1))
            have c4 := fun (W4 : World) (hs4 : List Value) (eg4 : EG w.heap.size b g h gr n (idleL n E) hs4 (G.set k (l ++ [⟨gk, E⟩])) W4) (up4 : Upd (GvS gr hs) wr W4) => (ee.gave eg4 up4).gv.cell k
            have f4 := fun (W4 : World) (hs4 : List Value) (eg4 : EG w.heap.size b g h gr n (idleL n E) hs4 (G.set k (l ++ [⟨gk, E⟩])) W4) (up4 : Upd (GvS gr hs) wr W4) => (ee.gave eg4 up4).gv.frozen k
            have each5 := (each.later (Nat.le_refl E) (Nat.le_succ i)).put k (ek.give) (by omega)
            rw [set_same_ htk2] at each5
            have hl0 : l.length ≤ 100000 := by omega
            replace ee4 := Lib.hid ee4
            replace c4 := Lib.hid c4
            replace f4 := Lib.hid f4
            replace hl := Lib.hid hl
            replace hgk2 := Lib.hid hgk2
            replace htk2 := Lib.hid htk2
            clear hkl h4 h01
            rcases hgive with hq0 | ⟨hq0, hq1⟩
            all_goals
              go_wp2_with fail
              refine (EpGive_any w.heap.size b g h gr n k gk (idleL n E) hs G l _ ee.el.eg hkn2 hl.out hl0 ee.el.bel.size).mono ?_
              rw [idle_at0]
              rintro e w4 ⟨hs4, rfl, eg4, up4⟩
              have ee5 := ee4.out _ hs4 eg4 up4
              have c5 := c4.out _ hs4 eg4 up4
              have f5 := f4.out _ hs4 eg4 up4
              rw [ints_at hgk2.out] at c5
              rw [show (((gk + 1 : Nat)) : Int) = (gk : Int) + 1 by omega] at ee5
              clear cg1 cg2 ee4 c4 f4 ee
              go_wp2_with fail
              go_meet
              exact ⟨E, _, _, _, _, by omega, each5, ee5⟩
          · have hq0 : ((a : Int) == 0) = false := by simp; omega
            have hq1 : ((a : Int) == 1) = false := by simp; omega
            clear hgive
            by_cases h2 : a = 2
            · have hq2 : ((a : Int) == 2) = true := by simp; omega
              clear h01 h4 h2 cg1 cg2 hgkv
              replace hl := Lib.hid hl
              replace hgk2 := Lib.hid hgk2
              replace htk2 := Lib.hid htk2
              replace hkl := Lib.hid hkl
              have each5 := each.later (Nat.le_succ E) (Nat.le_succ i)
              go_wp2_with fail
              refine (EpAdvance_any b _).mono ?_
              rintro e w5 ⟨sb, rfl, hsb, st, bel5⟩
              have hsb2 : w.heap.size ≤ sb := Nat.le_trans ee.el.bel.size hsb
              have ee5 := ee.bel' bel5
              have st5 : EsAt w5 sb (advS E 0) := st
              clear ee bel5 st hsb
              go_wp2_with fail
              go_loopg [13] 20 (fun gt s13 wx => ∃ (t : Nat), gt = 20 - t ∧ t ≤ n + 1 ∧ s13 = .int .i64 t ∧ EsAt wx sb (advS E t) ∧ EE w b g h gr n gb tb E hs G gs ts wx)
              case atStart => exact ⟨0, rfl, Nat.zero_le _, rfl, st5, ee5⟩
              case round =>
                clear st5 ee5
                obtain ⟨t, hgt, htn, rfl, st, ee⟩ := hrel
                have hd3 := lt5 t n htn
                replace hgt := Lib.hid hgt
                go_wp2_with fail
                refine (EpDo_any b g h gr n sb (advS E t) (idleL n E) _ ee.el.eg.ep st (by show t ≤ 1000; omega) (fun h => by cases h) rfl).mono ?_
                by_cases hj2 : t ≤ n
                · rw [advs_go n E t hj2]
                  rintro e w6 ⟨rfl, es⟩
                  have ee6 := ee.step st hsb2 es
                  have st6 : EsAt w6 sb (advS E (t + 1)) := es.st
                  clear ee st es
                  simp only [show (advS (E : Int) (t + 1)).done = false from rfl]
                  go_wp2_with fail
                  go_roundg (20 - (t + 1))
                  case measure => have := hgt.out; omega
                  case rel => exact ⟨t + 1, rfl, by omega, by go_num, st6, ee6⟩
                · obtain rfl : t = n + 1 := by omega
                  rw [advs_end n E (by omega), show (E : Int) + 1 = ((E + 1 : Nat) : Int) by omega]
                  rintro e w6 ⟨rfl, es⟩
                  have ee6 := ee.step st hsb2 es
                  clear ee st es
                  simp only
                  go_wp2_with fail
                  go_meet
                  exact ⟨E + 1, _, _, _, _, by omega, each5, ee6⟩
            · have hq2 : ((a : Int) == 2) = false := by simp; omega
              have hq3 : ((a : Int) == 3) = true := by simp; omega
              clear h01 h4 h2 cg1 cg2 hgkv
              obtain ⟨p, hp, htks, ek5⟩ := ek.take
              have hwhat := ek.rng (by omega)
              have each5 := (each.later (Nat.le_refl E) (Nat.le_succ i)).put k ek5 (by omega)
              rw [set_same_ hgk2] at each5
              have hl0 : l.length ≤ 100000 := by omega
              have hp100 : p ≤ 100 := by omega
              have htk100 : tk ≤ 100 := by omega
              replace hl := Lib.hid hl
              replace hgk2 := Lib.hid hgk2
              replace htk2 := Lib.hid htk2
              replace htks := Lib.hid htks
              replace hkl := Lib.hid hkl
              go_wp2_with fail
              refine (EpTake_any w.heap.size b g h gr n k (idleL n E) hs G l _ ee.el.eg hkn2 hl.out hl0 ee.el.bel.size hwhat (fun x hx => by have := ek.when x hx; omega)).mono ?_
              rw [idle_at0, htks.out]
              rintro e w5 ⟨v, hs5, rfl, own, eg5, up5⟩
              have ee5 := ee.gave eg5 up5
              have ee5 : EE w b g h gr n gb tb E hs5 (G.set k (leaves E l)) gs (ts.set k (tk + 0)) w5 := by rw [Nat.add_zero, set_same_ htk2.out]; exact ee5
              obtain ⟨A5, c5, rfl, _, _, _⟩ := own.form (n := p) (by simp)
              clear ee eg5 up5 htks ek5 hl0
              go_wp2_with fail
              go_loopg [15] p (fun gt s15 wx => ∃ (j : Nat), gt = p - j ∧ j ≤ p ∧ s15 = .int .i64 j ∧ Own .u64 23 wx wr.heap.size (.slice A5 p c5) ((List.range p).map (fun j => ((tk + j : Nat) : Int))) ∧ EE w b g h gr n gb tb E hs5 (G.set k (leaves E l)) gs (ts.set k (tk + j)) wx)
              case atStart => exact ⟨0, rfl, Nat.zero_le _, rfl, own, ee5⟩
              case round =>
                clear own ee5
                obtain ⟨j, hgt, hjp, rfl, own, ee⟩ := hrel
                by_cases hlt : j < p
                · have hd3 : decide (j < p) = true := by simpa using hlt
                  replace hgt := Lib.hid hgt
                  obtain ⟨gg, c6, hv, _, _, _, _⟩ := own.formG (n := p) (by simp) (by omega)
                  simp only [Value.slice.injEq, true_and] at hv
                  obtain ⟨rfl, rfl⟩ := hv
                  obtain ⟨cx, _, _⟩ := own.at_ (by simp) hlt
                  rw [show ((List.range p).map (fun j => ((tk + j : Nat) : Int))).getD j 0 = ((tk + j : Nat) : Int) by simp [List.getD_eq_getElem?_getD, hlt]] at cx
                  have htj : (ts.set k (tk + j))[k]? = some (tk + j) := List.getElem?_set_self (by rw [ee.lt.symm.trans (List.length_set ..)] at hkn2; exact hkn2)
                  obtain ⟨tj, htj2⟩ : ∃ tj, tj = tk + j := ⟨_, rfl⟩
                  rw [← htj2] at ee htj cx
                  have htj3 : tj ≤ 200 := by omega
                  have htk3 : ts.set k (tk + (j + 1)) = (ts.set k tj).set k (tj + 1) := by rw [List.set_set]; congr 1; omega
                  have hw8 : Value.int .u64 (IntKind.u64.wrap (tj : Int)) = .int .u64 (tj : Int) := by congr 1; rw [IntKind.wrap_u64]; omega
                  have ct1 := ee.td.cell k
                  rw [ints_at htj] at ct1
                  replace htj2 := Lib.hid htj2
                  replace htj := Lib.hid htj
                  replace htk3 := Lib.hid htk3
                  have z1 : ∀ t : Tw (fun w' => Below wr.heap.size wr w'), t.w.cell? ⟨gg, j, none⟩ = some (.int .u64 (tj : Int)) := fun t => (t.h.cell (p := ⟨gg, j, none⟩) (cell_lt cx)).trans cx
                  have z2 : ∀ t : Tw (fun w' => Below wr.heap.size wr w'), t.w.cell? ⟨tb, k, none⟩ = some (.int .i64 (tj : Int)) := fun t => (t.h.cell (p := ⟨tb, k, none⟩) (cell_lt ct1)).trans ct1
                  have : Nonempty (Tw (fun w' => Below wr.heap.size wr w')) := ⟨⟨wr, Below.refl _ _⟩⟩
                  go_wp2_with fail
                  refine region_tw (fun w' => Below wr.heap.size wr w') (by kernel_rfl) (by kernel_rfl) (Below.refl _ _).drew ?_
                  unfold clsS
                  repeat (first
                    | go_big_quiet_skip
                    | (go_big_quiet_want; go_big_quiet_op; go_big_quiet_on))
                  refine wpQuiet_nil ?_
                  intro tq
                  have own7 := own.below tq.h
                  have ee7 := ee.bel' tq.h
                  generalize tq.w = W7 at *
                  clear z1 z2 this tq own ee cx ct1
                  have ct1 := ee7.td.cell k
                  have ct2 := ee7.td.frozen k
                  rw [ints_at htj.out] at ct1
                  have ee8 := ee7.setT k (tj + 1)
                  rw [← htk3.out, show (((tj + 1 : Nat)) : Int) = (tj : Int) + 1 by omega] at ee8
                  have own8 := own7.upd (Upd.one W7 tb k (.int .i64 ((tj : Int) + 1))) (fun x hx he => by
                    obtain ⟨_, q⟩ := own7.blk_ hx
                    exact q.ne_ ee7.td (by decide) he)
                  clear own7 ee7
                  go_wp2_with fail
                  go_roundg (p - (j + 1))
                  case measure => have := hgt.out; omega
                  case rel => exact ⟨j + 1, rfl, by omega, by go_num, own8, ee8⟩
                · obtain rfl : j = p := by omega
                  go_wp2_with fail
                  go_meet
                  exact ⟨E, _, _, _, _, by omega, each5, ee⟩
        case rest =>
          clear each ee hl hgk2 htk2 ek hgi gk l tk
          obtain ⟨E, hs, G, gs, ts, hEi, each, ee⟩ := hcut
          obtain ⟨l, hl⟩ : ∃ l, G[k]? = some l := ⟨_, List.getElem?_eq_getElem (by rw [ee.el.eg.len]; exact hkn2)⟩
          obtain ⟨gk, hgk2⟩ : ∃ gk, gs[k]? = some gk := ⟨_, List.getElem?_eq_getElem (by rw [ee.lg]; exact hkn2)⟩
          obtain ⟨tk, htk2⟩ : ∃ tk, ts[k]? = some tk := ⟨_, List.getElem?_eq_getElem (by rw [ee.lt]; exact hkn2)⟩
          obtain ⟨ek, hgi⟩ := each k l gk tk hl hgk2 htk2
          have hkl := ek.len
          have hwhat := ek.rng (by omega)
          have hgiv := fun j (hj : j < l.length) => ek.given hj
          have hl0 : l.length ≤ 101 := by omega
          have hl1 : l.length ≤ 100000 := by omega
          have hgt0 : decide (gk < tk) = false := by simp; omega
          have htk101 : tk ≤ 101 := by omega
          obtain ⟨ll, hll⟩ : ∃ ll, ll = l.length := ⟨_, rfl⟩
          rw [← hll] at hkl hgiv hl0
          replace hll := Lib.hid hll
          have ct1 := ee.td.cell k
          rw [ints_at htk2] at ct1
          have cg1 := ee.gv.cell k
          rw [ints_at hgk2] at cg1
          replace hgk2 := Lib.hid hgk2
          replace htk2 := Lib.hid htk2
          replace hkl := Lib.hid hkl
          replace hgiv := Lib.hid hgiv
          replace hl := Lib.hid hl
          clear ha4
          go_wp2_with fail
          refine (EpGiven_any w.heap.size b g h gr n k (idleL n E) hs G l _ ee.el.eg hkn2 hl.out hl1 hwhat).mono ?_
          rintro e w5 ⟨v, rfl, own, bel5⟩
          have ee5 := ee.bel' bel5
          have ct5 : w5.cell? ⟨tb, k, none⟩ = some (.int .i64 (tk : Int)) := (bel5.cell (p := ⟨tb, k, none⟩) (cell_lt ct1)).trans ct1
          have cg5 : w5.cell? ⟨gb, k, none⟩ = some (.int .i64 (gk : Int)) := (bel5.cell (p := ⟨gb, k, none⟩) (cell_lt cg1)).trans cg1
          clear ct1 cg1 ee
          obtain ⟨A6, c6, rfl, _, _, rd6⟩ := own.form (n := ll) (by rw [List.length_map, hll.out])
          go_wp2_with fail
          have z1 : ∀ t : Tw (fun w' => Below w5.heap.size w5 w'), t.w.cell? ⟨tb, k, none⟩ = some (.int .i64 (tk : Int)) := fun t => (t.h.cell (p := ⟨tb, k, none⟩) (cell_lt ct5)).trans ct5
          have z2 : ∀ t : Tw (fun w' => Below w5.heap.size w5 w'), t.w.cell? ⟨gb, k, none⟩ = some (.int .i64 (gk : Int)) := fun t => (t.h.cell (p := ⟨gb, k, none⟩) (cell_lt cg5)).trans cg5
          have : Nonempty (Tw (fun w' => Below w5.heap.size w5 w')) := ⟨⟨w5, Below.refl _ _⟩⟩
          have hsub : IntKind.i64.wrap ((gk : Int) - (tk : Int)) = (ll : Int) := sub_len hkl.out (by omega)
          have hwt : ∀ t : Tw (fun w' => Below w5.heap.size w5 w'), Calls Try.prog 15 #[.pointer (some ⟨b, 0, none⟩), .int .i64 k] t.w fun e w' => e = .returned (.int .i64 (ll : Int)) ∧ t.w = w' := fun t => by
            rw [hll.out]; exact EpWaiting_any w.heap.size b g h gr n k (idleL n E) hs G l _ (ee5.bel' t.h).el.eg hkn2 hl.out
          replace hwt := Lib.hid hwt
          refine region_tw (fun w' => Below (w5).heap.size (w5) w') (by kernel_rfl) (by kernel_rfl) (Below.refl _ _).drew ?_
          unfold clsS
          repeat (first
            | go_big_quiet_skip
            | (go_big_quiet_want; go_big_quiet_op; first | go_big_quiet_on | go_big_quiet_call (
              (first | (go_at_call 15; exact q_tw_same (hwt.out _))))))
          refine wpQuiet_nil ?_
          intro tq
          clear hwt hsub
          have bel7 := tq.h
          generalize tq.w = W7 at *
          clear tq
          go_wp2_with fail
          go_loopg [17] ll (fun gt s17 wx => ∃ (j : Nat), gt = ll - j ∧ j ≤ ll ∧ s17 = .int .i64 j ∧ Below w5.heap.size w5 wx)
          case atStart => exact ⟨0, rfl, Nat.zero_le _, rfl, bel7⟩
          case round =>
            clear bel7
            obtain ⟨j, hgt, hjl, rfl, bel⟩ := hrel
            by_cases hlt : j < ll
            · have hd3 : decide (j < ll) = true := by simpa using hlt
              obtain ⟨gg, o6, rfl, hgg, cx, _⟩ := rd6.at_ hlt
              rw [hgiv.out j hlt] at cx
              obtain ⟨tj, htj⟩ : ∃ tj, tj = tk + j := ⟨_, rfl⟩
              rw [← htj] at cx
              have hadd : IntKind.i64.wrap ((tk : Int) + (j : Int)) = (tj : Int) := add_len htj (by omega)
              have hw8 : Value.int .u64 (IntKind.u64.wrap (tj : Int)) = .int .u64 (tj : Int) := wr_len (by omega)
              have z3 : ∀ t : Tw (fun w' => Below w5.heap.size w5 w'), t.w.cell? ⟨gg, o6 + j, none⟩ = some (.int .u64 (tj : Int)) := fun t => (t.h.cell (p := ⟨gg, o6 + j, none⟩) hgg).trans cx
              replace hgt := Lib.hid hgt
              replace htj := Lib.hid htj
              go_wp2_with fail
              refine region_tw (fun w' => Below w5.heap.size w5 w') (by kernel_rfl) (by kernel_rfl) bel.drew ?_
              unfold clsS
              repeat (first
                | go_big_quiet_skip
                | (go_big_quiet_want; go_big_quiet_op; go_big_quiet_on))
              refine wpQuiet_nil ?_
              intro tq
              clear hadd hw8 z3
              go_wp2_with fail
              go_roundg (ll - (j + 1))
              case measure => have := hgt.out; omega
              case rel => exact ⟨j + 1, rfl, by omega, by go_num, tq.h⟩
            · obtain rfl : j = ll := by omega
              have ee8 := ee5.bel' bel
              clear hgt hlt
              go_wp2_with fail
              go_roundg (m - (i + 1))
              case measure => have := hgk.out; omega
              case rel => exact ⟨i + 1, E, hs, G, gs, ts, rfl, by omega, by omega, by go_num, hEi, each, ee8⟩
      · have hcond : decide (i < m) = false ∨ (decide (i < m) = true ∧ decide ((i : Int) < 100) = false) := by
          rcases Nat.lt_or_ge i m with h | h
          · exact .inr ⟨by simpa using h, by simp; omega⟩
          · exact .inl (by simp; omega)
        rcases hcond with hd | ⟨hd, hd2⟩
        · go_wp2
          go_ret
          exact ⟨rfl, ee.el.bel⟩
        · go_wp2
          go_ret
          exact ⟨rfl, ee.el.bel⟩
theorem EpochEach_args (W : World) (args : Array Value) (hs : args.size = Try.f6.params.size) (hA : ∀ (j : Nat) t v, Try.f6.params[j]? = some t → args[j]? = some v → Arg Try.prog W t v) :
    Calls Try.prog 6 args W fun e W' => e = .returned (.bool true) ∧ Below W.heap.size W W' := by
  obtain ⟨v0, v1, rfl⟩ := args2 hs
  obtain ⟨x0, rfl, _⟩ := arg_int Try.underlying3 (hA 0 3 v0 rfl rfl)
  obtain ⟨A, len, cap, l, rfl, h1, h2, rd⟩ := arg_ints Try.underlying22 Try.underlying3 (by kernel_rfl) (hA 1 22 v1 rfl rfl)
  unfold maxLen at h2
  exact EpochEach_any x0 A len cap l W rd (by omega)

set_option maxRecDepth 100000 in
theorem EpochEach_lifted (os : Os) (started : os.Started) (H : Type) (enc : TypeId × Value → H) :
    ReturnsInHanded {} Try.checked os 6 .any (Rows.epochEachSpec.pre6 enc Try.prog Try.f6 Rows.epochEachRow.domain false) (Rows.epochEachSpec.post enc Try.prog Try.f6 false true false false) :=
  law_lifted os started H enc (by kernel_rfl) Try.func6 rfl rfl (fun H ds h => by match ds, h with | [_, _], _ => exact ⟨rfl, rfl, rfl⟩) (by kernel_rfl)
    (ChangeSpec.witness6 (enc := enc) (C := Try.checked) false ⟨#[], #[.int .i64 0, .slice none 0 0], []⟩ 8 (by kernel_rfl) (by kernel_rfl) (by kernel_rfl) (by kernel_rfl))
    EpochEach_args

/-- the statement -/
theorem epochEach_holds : Rows.EpochEachSaid :=
  OpenClaim.holds_of_wide 6 Try.f6 rfl rfl rfl rfl rfl rfl rfl ⟨rfl, rfl, rfl, rfl, rfl⟩ rfl rfl rfl rfl rfl (by kernel_rfl) Try.func6 (by kernel_rfl)
    (of_decide_eq_true (by kernel_rfl)) (by unfold Func.isWrapper; first | (rw [if_pos (by decide +kernel)]; kernel_rfl) | (rw [if_neg (by decide +kernel)]; exact ⟨rfl, rfl⟩))
    (fun os started H enc _ => EpochEach_lifted os started H enc)

end Go.Proofs.Ytfcldnojmmhekaa
