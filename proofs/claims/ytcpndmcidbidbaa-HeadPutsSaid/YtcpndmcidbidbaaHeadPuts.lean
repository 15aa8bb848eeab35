/- Every input of HeadPuts answers true, and reads behind the call as it read before. No condition. -/
import Derived.Test.YtcpndmcidbidbaaHeadCuts
import Derived.Test.YtcpndmcidbidbaaFloat
import Derived.Test.YtcpndmcidbidbaaBytes
namespace Go.Proofs.Ytcpndmcidbidbaa
set_option linter.unusedVariables false
set_option linter.unusedSimpArgs false
open Go.RowKit
section
variable {P : Program}
/-- an append, at the operation -/
theorem wp_app {o : Oper} {a : Act} {Q : Exit → Act → World → Prop} {K : Act → World → Prop} (w : World) (s x : Operand) (t : TypeId)
    (ho : o.op = .call { callee := .builtin .append, args := #[s, x], argTypes := #[t, t] }) (k : IntKind)
    (base : Nat) (e : TypeId) (i : TypeInfo) (z : Value) (bytes : Nat) (ht : P.underlying t = some (.slice e)) (hi : P.info? e = some i) (hz : i.zero = some z)
    (hsize : i.size = 1) (hby : i.bytes = bytes) (hzs : z.cells.size = 1) (v : Value) (hs : a.eval s = v) (l : List Int) (hown : Own k e w base v l)
    (B : Nat) (A : Option Addr) (m c : Nat) (hx : a.eval x = .slice A m c) (l2 : List Int) (hr : Rd k w B A m l2) (hlen : (l.length + m) * bytes ≤ 140737488355328) (hbp : 0 < bytes) (hbase : base ≤ w.heap.size)
    (h : ∀ v' w', Own k e w' base v' (l ++ l2) → w.grownBy w' v.ownBlock → (v'.ownBlock = v.ownBlock ∨ v'.ownBlock = some w.heap.size) → K (a.put o.dst v') w') : o.wp P a w K Q := by
  obtain ⟨v', w', hrun, h2, h3, h4⟩ := run_app (P := P) w k base t o.type e i z bytes ht hi hz hsize hby hzs v l hown B A m c l2 hr hlen hbp hbase
  unfold Oper.wp execOp
  simp only [ho, resolve, invoke, builtin, Sem.run_bind, Sem.run_pure, Result.andThen_ok, List.map_toArray, List.map_cons, List.map_nil, hs, hx, hrun]
  exact h v' w' h2 h3 h4
end
theorem KeepO.alloc (o0 o : Obj) (w : World) : KeepO o0 w (w.alloc o) := fun h hh => (Below.heap_alloc w o h (Array.getElem?_eq_some_iff.1 hh).1).trans hh
theorem KeepO.below {o0 : Obj} {w w' : World} (hb : Below w.heap.size w w') : KeepO o0 w w' := fun h hh => (hb.block h (Array.getElem?_eq_some_iff.1 hh).1).trans hh
theorem KeepO.grown {k : IntKind} {e t : TypeId} {cs : Array Value} {w w' : World} {base : Nat} {v : Value} {l : List Int} (ho : Own k e w base v l) (hne : e ≠ t) (hg : w.grownBy w' v.ownBlock) : KeepO (.cells cs t (0, 0)) w w' := fun h hh =>
  Blk.grown (cs := cs) (t := t) hh hg (ho.notBlk (cs := cs) hh hne)
/-- what was there stays, and the box of h -/
def KB (w : World) (cs : Array Value) (W : World) : Prop := Below w.heap.size w W ∧ Blk W w.heap.size 24 cs
theorem KB.drew {w : World} {cs : Array Value} {W : World} (h : KB w cs W) : KB w cs W.drew := ⟨h.1.drew, h.2.drew⟩
theorem KB.alloc {w : World} {cs : Array Value} {W : World} (h : KB w cs W) (o : Obj) : KB w cs (W.alloc o) := ⟨h.1.alloc h.1.size _, h.2.alloc _⟩
theorem KB.size {w : World} {cs : Array Value} {W : World} (h : KB w cs W) : w.heap.size ≤ W.heap.size := h.1.size
theorem KB.bel {w : World} {cs : Array Value} {W W' : World} (h : KB w cs W) (hb : Below W.heap.size W W') : KB w cs W' := ⟨bel_after h.1 hb, h.2.bel hb⟩
theorem KB.grown {w : World} {cs : Array Value} {W W' : World} {k : IntKind} {v : Value} {l : List Int} (h : KB w cs W) (ho : Own k 5 W w.heap.size v l) (hg : W.grownBy W' v.ownBlock) : KB w cs W' :=
  ⟨h.1.grown hg h.1.size (fun k h => (ho.lt k h).1), h.2.grown hg (ho.notBlk h.2 (by decide))⟩
set_option maxRecDepth 100000 in
set_option maxHeartbeats 4000000 in
theorem HeadPuts_no (a b c d e f : Int) (A A2 : Option Addr) (len cap len2 cap2 : Nat) (w : World) (hlc : len ≤ cap) (hm : cap ≤ 9223372036854775807) (m : Nat) (hmn : (if (1490 : Int) < (len : Int) then (1490 : Int) else (len : Int)) = (m : Int)) (hm1 : m ≤ len) (hm2 : (m : Int) ≤ 1490) (hn : ¬ canPut c d m) :
    Calls Try.prog 3 #[.agg #[.int .i64 a, .int .i64 b, .int .i64 c, .int .i64 d, .int .u32 e, .int .u32 f], .slice A len cap, .slice A2 len2 cap2] w fun e w' => e = .returned (.bool true) ∧ Below w.heap.size w w' := by
  have hi0 : (0 : Int) ≤ (m : Int) := by omega
  have hi1 : (m : Int) ≤ (cap : Int) := by omega
  have hi2 : m ≤ cap := by omega
  have hcv := fun W => conv_rd (P := Try.prog) (Rd.nil .u8 W 0 none) 25 5 9 (cap := 0) Try.underlying25 Try.underlying5 Try.underlying9
  go_enter Try.func3, Try.ntmps3
  go_wp2_with fail
  refine (to_any _ _ _ _ _ _ _).mono ?_
  rintro r w0 ⟨rfl, b0⟩
  have bw0 : Below w.heap.size w w0 := bel_after (bel_alloc _ _) b0
  obtain ⟨hc0, hf0⟩ := bcell b0
  have hz0 : w.heap.size < w0.heap.size := by have := b0.size; simp at this; omega
  go_wp2_with fail
  refine (Put_no _ _ _ _ _ _ _ _ _ _ hn).mono ?_
  rintro r w1 ⟨rfl, b1⟩
  have bw1 := bel_after bw0 b1
  have kb := ((Blk.new w 24 #[.int .i64 a, .int .i64 b, .int .i64 c, .int .i64 d, .int .u32 e, .int .u32 f]).bel b0).bel b1
  have e0 := kb.cell 0
  have e1 := kb.cell 1
  have e2 := kb.cell 2
  have e3 := kb.cell 3
  have e4 := kb.cell 4
  have e5 := kb.cell 5
  clear hc0 hf0
  go_wp2_with fail
  refine (rPut_no _ _ _ _ _ _ _ _ _ _ hn).mono ?_
  rintro r w2 ⟨rfl, b2⟩
  go_wp2_with (go_at_call 12; refine (heads_any _).mono ?_; rintro e w3 ⟨rfl, b3⟩; have hcv3 := hcv w3)
  go_ret
  exact ⟨rfl, bel_after (bel_after bw1 b2) b3⟩
set_option maxRecDepth 100000 in
set_option maxHeartbeats 400000 in
theorem HeadPuts_yes (a b c d e f : Int) (A A2 : Option Addr) (len cap len2 cap2 : Nat) (l l2 : List Int) (w : World) (hr : Rd .u8 w w.heap.size A len l) (hr2 : Rd .u8 w w.heap.size A2 len2 l2) (hlc : len ≤ cap) (hm : cap ≤ 9223372036854775807) (hlc2 : len2 ≤ cap2) (hmc2 : cap2 ≤ 9223372036854775807)
    (m : Nat) (hmn : (if (1490 : Int) < (len : Int) then (1490 : Int) else (len : Int)) = (m : Int)) (hm1 : m ≤ len) (hm2 : (m : Int) ≤ 1480)
    (hc : 0 ≤ c ∧ c ≤ 255) (hd : 0 ≤ d ∧ d ≤ 255) (he : 0 ≤ e ∧ e ≤ 4294967295) (hf : 0 ≤ f ∧ f ≤ 4294967295) :
    Calls Try.prog 3 #[.agg #[.int .i64 a, .int .i64 b, .int .i64 c, .int .i64 d, .int .u32 e, .int .u32 f], .slice A len cap, .slice A2 len2 cap2] w fun e w' => e = .returned (.bool true) ∧ Below w.heap.size w w' := by
  obtain rfl : m = len := by split at hmn <;> omega
  clear hmn
  obtain ⟨i0, hi, hz0, hz1, hz2⟩ := info_parts info_u8_
  obtain ⟨p, hpn, hp1, hp2⟩ := minc 20 (by omega) len2
  have hrL := hr.take hm1
  have hrM := hr2.take hp1
  obtain ⟨L, hL⟩ : ∃ L, L = l.take m := ⟨_, rfl⟩
  obtain ⟨M, hM⟩ : ∃ M, M = l2.take p := ⟨_, rfl⟩
  rw [← hL] at hrL
  rw [← hM] at hrM
  have hLl := hrL.len
  clear hL hM hr hr2
  obtain ⟨n, hn⟩ : ∃ n, n = 20 + m := ⟨_, rfl⟩
  have hX : (putL c d e f L).length = n := by rw [put_len, hLl, hn]
  have hG := put_get (t := c) (p := d) (s := e) (d := f) (l := L) hc hd he hf (by omega) M
  rw [hLl] at hG
  have hG2 : hdIf (putL c d e f L ++ M) 0 = ⟨20, (n : Int), c, d, e, f⟩ := by unfold hdIf; rw [if_pos rfl, hG.2, hn]; congr 1
  obtain ⟨X, hXe⟩ : ∃ X, X = putL c d e f L := ⟨_, rfl⟩
  rw [← hXe] at hX hG hG2
  have hput : ∀ W, Below w.heap.size w W → Calls Try.prog 9 #[.agg #[.int .i64 a, .int .i64 b, .int .i64 c, .int .i64 d, .int .u32 e, .int .u32 f], .slice A m cap] W fun r w' => ∃ v', r = .returned (.tuple #[v', .int .i64 0]) ∧ Own .u8 5 w' W.heap.size v' X ∧ Below W.heap.size W w' := fun W hW => (Put_any a b c d e f L A m cap w.heap.size W (hrL.below hW) hW.size hc hd he hf (by omega)).mono fun r w' ⟨v', h1, h2, h3⟩ => ⟨v', h1, hXe ▸ h2, h3⟩
  have hrput : ∀ W, Below w.heap.size w W → Calls Try.prog 11 #[.agg #[.int .i64 a, .int .i64 b, .int .i64 c, .int .i64 d, .int .u32 e, .int .u32 f], .slice A m cap] W fun r w' => ∃ v', r = .returned (.tuple #[v', .bool true]) ∧ Own .u8 5 w' W.heap.size v' X ∧ Below W.heap.size W w' := fun W hW => (rPut_any a b c d e f L A m cap w.heap.size W (hrL.below hW) hW.size hc hd he hf (by omega)).mono fun r w' ⟨v', h1, h2, h3⟩ => ⟨v', h1, hXe ▸ h2, h3⟩
  have hn20 : 20 ≤ n ∧ n ≤ 1500 := by omega
  replace hput := Lib.hid hput
  replace hrput := Lib.hid hrput
  replace hX := Lib.hid hX
  replace hG := Lib.hid hG
  replace hG2 := Lib.hid hG2
  replace hLl := Lib.hid hLl
  clear hXe hn
  have hi0 : (0 : Int) ≤ (m : Int) := by omega
  have hi1 : (m : Int) ≤ (cap : Int) := by omega
  have hi2 : m ≤ cap := by omega
  have hj0 : (0 : Int) ≤ (p : Int) := by omega
  have hj1 : (p : Int) ≤ (cap2 : Int) := by omega
  have hj2 : p ≤ cap2 := by omega
  go_enter Try.func3, Try.ntmps3
  go_wp2_with fail
  refine (to_any _ _ _ _ _ _ _).mono ?_
  rintro r w0 ⟨rfl, b0⟩
  have bw0 : Below w.heap.size w w0 := bel_after (bel_alloc _ _) b0
  have kb := (Blk.new w 24 #[.int .i64 a, .int .i64 b, .int .i64 c, .int .i64 d, .int .u32 e, .int .u32 f]).bel b0
  clear b0
  go_wp2_with fail
  refine (hput.out _ bw0).mono ?_
  rintro r w1 ⟨v1, rfl, own1, b1⟩
  have bw1 := bel_after bw0 b1
  replace kb := kb.bel b1
  have k0 := kb.cell 0
  have k1 := kb.cell 1
  have k2 := kb.cell 2
  have k3 := kb.cell 3
  have k4 := kb.cell 4
  have k5 := kb.cell 5
  obtain ⟨g, c1, rfl, hc1, hc2, hg1, hg2⟩ := own1.formG hX.out (by omega)
  go_wp2_with fail
  clear k0 k1 k2 k3 k4 k5
  refine (hrput.out _ bw1).mono ?_
  rintro r w2 ⟨v2, rfl, own2, b2⟩
  have bw2 := bel_after bw1 b2
  replace kb := kb.bel b2
  replace own1 := own1.below b2
  obtain ⟨g', c2, rfl, hc1', hc2', hg1', hg2'⟩ := own2.formG hX.out (by omega)
  go_wp2_with fail
  refine (heads_any _).mono ?_
  rintro r w3 ⟨rfl, b3⟩
  have bw3 := bel_after bw2 b3
  replace kb := kb.bel b3
  replace own1 := own1.below b3
  replace own2 := own2.below b3
  have s1 := conv_rd (P := Try.prog) (own1.rd hX.out) 25 5 9 (cap := c1) Try.underlying25 Try.underlying5 Try.underlying9
  have s2 := conv_rd (P := Try.prog) (own2.rd hX.out) 25 5 9 (cap := c2) Try.underlying25 Try.underlying5 Try.underlying9
  go_wp2_with fail
  obtain ⟨cs, hcs⟩ : ∃ cs : Array Value, cs = #[.int .i64 a, .int .i64 b, .int .i64 c, .int .i64 d, .int .u32 e, .int .u32 f] := ⟨_, rfl⟩
  have kb3 : KB w cs w3 := ⟨bw3, hcs ▸ kb⟩
  have : Nonempty (Tw (fun W : World => w.heap.size ≤ W.heap.size)) := ⟨⟨w, Nat.le_refl _⟩⟩
  refine wp_region_float (fun W => w.heap.size ≤ W.heap.size) (.cells #[.int .i64 0, .int .i64 0, .int .i64 0, .int .i64 0, .int .u32 0, .int .u32 0] 29) w.heap.size 13 _ [(1, true), (3, true), (4, true), (5, true), (6, true), (7, true), (0, false), (2, false), (8, false), (9, false), (10, true), (11, true), (12, true)] [(14, false), (15, true)] (by kernel_rfl) (by kernel_rfl) (by rfl) rfl (by kernel_rfl) (by kernel_rfl) (bw3.drew).size (fun _ h => Nat.le_trans h (by simp)) (fun _ h => h) (fun a w => by go_simp) ?_
  refine wpFl_qs 6 _ _ _ (by kernel_rfl) (by kernel_rfl) (by simp) ?_
  unfold clsS
  simp only [List.take_succ_cons, List.take_zero, List.drop_succ_cons, List.drop_zero, List.filterMap_cons, List.filterMap_nil, List.getElem?_toArray, List.getElem?_cons_zero, List.getElem?_cons_succ]
  repeat (first
    | go_big_quiet_skip
    | (go_big_quiet_want; go_big_quiet_op; go_big_quiet_on)
    | (refine id (?_ : wpQuiet _ _ _ _ (_ :: _) _); first | go_big_quiet_skip | (go_big_quiet_want; go_big_quiet_op; go_big_quiet_on)))
  refine wpQuiet_nil ?_
  refine wpFl_e (fun W => Own .u8 5 W w0.heap.size (.slice (some ⟨g, 0, none⟩) n c1) X ∧ Rd .u8 W w.heap.size A2 p M ∧ KB w cs W) _ (by rfl) (by kernel_rfl) ⟨own1.drew, (hrM.below bw3).drew, kb3.drew⟩ (fun W h => ⟨h.1.alloc _, h.2.1.alloc h.2.2.size _, h.2.2.alloc _⟩) ?_
  intro W0 hJ0 _ K hK
  go_simp
  refine hK _ _ (Nat.le_trans hJ0.2.2.size (by simp)) (KeepO.alloc _ _ _) ?_
  clear hK K
  have own51 := Own.new .u8 W0 5 w.heap.size hJ0.2.2.size [] (by simp) #[] rfl 0 rfl (by simp)
  refine wpFl_e (fun W => Own .u8 5 W w.heap.size (.slice (some ⟨W0.heap.size, 0, none⟩) 0 0) [] ∧ Own .u8 5 W w0.heap.size (.slice (some ⟨g, 0, none⟩) n c1) X ∧ Rd .u8 W w.heap.size A2 p M ∧ KB w cs W) _ (by rfl) (by kernel_rfl) ⟨own51, hJ0.1.alloc _, hJ0.2.1.alloc hJ0.2.2.size _, hJ0.2.2.alloc _⟩ (fun W h => ⟨h.1.alloc _, h.2.1.alloc _, h.2.2.1.alloc h.2.2.2.size _, h.2.2.2.alloc _⟩) ?_
  intro W2 hJ2 _ K hK
  refine wp_app W2 (.tmp 51) (.tmp 52) 25 (by rfl) .u8 w.heap.size 5 i0 (.int .u8 0) 1 Try.underlying25 hi hz0 hz1 hz2 rfl _ (by rfl) [] hJ2.1 _ _ _ _ (by rfl) X (hJ2.2.1.rd hX.out) (by simp; omega) (by decide) hJ2.2.2.2.size ?_
  intro v53 W3 own53 hg53 hb53
  go_simp
  refine hK _ _ (hJ2.2.2.2.grown hJ2.1 hg53).size (KeepO.grown hJ2.1 (by decide) hg53) ?_
  clear hK K
  rw [List.nil_append] at own53
  have bel3 : KB w cs W3 := hJ2.2.2.2.grown hJ2.1 hg53
  refine wpFl_e (fun W => Own .u8 5 W w.heap.size v53 X ∧ Rd .u8 W w.heap.size A2 p M ∧ KB w cs W) _ (by rfl) (by kernel_rfl) ⟨own53, hrM.below bel3.1, bel3⟩ (fun W h => ⟨h.1.alloc _, h.2.1.alloc h.2.2.size _, h.2.2.alloc _⟩) ?_
  intro W4 hJ4 _ K hK
  refine wp_app W4 (.tmp 53) (.tmp 58) 25 (by rfl) .u8 w.heap.size 5 i0 (.int .u8 0) 1 Try.underlying25 hi hz0 hz1 hz2 rfl _ (by rfl) X hJ4.1 _ _ _ _ (by rfl) M hJ4.2.1 (by rw [hX.out]; omega) (by decide) hJ4.2.2.size ?_
  intro v59 W5 own59 hg59 hb59
  go_simp
  refine hK _ _ (hJ4.2.2.grown hJ4.1 hg59).size (KeepO.grown hJ4.1 (by decide) hg59) ?_
  clear hK K
  have bel5 : KB w cs W5 := hJ4.2.2.grown hJ4.1 hg59
  have hl59 : (X ++ M).length = n + p := by rw [List.length_append, hX.out, hrM.len]
  obtain ⟨g9, c9, rfl, hc91, hc92, hg91, hg92⟩ := own59.formG hl59 (by omega)
  unfold maxLen at hc92
  refine wpFl_e (fun W => Own .u8 5 W w.heap.size (.slice (some ⟨g9, 0, none⟩) (n + p) c9) (X ++ M) ∧ KB w cs W) _ (by rfl) (by kernel_rfl) ⟨own59, bel5⟩ (fun W h => ⟨h.1.alloc _, h.2.alloc _⟩) ?_
  intro W6 hJ6 _ K hK
  go_simp
  refine (get_at (X ++ M) _ (n + p) c9 _ W6 (hJ6.1.rd hl59) (Nat.le_refl _) hc91 (by omega) (by omega) 20 n c d e f 0 hG.out.1 hG2.out).mono ?_
  rintro r W7 ⟨rfl, b7⟩
  refine hK _ _ (hJ6.2.bel b7).size (KeepO.below b7) ?_
  clear hK K
  have bel7 : KB w cs W7 := hJ6.2.bel b7
  refine wpFl_qs 3 _ _ _ (by kernel_rfl) (by kernel_rfl) (by simp) ?_
  unfold clsS
  simp only [List.take_succ_cons, List.take_zero, List.drop_succ_cons, List.drop_zero, List.filterMap_cons, List.filterMap_nil, List.getElem?_toArray, List.getElem?_cons_zero, List.getElem?_cons_succ]
  repeat (first
    | go_big_quiet_skip
    | (go_big_quiet_want; go_big_quiet_op; go_big_quiet_on)
    | (refine id (?_ : wpQuiet _ _ _ _ (_ :: _) _); first | go_big_quiet_skip | (go_big_quiet_want; go_big_quiet_op; go_big_quiet_on)))
  refine wpQuiet_nil ?_
  refine ⟨fun W => KB w cs W, bel7, fun W h => h.alloc _, fun W8 h8 hJ8 _ hB8 hb8 => ?_⟩
  have z8 : Blk W8 h8 29 #[.int .i64 0, .int .i64 0, .int .i64 0, .int .i64 0, .int .u32 0, .int .u32 0] := hb8
  have hne : h8 ≠ w.heap.size := z8.ne_ hJ8.2 (by decide)
  refine wpPl_e _ (by rfl) (by kernel_rfl) (fun K hK => ?_)
  refine wp_store_row 29 _ _ (by rfl) h8 #[.int .i64 20, .int .i64 n, .int .i64 c, .int .i64 d, .int .u32 e, .int .u32 f] (by rfl) (by rfl) 29 _ hb8 (by kernel_rfl) (by rfl) (by simp [Value.oneCell']) ?_
  have y8 : Blk (W8.setRow h8 #[.int .i64 20, .int .i64 n, .int .i64 c, .int .i64 d, .int .u32 e, .int .u32 f]) h8 29 #[.int .i64 20, .int .i64 n, .int .i64 c, .int .i64 d, .int .u32 e, .int .u32 f] := setRow_heap W8 h8 _ _ _ _ hb8
  have hJ9 : KB w cs (W8.setRow h8 #[.int .i64 20, .int .i64 n, .int .i64 c, .int .i64 d, .int .u32 e, .int .u32 f]) := ⟨⟨hJ8.1.os, hJ8.1.tape, hJ8.1.output, by have := hJ8.1.size; simpa [World.setRow] using this, fun k hk => (setRow_other _ _ _ _ (by omega)).trans (hJ8.1.block k hk)⟩, (setRow_other _ _ _ _ hne.symm).trans hJ8.2⟩
  generalize W8.setRow h8 #[.int .i64 20, .int .i64 n, .int .i64 c, .int .i64 d, .int .u32 e, .int .u32 f] = W9 at *
  go_simp
  refine hK _ _ hJ9.size ?_
  clear hK K
  refine wpPl_qs 1 _ _ _ (by kernel_rfl) (by kernel_rfl) (by simp) ?_
  unfold clsS
  simp only [List.take_succ_cons, List.take_zero, List.drop_succ_cons, List.drop_zero, List.filterMap_cons, List.filterMap_nil, List.getElem?_toArray, List.getElem?_cons_zero, List.getElem?_cons_succ]
  repeat (first
    | go_big_quiet_skip
    | (go_big_quiet_want; go_big_quiet_op; go_big_quiet_on)
    | (refine id (?_ : wpQuiet _ _ _ _ (_ :: _) _); first | go_big_quiet_skip | (go_big_quiet_want; go_big_quiet_op; go_big_quiet_on)))
  refine wpQuiet_nil ?_
  unfold wpPl
  refine NoPanic.normal ?_
  have x0 := y8.cell 0
  have x1 := y8.cell 1
  have x2 := y8.cell 2
  have x3 := y8.cell 3
  have x4 := y8.cell 4
  have x5 := y8.cell 5
  have kb9 : Blk W9 w.heap.size 24 #[.int .i64 a, .int .i64 b, .int .i64 c, .int .i64 d, .int .u32 e, .int .u32 f] := hcs ▸ hJ9.2
  have k2 := kb9.cell 2
  have k3 := kb9.cell 3
  have k4 := kb9.cell 4
  have k5 := kb9.cell 5
  go_wp2
  go_ret
  exact ⟨rfl, hJ9.1⟩
theorem HeadPuts_args (W : World) (args : Array Value) (hs : args.size = Try.f3.params.size) (hA : ∀ (j : Nat) t v, Try.f3.params[j]? = some t → args[j]? = some v → Arg Try.prog W t v) :
    Calls Try.prog 3 args W fun e W' => e = .returned (.bool true) ∧ Below W.heap.size W W' := by
  obtain ⟨v0, v1, v2, rfl⟩ := args3 hs
  obtain ⟨a, b, c, d, e, f, rfl, he, hf⟩ := arg_head (hA 0 24 v0 rfl rfl)
  obtain ⟨A, len, cap, l, rfl, h1, h2, h3⟩ := arg_ints Try.underlying25 Try.underlying5 (by kernel_rfl) (hA 1 25 v1 rfl rfl)
  obtain ⟨A2, len2, cap2, l2, rfl, h4, h5, h6⟩ := arg_ints Try.underlying25 Try.underlying5 (by kernel_rfl) (hA 2 25 v2 rfl rfl)
  unfold maxLen at h2 h5
  obtain ⟨m, hmn, hm1, hm2⟩ := minc 1490 (by omega) len
  by_cases hp : canPut c d m
  · have := hp.2.2
    exact HeadPuts_yes a b c d e f A A2 len cap len2 cap2 l l2 W h3 h6 h1 (by omega) h4 (by omega) m hmn hm1 (by omega) hp.1 hp.2.1 (inr_u32 he) (inr_u32 hf)
  · exact HeadPuts_no a b c d e f A A2 len cap len2 cap2 W h1 (by omega) m hmn hm1 hm2 hp

set_option maxRecDepth 100000 in
theorem HeadPuts_lifted (os : Os) (started : os.Started) (H : Type) (enc : TypeId × Value → H) :
    ReturnsInHanded {} Try.checked os 3 .any (Rows.headPutsSpec.pre6 enc Try.prog Try.f3 Rows.headPutsRow.domain false) (Rows.headPutsSpec.post enc Try.prog Try.f3 false true false false) :=
  law_lifted os started H enc (by kernel_rfl) Try.func3 rfl rfl (fun H ds h => by match ds, h with | [_, _, _], _ => exact ⟨rfl, rfl, rfl⟩) (by kernel_rfl)
    (ChangeSpec.witness6 (enc := enc) (C := Try.checked) false ⟨#[], #[.agg #[.int .i64 0, .int .i64 0, .int .i64 0, .int .i64 0, .int .u32 0, .int .u32 0], .slice none 0 0, .slice none 0 0], []⟩ 8 (by kernel_rfl) (by kernel_rfl) (by kernel_rfl) (by kernel_rfl))
    HeadPuts_args

/-- the statement -/
theorem headPuts_holds : Rows.HeadPutsSaid :=
  OpenClaim.holds_of_wide 3 Try.f3 rfl rfl rfl rfl rfl rfl rfl ⟨rfl, rfl, rfl, rfl, rfl⟩ rfl rfl rfl rfl rfl (by kernel_rfl) Try.func3 (by kernel_rfl)
    (of_decide_eq_true (by kernel_rfl)) (by unfold Func.isWrapper; first | (rw [if_pos (by decide +kernel)]; kernel_rfl) | (rw [if_neg (by decide +kernel)]; exact ⟨rfl, rfl⟩))
    (fun os started H enc _ => HeadPuts_lifted os started H enc)

end Go.Proofs.Ytcpndmcidbidbaa
