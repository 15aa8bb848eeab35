/- What is sent, by the document: Carried, Frame. -/
import Derived.Test.YtgfjdnbejmmckaaPart20
namespace Go.Proofs.Ytgfjdnbejmmckaa
set_option linter.unusedVariables false
set_option linter.unusedSimpArgs false
open Go.RowKit
/-- what is carried: bytes and protocol -/
def carL (k : Nat) (s d a b f : Int) (l : List Int) : List Int :=
  if k = 0 then udpL s d a b l else if k = 1 then tcpL s d a b f l else if k = 2 then echoL false a l else if k = 3 then echoL true a l else
  if k = 4 then faultL 3 (f.tmod 16) (putL 9 17 d s (udpL d s b a l)) else if k = 5 then faultL 11 0 ((putL 9 6 d s (tcpL d s b a 2 l)).take (28 + l.length / 2)) else faultL 3 1 (putL 9 1 d s (echoL false b l))
def carP (k : Nat) : Int := if k = 0 then 17 else if k = 1 then 6 else 1
def frameL (k : Nat) (s d a b f : Int) (l : List Int) : List Int := putL 64 (carP k) s d (carL k s d a b f l)
theorem udpL_len (s d a b : Int) (l : List Int) : (udpL s d a b l).length = 8 + (fewL l).length := udpB_len _ _ _ _
theorem tcpL_len (s d a b f : Int) (l : List Int) : (tcpL s d a b f l).length = 20 + (fewL l).length := tcpB_len _ _ _ _ _
theorem echoL_len (r : Bool) (a : Int) (l : List Int) : (echoL r a l).length = 8 + (fewL l).length := echoB_len _ _ _ _
theorem faultL_len (k c : Int) (l : List Int) : (faultL k c l).length = 8 + (fewL l).length := faultB_len _ _ _ _
theorem few_short {l : List Int} (h : l.length ≤ 1400) : fewL l = l := List.take_of_length_le h
theorem carL_len (k : Nat) (s d a b f : Int) (l : List Int) (hl : l.length ≤ 40) : 8 ≤ (carL k s d a b f l).length ∧ (carL k s d a b f l).length ≤ 110 := by
  have hf : fewL l = l := few_short (by omega)
  unfold carL
  split
  · rw [udpL_len, hf]; omega
  split
  · rw [tcpL_len, hf]; omega
  split
  · rw [echoL_len, hf]; omega
  split
  · rw [echoL_len, hf]; omega
  split
  · have : (putL 9 17 d s (udpL d s b a l)).length = 28 + l.length := by rw [put_len, udpL_len, hf]; omega
    rw [faultL_len, few_short (by omega), this]; omega
  split
  · have : ((putL 9 6 d s (tcpL d s b a 2 l)).take (28 + l.length / 2)).length = 28 + l.length / 2 := by rw [List.length_take, put_len, tcpL_len, hf]; omega
    rw [faultL_len, few_short (by omega), this]; omega
  · have : (putL 9 1 d s (echoL false b l)).length = 28 + l.length := by rw [put_len, echoL_len, hf]; omega
    rw [faultL_len, few_short (by omega), this]; omega
def CarRes (w : World) (p : Int) (l : List Int) (e : Ending) (w' : World) : Prop := ∃ v', e = .returned (.tuple #[v', .int .i64 p]) ∧ Own .u8 5 w' w.heap.size v' l ∧ Below w.heap.size w w'
theorem Own.mono_ {k : IntKind} {e : TypeId} {w : World} {base base' : Nat} {v : Value} {l : List Int} (h : Own k e w base v l) (hb : base' ≤ base) : Own k e w base' v l := by
  refine ⟨⟨h.row.1, ?_⟩, h.rng⟩
  rcases h.row.2 with h1 | ⟨g, cap, cur, h1, h2, h3⟩
  · exact .inl h1
  · exact .inr ⟨g, cap, cur, h1, Nat.le_trans hb h2, h3⟩
set_option maxRecDepth 100000 in
set_option maxHeartbeats 2000000 in
theorem Carried_any (wt s d a b f : Int) (l : List Int) (A : Option Addr) (len cap k : Nat) (w : World) (hr : Rd .u8 w w.heap.size A len l) (hlc : len ≤ cap) (hcm : cap ≤ 9223372036854775807) (hs : 0 ≤ s ∧ s ≤ 4294967295) (hd : 0 ≤ d ∧ d ≤ 4294967295) (ha : 0 ≤ a ∧ a ≤ 65535) (hb : 0 ≤ b ∧ b ≤ 65535)
    (hk : (IntKind.u64.wrap wt).tmod 7 = (k : Int)) (hk7 : k < 7) :
    Calls Try.prog 11 #[.agg #[.int .i64 wt, .int .u32 s, .int .u32 d, .int .u16 a, .int .u16 b, .int .i64 f, .slice A len cap]] w (CarRes w (carP k) (carL k s d a b f (l.take 40))) := by
  obtain ⟨m, hmn, hm1, hm2⟩ := minc 40 (by omega) len
  have hr2 := hr.take hm1
  have hLe : l.take m = l.take 40 := List.take_eq_take_iff.2 (by rw [hr.len]; omega)
  rw [hLe] at hr2
  obtain ⟨L, hL⟩ : ∃ L, L = l.take 40 := ⟨_, rfl⟩
  rw [← hL] at hr2 ⊢
  clear hL hr hLe
  have hv : Value.int .u64 ((IntKind.u64.wrap wt).tmod 7) = .int .u64 (k : Int) := by rw [hk]
  clear hk
  have hL40 : L.length = m := hr2.len
  have hrd := fun w' (hb : Below w.heap.size w w') => (hr2.below hb).more hb.size
  clear hr2
  replace hrd := Lib.hid hrd
  replace hL40 := Lib.hid hL40
  have hkc : k = 0 ∨ k = 1 ∨ k = 2 ∨ k = 3 ∨ k = 4 ∨ k = 5 ∨ k = 6 := by omega
  rcases hkc with rfl | rfl | rfl | rfl | rfl | rfl | rfl
  · show Calls _ _ _ _ (CarRes w 17 (udpL s d a b L))
    go_enter Try.func11, Try.ntmps11
    go_upto_region 1 with fail
    have bn := Blk.new w 26 #[.int .i64 wt, .int .u32 s, .int .u32 d, .int .u16 a, .int .u16 b, .int .i64 f, .slice A len cap]
    have bel := bel_alloc w (.cells #[.int .i64 wt, .int .u32 s, .int .u32 d, .int .u16 a, .int .u16 b, .int .i64 f, .slice A len cap] 26)
    generalize w.alloc (.cells #[.int .i64 wt, .int .u32 s, .int .u32 d, .int .u16 a, .int .u16 b, .int .i64 f, .slice A len cap] 26) = W at *
    have q0 := bn.cell 0
    have q1 := bn.cell 1
    have q2 := bn.cell 2
    have q3 := bn.cell 3
    have q4 := bn.cell 4
    have q5 := bn.cell 5
    have q6 := bn.cell 6
    go_wp2_with fail
    refine (rUdp_any s d a b L A m cap _ W (hrd.out _ bel) (Nat.le_refl _) (by omega) hcm hs hd ha hb).mono ?_
    rintro e w2 ⟨v2, rfl, own2, bel2⟩
    have own3 := own2.mono_ bel.size
    clear own2
    replace bel := bel_after bel bel2
    clear bel2 q0 q1 q2 q3 q4 q5 q6 bn
    go_wp2
    exact bodyPost_ret (v := .tuple #[v2, .int .i64 17]) (by simp [results, Try.results11, go_sem]) rfl ⟨_, rfl, own3, bel⟩
  · show Calls _ _ _ _ (CarRes w 6 (tcpL s d a b f L))
    go_enter Try.func11, Try.ntmps11
    go_upto_region 1 with fail
    have bn := Blk.new w 26 #[.int .i64 wt, .int .u32 s, .int .u32 d, .int .u16 a, .int .u16 b, .int .i64 f, .slice A len cap]
    have bel := bel_alloc w (.cells #[.int .i64 wt, .int .u32 s, .int .u32 d, .int .u16 a, .int .u16 b, .int .i64 f, .slice A len cap] 26)
    generalize w.alloc (.cells #[.int .i64 wt, .int .u32 s, .int .u32 d, .int .u16 a, .int .u16 b, .int .i64 f, .slice A len cap] 26) = W at *
    have q0 := bn.cell 0
    have q1 := bn.cell 1
    have q2 := bn.cell 2
    have q3 := bn.cell 3
    have q4 := bn.cell 4
    have q5 := bn.cell 5
    have q6 := bn.cell 6
    go_wp2_with fail
    refine (rTcp_any s d a b f L A m cap _ W (hrd.out _ bel) (Nat.le_refl _) (by omega) hcm hs hd ha hb).mono ?_
    rintro e w2 ⟨v2, rfl, own2, bel2⟩
    have own3 := own2.mono_ bel.size
    clear own2
    replace bel := bel_after bel bel2
    clear bel2 q0 q1 q2 q3 q4 q5 q6 bn
    go_wp2
    exact bodyPost_ret (v := .tuple #[v2, .int .i64 6]) (by simp [results, Try.results11, go_sem]) rfl ⟨_, rfl, own3, bel⟩
  · show Calls _ _ _ _ (CarRes w 1 (echoL false a L))
    go_enter Try.func11, Try.ntmps11
    go_upto_region 1 with fail
    have bn := Blk.new w 26 #[.int .i64 wt, .int .u32 s, .int .u32 d, .int .u16 a, .int .u16 b, .int .i64 f, .slice A len cap]
    have bel := bel_alloc w (.cells #[.int .i64 wt, .int .u32 s, .int .u32 d, .int .u16 a, .int .u16 b, .int .i64 f, .slice A len cap] 26)
    generalize w.alloc (.cells #[.int .i64 wt, .int .u32 s, .int .u32 d, .int .u16 a, .int .u16 b, .int .i64 f, .slice A len cap] 26) = W at *
    have q0 := bn.cell 0
    have q1 := bn.cell 1
    have q2 := bn.cell 2
    have q3 := bn.cell 3
    have q4 := bn.cell 4
    have q5 := bn.cell 5
    have q6 := bn.cell 6
    go_wp2_with fail
    refine (rEcho_any false a L A m cap _ W (hrd.out _ bel) (Nat.le_refl _) (by omega) hcm ha).mono ?_
    rintro e w2 ⟨v2, rfl, own2, bel2⟩
    have own3 := own2.mono_ bel.size
    clear own2
    replace bel := bel_after bel bel2
    clear bel2 q0 q1 q2 q3 q4 q5 q6 bn
    go_wp2
    exact bodyPost_ret (v := .tuple #[v2, .int .i64 1]) (by simp [results, Try.results11, go_sem]) rfl ⟨_, rfl, own3, bel⟩
  · show Calls _ _ _ _ (CarRes w 1 (echoL true a L))
    go_enter Try.func11, Try.ntmps11
    go_upto_region 1 with fail
    have bn := Blk.new w 26 #[.int .i64 wt, .int .u32 s, .int .u32 d, .int .u16 a, .int .u16 b, .int .i64 f, .slice A len cap]
    have bel := bel_alloc w (.cells #[.int .i64 wt, .int .u32 s, .int .u32 d, .int .u16 a, .int .u16 b, .int .i64 f, .slice A len cap] 26)
    generalize w.alloc (.cells #[.int .i64 wt, .int .u32 s, .int .u32 d, .int .u16 a, .int .u16 b, .int .i64 f, .slice A len cap] 26) = W at *
    have q0 := bn.cell 0
    have q1 := bn.cell 1
    have q2 := bn.cell 2
    have q3 := bn.cell 3
    have q4 := bn.cell 4
    have q5 := bn.cell 5
    have q6 := bn.cell 6
    go_wp2_with fail
    refine (rEcho_any true a L A m cap _ W (hrd.out _ bel) (Nat.le_refl _) (by omega) hcm ha).mono ?_
    rintro e w2 ⟨v2, rfl, own2, bel2⟩
    have own3 := own2.mono_ bel.size
    clear own2
    replace bel := bel_after bel bel2
    clear bel2 q0 q1 q2 q3 q4 q5 q6 bn
    go_wp2
    exact bodyPost_ret (v := .tuple #[v2, .int .i64 1]) (by simp [results, Try.results11, go_sem]) rfl ⟨_, rfl, own3, bel⟩
  · show Calls _ _ _ _ (CarRes w 1 (faultL 3 (f.tmod 16) (putL 9 17 d s (udpL d s b a L))))
    have hl1 : (udpL d s b a L).length = 8 + m := by rw [udpL_len, few_short (by rw [hL40.out]; omega), hL40.out]
    have hl2 : (putL 9 17 d s (udpL d s b a L)).length = 28 + m := by rw [put_len, hl1]; omega
    replace hl1 := Lib.hid hl1
    replace hl2 := Lib.hid hl2
    go_enter Try.func11, Try.ntmps11
    go_upto_region 1 with fail
    have bn := Blk.new w 26 #[.int .i64 wt, .int .u32 s, .int .u32 d, .int .u16 a, .int .u16 b, .int .i64 f, .slice A len cap]
    have bel := bel_alloc w (.cells #[.int .i64 wt, .int .u32 s, .int .u32 d, .int .u16 a, .int .u16 b, .int .i64 f, .slice A len cap] 26)
    generalize w.alloc (.cells #[.int .i64 wt, .int .u32 s, .int .u32 d, .int .u16 a, .int .u16 b, .int .i64 f, .slice A len cap] 26) = W at *
    have q0 := bn.cell 0
    have q1 := bn.cell 1
    have q2 := bn.cell 2
    have q3 := bn.cell 3
    have q4 := bn.cell 4
    have q5 := bn.cell 5
    have q6 := bn.cell 6
    go_upto_region 12 with fail
    clear q0 q1 q2 q3 q4 q5 q6
    have z1 : ∀ t : Tw (fun w' => Blk w' w.heap.size 26 #[.int .i64 wt, .int .u32 s, .int .u32 d, .int .u16 a, .int .u16 b, .int .i64 f, .slice A len cap]), t.w.cell? ⟨w.heap.size, 1, none⟩ = some (.int .u32 s) := fun t => t.h.cell 1
    have z2 : ∀ t : Tw (fun w' => Blk w' w.heap.size 26 #[.int .i64 wt, .int .u32 s, .int .u32 d, .int .u16 a, .int .u16 b, .int .i64 f, .slice A len cap]), t.w.cell? ⟨w.heap.size, 2, none⟩ = some (.int .u32 d) := fun t => t.h.cell 2
    have z3 : ∀ t : Tw (fun w' => Blk w' w.heap.size 26 #[.int .i64 wt, .int .u32 s, .int .u32 d, .int .u16 a, .int .u16 b, .int .i64 f, .slice A len cap]), t.w.cell? ⟨w.heap.size, 3, none⟩ = some (.int .u16 a) := fun t => t.h.cell 3
    have z4 : ∀ t : Tw (fun w' => Blk w' w.heap.size 26 #[.int .i64 wt, .int .u32 s, .int .u32 d, .int .u16 a, .int .u16 b, .int .i64 f, .slice A len cap]), t.w.cell? ⟨w.heap.size, 4, none⟩ = some (.int .u16 b) := fun t => t.h.cell 4
    have : Nonempty (Tw (fun w' => Blk w' w.heap.size 26 #[.int .i64 wt, .int .u32 s, .int .u32 d, .int .u16 a, .int .u16 b, .int .i64 f, .slice A len cap])) := ⟨⟨_, bn⟩⟩
    refine wp_region_plan (fun w' => Blk w' w.heap.size 26 #[.int .i64 wt, .int .u32 s, .int .u32 d, .int .u16 a, .int .u16 b, .int .i64 f, .slice A len cap]) [(0, true), (1, true), (2, true), (3, true), (4, true), (5, true), (6, true), (7, true), (8, true), (9, true), (10, true), (11, true), (12, true), (13, true), (14, false), (15, false), (16, true), (17, true), (18, true), (19, true), (20, true)] (by kernel_rfl) (by kernel_rfl) (by kernel_rfl) (by kernel_rfl) bn.drew ?_
    replace bn := bn.drew
    replace bel := bel.drew
    generalize W.drew = W1 at *
    refine wpPl_qs 14 _ _ _ (by kernel_rfl) (by kernel_rfl) (by simp) ?_
    unfold clsS
    simp only [List.take_succ_cons, List.take_zero, List.drop_succ_cons, List.drop_zero, List.filterMap_cons, List.filterMap_nil, List.getElem?_toArray, List.getElem?_cons_zero, List.getElem?_cons_succ]
    repeat (first
      | go_big_quiet_skip
      | (go_big_quiet_want; go_big_quiet_op; go_big_quiet_on)
      | (refine id (?_ : wpQuiet _ _ _ _ (_ :: _) _); first | go_big_quiet_skip | (go_big_quiet_want; go_big_quiet_op; go_big_quiet_on)))
    refine wpQuiet_nil ?_
    refine wpPl_e _ (by rfl) (by kernel_rfl) (fun K hK => ?_)
    go_simp
    refine (rUdp_any d s b a L A m cap _ W1 (hrd.out _ bel) (Nat.le_refl _) (by omega) hcm hd hs hb ha).mono ?_
    rintro e w2 ⟨v2, rfl, own2, bel2⟩
    replace own2 := own2.mono_ bel.size
    replace bn := bn.bel bel2
    replace bel := bel_after bel bel2
    clear bel2
    refine hK _ _ bn ?_
    clear hK K
    obtain ⟨A2, c2, rfl, hc1, hc2, rd2⟩ := own2.form hl1.out
    unfold maxLen at hc2
    clear own2
    refine wpPl_e _ (by rfl) (by kernel_rfl) (fun K hK => ?_)
    go_simp
    refine (rPut_any 0 0 9 17 d s _ A2 _ c2 _ w2 rd2 (Nat.le_refl _) (by omega) (by omega) hd hs (by omega)).mono ?_
    rintro e w3 ⟨v3, rfl, own3, bel3⟩
    replace own3 := own3.mono_ bel.size
    replace bn := bn.bel bel3
    replace bel := bel_after bel bel3
    clear bel3 rd2
    refine hK _ _ bn ?_
    clear hK K
    refine wpPl_qs 5 _ _ _ (by kernel_rfl) (by kernel_rfl) (by simp) ?_
    unfold clsS
    simp only [List.take_succ_cons, List.take_zero, List.drop_succ_cons, List.drop_zero, List.filterMap_cons, List.filterMap_nil, List.getElem?_toArray, List.getElem?_cons_zero, List.getElem?_cons_succ]
    repeat (first
      | go_big_quiet_skip
      | (go_big_quiet_want; go_big_quiet_op; go_big_quiet_on)
      | (refine id (?_ : wpQuiet _ _ _ _ (_ :: _) _); first | go_big_quiet_skip | (go_big_quiet_want; go_big_quiet_op; go_big_quiet_on)))
    refine wpQuiet_nil ?_
    unfold wpPl
    refine NoPanic.normal ?_
    clear z1 z2 z3 z4 this
    have q5 := bn.cell 5
    obtain ⟨A3, c3, rfl, hc3, hc4, rd3⟩ := own3.form hl2.out
    unfold maxLen at hc4
    clear own3
    go_wp2_with fail
    refine (rFault_any 3 (f.tmod 16) _ A3 _ c3 _ w3 rd3 (Nat.le_refl _) hc3 (by omega)).mono ?_
    rintro e w2 ⟨v2, rfl, own2, bel2⟩
    have own3 := own2.mono_ bel.size
    clear own2
    replace bel := bel_after bel bel2
    clear bel2 q5 bn
    go_wp2
    exact bodyPost_ret (v := .tuple #[v2, .int .i64 1]) (by simp [results, Try.results11, go_sem]) rfl ⟨_, rfl, own3, bel⟩
  · show Calls _ _ _ _ (CarRes w 1 (faultL 11 0 ((putL 9 6 d s (tcpL d s b a 2 L)).take (28 + L.length / 2))))
    have hl1 : (tcpL d s b a 2 L).length = 20 + m := by rw [tcpL_len, few_short (by rw [hL40.out]; omega), hL40.out]
    have hl2 : (putL 9 6 d s (tcpL d s b a 2 L)).length = 40 + m := by rw [put_len, hl1]; omega
    rw [hL40.out]
    replace hl1 := Lib.hid hl1
    replace hl2 := Lib.hid hl2
    obtain ⟨n, hn⟩ : ∃ n : Nat, n = 28 + m / 2 := ⟨_, rfl⟩
    rw [← hn]
    have hn1 : n ≤ 40 + m := by omega
    have hn2 : 28 + (m : Int) / 2 = (n : Int) := by omega
    have hn4 : (n : Int) ≤ 80 := by omega
    clear hn
    go_enter Try.func11, Try.ntmps11
    go_upto_region 1 with fail
    have bn := Blk.new w 26 #[.int .i64 wt, .int .u32 s, .int .u32 d, .int .u16 a, .int .u16 b, .int .i64 f, .slice A len cap]
    have bel := bel_alloc w (.cells #[.int .i64 wt, .int .u32 s, .int .u32 d, .int .u16 a, .int .u16 b, .int .i64 f, .slice A len cap] 26)
    generalize w.alloc (.cells #[.int .i64 wt, .int .u32 s, .int .u32 d, .int .u16 a, .int .u16 b, .int .i64 f, .slice A len cap] 26) = W at *
    have q0 := bn.cell 0
    have q1 := bn.cell 1
    have q2 := bn.cell 2
    have q3 := bn.cell 3
    have q4 := bn.cell 4
    have q5 := bn.cell 5
    have q6 := bn.cell 6
    go_upto_region 15 with fail
    clear q0 q1 q2 q3 q4 q5 q6
    have z1 : ∀ t : Tw (fun w' => Blk w' w.heap.size 26 #[.int .i64 wt, .int .u32 s, .int .u32 d, .int .u16 a, .int .u16 b, .int .i64 f, .slice A len cap]), t.w.cell? ⟨w.heap.size, 1, none⟩ = some (.int .u32 s) := fun t => t.h.cell 1
    have z2 : ∀ t : Tw (fun w' => Blk w' w.heap.size 26 #[.int .i64 wt, .int .u32 s, .int .u32 d, .int .u16 a, .int .u16 b, .int .i64 f, .slice A len cap]), t.w.cell? ⟨w.heap.size, 2, none⟩ = some (.int .u32 d) := fun t => t.h.cell 2
    have z3 : ∀ t : Tw (fun w' => Blk w' w.heap.size 26 #[.int .i64 wt, .int .u32 s, .int .u32 d, .int .u16 a, .int .u16 b, .int .i64 f, .slice A len cap]), t.w.cell? ⟨w.heap.size, 3, none⟩ = some (.int .u16 a) := fun t => t.h.cell 3
    have z4 : ∀ t : Tw (fun w' => Blk w' w.heap.size 26 #[.int .i64 wt, .int .u32 s, .int .u32 d, .int .u16 a, .int .u16 b, .int .i64 f, .slice A len cap]), t.w.cell? ⟨w.heap.size, 4, none⟩ = some (.int .u16 b) := fun t => t.h.cell 4
    have : Nonempty (Tw (fun w' => Blk w' w.heap.size 26 #[.int .i64 wt, .int .u32 s, .int .u32 d, .int .u16 a, .int .u16 b, .int .i64 f, .slice A len cap])) := ⟨⟨_, bn⟩⟩
    refine wp_region_plan (fun w' => Blk w' w.heap.size 26 #[.int .i64 wt, .int .u32 s, .int .u32 d, .int .u16 a, .int .u16 b, .int .i64 f, .slice A len cap]) [(0, true), (1, true), (2, true), (3, true), (4, true), (5, true), (6, true), (7, true), (8, true), (9, true), (10, true), (11, true), (12, true), (13, true), (14, false), (15, false), (16, true), (17, true), (18, true), (19, true), (20, true)] (by kernel_rfl) (by kernel_rfl) (by kernel_rfl) (by kernel_rfl) bn.drew ?_
    replace bn := bn.drew
    replace bel := bel.drew
    generalize W.drew = W1 at *
    refine wpPl_qs 14 _ _ _ (by kernel_rfl) (by kernel_rfl) (by simp) ?_
    unfold clsS
    simp only [List.take_succ_cons, List.take_zero, List.drop_succ_cons, List.drop_zero, List.filterMap_cons, List.filterMap_nil, List.getElem?_toArray, List.getElem?_cons_zero, List.getElem?_cons_succ]
    repeat (first
      | go_big_quiet_skip
      | (go_big_quiet_want; go_big_quiet_op; go_big_quiet_on)
      | (refine id (?_ : wpQuiet _ _ _ _ (_ :: _) _); first | go_big_quiet_skip | (go_big_quiet_want; go_big_quiet_op; go_big_quiet_on)))
    refine wpQuiet_nil ?_
    refine wpPl_e _ (by rfl) (by kernel_rfl) (fun K hK => ?_)
    go_simp
    refine (rTcp_any d s b a 2 L A m cap _ W1 (hrd.out _ bel) (Nat.le_refl _) (by omega) hcm hd hs hb ha).mono ?_
    rintro e w2 ⟨v2, rfl, own2, bel2⟩
    replace own2 := own2.mono_ bel.size
    replace bn := bn.bel bel2
    replace bel := bel_after bel bel2
    clear bel2
    refine hK _ _ bn ?_
    clear hK K
    obtain ⟨A2, c2, rfl, hc1, hc2, rd2⟩ := own2.form hl1.out
    unfold maxLen at hc2
    clear own2
    refine wpPl_e _ (by rfl) (by kernel_rfl) (fun K hK => ?_)
    go_simp
    refine (rPut_any 0 0 9 6 d s _ A2 _ c2 _ w2 rd2 (Nat.le_refl _) (by omega) (by omega) hd hs (by omega)).mono ?_
    rintro e w3 ⟨v3, rfl, own3, bel3⟩
    replace own3 := own3.mono_ bel.size
    replace bn := bn.bel bel3
    replace bel := bel_after bel bel3
    clear bel3 rd2
    refine hK _ _ bn ?_
    clear hK K
    refine wpPl_qs 5 _ _ _ (by kernel_rfl) (by kernel_rfl) (by simp) ?_
    unfold clsS
    simp only [List.take_succ_cons, List.take_zero, List.drop_succ_cons, List.drop_zero, List.filterMap_cons, List.filterMap_nil, List.getElem?_toArray, List.getElem?_cons_zero, List.getElem?_cons_succ]
    repeat (first
      | go_big_quiet_skip
      | (go_big_quiet_want; go_big_quiet_op; go_big_quiet_on)
      | (refine id (?_ : wpQuiet _ _ _ _ (_ :: _) _); first | go_big_quiet_skip | (go_big_quiet_want; go_big_quiet_op; go_big_quiet_on)))
    refine wpQuiet_nil ?_
    unfold wpPl
    refine NoPanic.normal ?_
    clear z1 z2 z3 z4 this
    have q5 := bn.cell 5
    obtain ⟨A3, c3, rfl, hc3, hc4, rd3⟩ := own3.form hl2.out
    unfold maxLen at hc4
    clear own3
    go_wp2_with fail
    refine (rFault_any 11 0 _ A3 _ c3 _ w3 (rd3.take hn1) (Nat.le_refl _) (by omega) (by omega)).mono ?_
    rintro e w2 ⟨v2, rfl, own2, bel2⟩
    have own3 := own2.mono_ bel.size
    clear own2
    replace bel := bel_after bel bel2
    clear bel2 q5 bn
    go_wp2
    exact bodyPost_ret (v := .tuple #[v2, .int .i64 1]) (by simp [results, Try.results11, go_sem]) rfl ⟨_, rfl, own3, bel⟩
  · show Calls _ _ _ _ (CarRes w 1 (faultL 3 1 (putL 9 1 d s (echoL false b L))))
    have hl1 : (echoL false b L).length = 8 + m := by rw [echoL_len, few_short (by rw [hL40.out]; omega), hL40.out]
    have hl2 : (putL 9 1 d s (echoL false b L)).length = 28 + m := by rw [put_len, hl1]; omega
    replace hl1 := Lib.hid hl1
    replace hl2 := Lib.hid hl2
    go_enter Try.func11, Try.ntmps11
    go_upto_region 1 with fail
    have bn := Blk.new w 26 #[.int .i64 wt, .int .u32 s, .int .u32 d, .int .u16 a, .int .u16 b, .int .i64 f, .slice A len cap]
    have bel := bel_alloc w (.cells #[.int .i64 wt, .int .u32 s, .int .u32 d, .int .u16 a, .int .u16 b, .int .i64 f, .slice A len cap] 26)
    generalize w.alloc (.cells #[.int .i64 wt, .int .u32 s, .int .u32 d, .int .u16 a, .int .u16 b, .int .i64 f, .slice A len cap] 26) = W at *
    have q0 := bn.cell 0
    have q1 := bn.cell 1
    have q2 := bn.cell 2
    have q3 := bn.cell 3
    have q4 := bn.cell 4
    have q5 := bn.cell 5
    have q6 := bn.cell 6
    go_upto_region 17 with fail
    clear q0 q1 q2 q3 q4 q5 q6
    have z1 : ∀ t : Tw (fun w' => Blk w' w.heap.size 26 #[.int .i64 wt, .int .u32 s, .int .u32 d, .int .u16 a, .int .u16 b, .int .i64 f, .slice A len cap]), t.w.cell? ⟨w.heap.size, 1, none⟩ = some (.int .u32 s) := fun t => t.h.cell 1
    have z2 : ∀ t : Tw (fun w' => Blk w' w.heap.size 26 #[.int .i64 wt, .int .u32 s, .int .u32 d, .int .u16 a, .int .u16 b, .int .i64 f, .slice A len cap]), t.w.cell? ⟨w.heap.size, 2, none⟩ = some (.int .u32 d) := fun t => t.h.cell 2
    have z3 : ∀ t : Tw (fun w' => Blk w' w.heap.size 26 #[.int .i64 wt, .int .u32 s, .int .u32 d, .int .u16 a, .int .u16 b, .int .i64 f, .slice A len cap]), t.w.cell? ⟨w.heap.size, 3, none⟩ = some (.int .u16 a) := fun t => t.h.cell 3
    have z4 : ∀ t : Tw (fun w' => Blk w' w.heap.size 26 #[.int .i64 wt, .int .u32 s, .int .u32 d, .int .u16 a, .int .u16 b, .int .i64 f, .slice A len cap]), t.w.cell? ⟨w.heap.size, 4, none⟩ = some (.int .u16 b) := fun t => t.h.cell 4
    have : Nonempty (Tw (fun w' => Blk w' w.heap.size 26 #[.int .i64 wt, .int .u32 s, .int .u32 d, .int .u16 a, .int .u16 b, .int .i64 f, .slice A len cap])) := ⟨⟨_, bn⟩⟩
    refine wp_region_plan (fun w' => Blk w' w.heap.size 26 #[.int .i64 wt, .int .u32 s, .int .u32 d, .int .u16 a, .int .u16 b, .int .i64 f, .slice A len cap]) [(0, true), (1, true), (2, true), (3, true), (4, true), (5, true), (6, true), (7, true), (8, false), (9, false), (10, true), (11, true), (12, true), (13, true), (14, true)] (by kernel_rfl) (by kernel_rfl) (by kernel_rfl) (by kernel_rfl) bn.drew ?_
    replace bn := bn.drew
    replace bel := bel.drew
    generalize W.drew = W1 at *
    refine wpPl_qs 8 _ _ _ (by kernel_rfl) (by kernel_rfl) (by simp) ?_
    unfold clsS
    simp only [List.take_succ_cons, List.take_zero, List.drop_succ_cons, List.drop_zero, List.filterMap_cons, List.filterMap_nil, List.getElem?_toArray, List.getElem?_cons_zero, List.getElem?_cons_succ]
    repeat (first
      | go_big_quiet_skip
      | (go_big_quiet_want; go_big_quiet_op; go_big_quiet_on)
      | (refine id (?_ : wpQuiet _ _ _ _ (_ :: _) _); first | go_big_quiet_skip | (go_big_quiet_want; go_big_quiet_op; go_big_quiet_on)))
    refine wpQuiet_nil ?_
    refine wpPl_e _ (by rfl) (by kernel_rfl) (fun K hK => ?_)
    go_simp
    refine (rEcho_any false b L A m cap _ W1 (hrd.out _ bel) (Nat.le_refl _) (by omega) hcm hb).mono ?_
    rintro e w2 ⟨v2, rfl, own2, bel2⟩
    replace own2 := own2.mono_ bel.size
    replace bn := bn.bel bel2
    replace bel := bel_after bel bel2
    clear bel2
    refine hK _ _ bn ?_
    clear hK K
    obtain ⟨A2, c2, rfl, hc1, hc2, rd2⟩ := own2.form hl1.out
    unfold maxLen at hc2
    clear own2
    refine wpPl_e _ (by rfl) (by kernel_rfl) (fun K hK => ?_)
    go_simp
    refine (rPut_any 0 0 9 1 d s _ A2 _ c2 _ w2 rd2 (Nat.le_refl _) (by omega) (by omega) hd hs (by omega)).mono ?_
    rintro e w3 ⟨v3, rfl, own3, bel3⟩
    replace own3 := own3.mono_ bel.size
    replace bn := bn.bel bel3
    replace bel := bel_after bel bel3
    clear bel3 rd2
    refine hK _ _ bn ?_
    clear hK K
    refine wpPl_qs 5 _ _ _ (by kernel_rfl) (by kernel_rfl) (by simp) ?_
    unfold clsS
    simp only [List.take_succ_cons, List.take_zero, List.drop_succ_cons, List.drop_zero, List.filterMap_cons, List.filterMap_nil, List.getElem?_toArray, List.getElem?_cons_zero, List.getElem?_cons_succ]
    repeat (first
      | go_big_quiet_skip
      | (go_big_quiet_want; go_big_quiet_op; go_big_quiet_on)
      | (refine id (?_ : wpQuiet _ _ _ _ (_ :: _) _); first | go_big_quiet_skip | (go_big_quiet_want; go_big_quiet_op; go_big_quiet_on)))
    refine wpQuiet_nil ?_
    unfold wpPl
    refine NoPanic.normal ?_
    clear z1 z2 z3 z4 this
    have q5 := bn.cell 5
    obtain ⟨A3, c3, rfl, hc3, hc4, rd3⟩ := own3.form hl2.out
    unfold maxLen at hc4
    clear own3
    go_wp2_with fail
    refine (rFault_any 3 1 _ A3 _ c3 _ w3 rd3 (Nat.le_refl _) hc3 (by omega)).mono ?_
    rintro e w2 ⟨v2, rfl, own2, bel2⟩
    have own3 := own2.mono_ bel.size
    clear own2
    replace bel := bel_after bel bel2
    clear bel2 q5 bn
    go_wp2
    exact bodyPost_ret (v := .tuple #[v2, .int .i64 1]) (by simp [results, Try.results11, go_sem]) rfl ⟨_, rfl, own3, bel⟩
end Go.Proofs.Ytgfjdnbejmmckaa
