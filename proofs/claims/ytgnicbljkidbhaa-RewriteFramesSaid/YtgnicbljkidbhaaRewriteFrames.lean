/- Every input of RewriteFrames answers true, and reads behind the call as it read before. No condition. -/
import Derived.Test.YtgnicbljkidbhaaRewAll4
import Derived.Test.YtgnicbljkidbhaaRewAll3
import Derived.Test.YtgnicbljkidbhaaPart24
namespace Go.Proofs.Ytgnicbljkidbhaa
set_option linter.unusedVariables false
set_option linter.unusedSimpArgs false
open Go.RowKit
theorem own_b8 {e : TypeId} {w : World} {base : Nat} {v : Value} {l : List Int} (h : Own .u8 e w base v l) : Bytes8 l := fun x hx => inr_u8 (h.rng x hx)
set_option maxRecDepth 100000 in
set_option maxHeartbeats 4000000 in
theorem RewriteFrames_walk (wt s d a b f : Int) (l : List Int) (A : Option Addr) (len cap : Nat) (addr port : Int) (w : World) (hr : Rd .u8 w w.heap.size A len l) (hlc : len ≤ cap) (hcm : cap ≤ maxLen) (hs : 0 ≤ s ∧ s ≤ 4294967295) (hd : 0 ≤ d ∧ d ≤ 4294967295) (ha : 0 ≤ a ∧ a ≤ 65535) (hb : 0 ≤ b ∧ b ≤ 65535)
    (had : 0 ≤ addr ∧ addr ≤ 4294967295) (hpo : 0 ≤ port ∧ port ≤ 65535) :
    Calls Try.prog 4 #[.agg #[.int .i64 wt, .int .u32 s, .int .u32 d, .int .u16 a, .int .u16 b, .int .i64 f, .slice A len cap], .int .u32 addr, .int .u16 port] w fun e w' => e = .returned (.bool true) ∧ Below w.heap.size w w' := by
  unfold maxLen at hcm
  obtain ⟨k, hk, hk7⟩ := modn wt 7 (by omega)
  have hfr := fun w' (h : Below w.heap.size w w') => Frame_any wt s d a b f l A len cap k w' ((hr.below h).more h.size) hlc hcm hs hd ha hb hk (by omega)
  have hl8 : Bytes8 (l.take 40) := fun x hx => inr_u8 (hr.rng x (List.mem_of_mem_take hx))
  have hl40 : (l.take 40).length ≤ 40 := by rw [List.length_take]; omega
  obtain ⟨f1, f2, f3⟩ := frame_rw (k := k) (f := f) hs hd ha hb hl8 hl40
  obtain ⟨f5, f6⟩ := frame_bd (k := k) (s := s) (d := d) (a := a) (b := b) (f := f) hl40
  generalize frameL k s d a b f (l.take 40) = X at *
  have fl : (hdOf X).len = X.length := by rw [f3]
  clear f3 hk hk7 hl8 hl40 hr
  obtain ⟨n, hn⟩ : ∃ n, X.length = n := ⟨_, rfl⟩
  rw [hn] at f5 f6
  have hlong : Bytes8 X → ∀ out, rwE (X ++ [1, 2, 3]) = 0 ∧ rwL (X ++ [1, 2, 3]) out addr port = rwL X out addr port := fun h8 out => rw_long h8 f1 fl out addr port
  obtain ⟨i0, hi, hz0, hz1, hz2⟩ := info_parts info_u8_
  replace hfr := Lib.hid hfr
  replace hn := Lib.hid hn
  replace f1 := Lib.hid f1
  replace f2 := Lib.hid f2
  replace fl := Lib.hid fl
  replace hlong := Lib.hid hlong
  go_enter Try.func4, Try.ntmps4
  go_upto_region 1 with fail
  have bn := Blk.new w 26 #[.int .i64 wt, .int .u32 s, .int .u32 d, .int .u16 a, .int .u16 b, .int .i64 f, .slice A len cap]
  have bel := bel_alloc w (.cells #[.int .i64 wt, .int .u32 s, .int .u32 d, .int .u16 a, .int .u16 b, .int .i64 f, .slice A len cap] 26)
  generalize w.alloc (.cells #[.int .i64 wt, .int .u32 s, .int .u32 d, .int .u16 a, .int .u16 b, .int .i64 f, .slice A len cap] 26) = W at *
  go_wp2_with (refine wpList_ldRow rfl rfl rfl bn Try.underlying26 sn_size ?_)
  refine (hfr.out _ bel).mono ?_
  rintro e w1 ⟨v1, rfl, own1, bel1⟩
  replace own1 := own1.lower bel.size
  replace bel := bel_after bel bel1
  clear bel1 bn hfr
  obtain ⟨g, c1, rfl, hc1, hc2, hg1, hg2⟩ := own1.formG hn.out (by omega)
  unfold maxLen at hc2
  have rd1 := own1.rd hn.out
  have h8 := own_b8 own1
  have hcv := conv_rd (P := Try.prog) (cap := c1) rd1 24 5 9 Try.underlying24 Try.underlying5 Try.underlying9
  have own0 := Own.new .u8 w1 5 w1.heap.size (Nat.le_refl _) [] (by simp) #[] rfl 0 rfl (by simp)
  have bel0 := bel_alloc w1 (.cells #[] 5)
  have rd0 := rd1.alloc (Nat.le_refl _) (.cells #[] 5)
  go_upto_region 4 with (first
    | (at_builtin; refine wpList_app _ rfl (.tmp 18) (.tmp 19) 24 rfl .u8 w1.heap.size 5 i0 (.int .u8 0) 1 Try.underlying24 hi hz0 hz1 hz2 rfl (.slice (some ⟨w1.heap.size, 0, none⟩) 0 0) rfl [] own0 w1.heap.size _ n c1 rfl X rd0 (by simp; omega) (by decide) (by simp) ?_; intro v2 w2 own2 hg2' hv2; rw [List.nil_append] at own2; have bel2 : Below w1.heap.size w1 w2 := bel0.grown hg2' (by simp) (fun k h => by simp [Value.ownBlock] at h; omega); have r123 := Rd.new .u8 w2 5 [1, 2, 3] (by intro y hy; simp at hy; rcases hy with rfl | rfl | rfl <;> exact u8_inr (by omega)) #[.int .u8 1, .int .u8 2, .int .u8 3] rfl 3 rfl; clear hg2' hv2)
    | (at_builtin; refine wpList_app _ rfl (.tmp 20) (.tmp 21) 24 rfl .u8 w1.heap.size 5 i0 (.int .u8 0) 1 Try.underlying24 hi hz0 hz1 hz2 rfl v2 rfl X (own2.alloc _) (w2.heap.size + 1) _ 3 3 rfl [1, 2, 3] r123 (by rw [hn.out]; simp; omega) (by decide) (by have := bel2.size; simp; omega) ?_; intro v3 w3 own3 hg3 hv3; have bel3 : Below w1.heap.size w1 w3 := (bel2.alloc bel2.size _).grown hg3 (by have := bel2.size; simp; omega) (fun k h => (own2.lt k h).1)))
  replace own1 := own1.below bel3
  replace bel := bel_after bel bel3
  have hln : (X ++ [1, 2, 3]).length = n + 3 := by rw [List.length_append, hn.out]; rfl
  obtain ⟨A3, c3, rfl, hd1, hd2, rd3⟩ := own3.form hln
  unfold maxLen at hd2
  clear bel3 bel2 own2 own0 bel0 rd0 r123 hg3 hv3 hcv rd1
  have ho := RwOut_any (X ++ [1, 2, 3]) A3 (n + 3) c3 _ addr port w3 rd3 (Nat.le_refl _) hd1 (by omega) (by omega) had hpo
  rw [(hlong.out h8 true).1, (hlong.out h8 true).2] at ho
  have a1 := rw_again h8 f1.out true had hpo
  have a2 := rw_again h8 f1.out false had hpo
  have hl1 : (rwL X true addr port).length = n := by have := a1.len; rw [fl.out, hn.out] at this; omega
  have hl2 : (rwL X false addr port).length = n := by have := a2.len; rw [fl.out, hn.out] at this; omega
  have hi2 := fun W (ho : Own .u8 5 W w1.heap.size (.slice A3 (n + 3) c3) (X ++ [1, 2, 3])) => RwIn_any (X ++ [1, 2, 3]) A3 (n + 3) c3 W.heap.size addr port W (by obtain ⟨A4, c4, e4, _, _, r4⟩ := ho.form hln; simp only [Value.slice.injEq] at e4; rw [e4.1]; exact r4) (Nat.le_refl _) hd1 (by omega) (by omega) had hpo
  rw [(hlong.out h8 false).1, (hlong.out h8 false).2] at hi2
  generalize hp : (getR (hdOf X) X).2 = p at *
  have hR : getR (hdOf X) X = (0, p) := by rw [← hp]; exact (rw_ok f1.out).2
  clear hp
  generalize rwL X true addr port = Y1 at *
  generalize rwL X false addr port = Y2 at *
  have s1 := fun (g2 c2 : Nat) W (h1 : Own .u8 5 W w.heap.size (.slice (some ⟨g, 0, none⟩) n c1) X) (h2 : Rd .u8 W W.heap.size (some ⟨g2, 0, none⟩) n Y1) (hc : n ≤ c2) (hm : c2 ≤ 9223372036854775807) => same_yes X Y1 (some ⟨g, 0, none⟩) (some ⟨g2, 0, none⟩) n c1 n c2 W (h1.rd hn.out) h2 hc1 (by omega) hc hm (by omega) p true addr port f2.out hR a1
  have s2 := fun (g2 c2 : Nat) W (h1 : Own .u8 5 W w.heap.size (.slice (some ⟨g, 0, none⟩) n c1) X) (h2 : Rd .u8 W W.heap.size (some ⟨g2, 0, none⟩) n Y2) (hc : n ≤ c2) (hm : c2 ≤ 9223372036854775807) => same_yes X Y2 (some ⟨g, 0, none⟩) (some ⟨g2, 0, none⟩) n c1 n c2 W (h1.rd hn.out) h2 hc1 (by omega) hc hm (by omega) p false addr port f2.out hR a2
  clear a1 a2 hR
  replace ho := Lib.hid ho
  replace hi2 := Lib.hid hi2
  replace hl1 := Lib.hid hl1
  replace hl2 := Lib.hid hl2
  replace s1 := Lib.hid s1
  replace s2 := Lib.hid s2
  replace hln := Lib.hid hln
  go_wp2_with fail
  refine ho.out.mono ?_
  rintro e w4 ⟨⟨va, rfl, oa, _⟩, bel4⟩
  replace oa := oa rfl
  obtain ⟨ga, ca, rfl, hca, hca2, hga, _⟩ := oa.formG hl1.out (by omega)
  unfold maxLen at hca2
  replace own1 := own1.below bel4
  replace own3 := own3.below bel4
  replace bel := bel_after bel bel4
  clear ho bel4
  go_wp2_with fail
  refine (hi2.out _ own3).mono ?_
  rintro e w5 ⟨⟨vb, rfl, ob, _⟩, bel5⟩
  replace ob := ob rfl
  obtain ⟨gb, cb, rfl, hcb, hcb2, hgb, _⟩ := ob.formG hl2.out (by omega)
  unfold maxLen at hcb2
  replace own1 := own1.below bel5
  replace oa := oa.below bel5
  replace bel := bel_after bel bel5
  clear hi2 bel5 own3 rd3
  go_wp2_with fail
  refine (writes_any _).mono ?_
  rintro e w6 ⟨rfl, bel6⟩
  replace own1 := own1.below bel6
  replace oa := oa.below bel6
  replace ob := ob.below bel6
  replace bel := bel_after bel bel6
  clear bel6
  go_wp2_with fail
  refine (s1.out _ _ _ own1 (oa.rd hl1.out) hca (by omega)).mono ?_
  rintro e w7 ⟨rfl, bel7⟩
  replace own1 := own1.below bel7
  replace ob := ob.below bel7
  replace bel := bel_after bel bel7
  clear bel7 oa s1
  go_wp2_with fail
  refine (s2.out _ _ _ own1 (ob.rd hl2.out) hcb (by omega)).mono ?_
  rintro e w8 ⟨rfl, bel8⟩
  replace own1 := own1.below bel8
  replace bel := bel_after bel bel8
  clear bel8 ob s2
  have hcv := conv_rd (P := Try.prog) (cap := c1) (own1.rd hn.out) 24 5 9 Try.underlying24 Try.underlying5 Try.underlying9
  go_wp2
  go_ret
  exact ⟨rfl, bel⟩
theorem RewriteFrames_args (W : World) (args : Array Value) (hs : args.size = Try.f4.params.size) (hA : ∀ (j : Nat) t v, Try.f4.params[j]? = some t → args[j]? = some v → Arg Try.prog W t v) :
    Calls Try.prog 4 args W fun e W' => e = .returned (.bool true) ∧ Below W.heap.size W W' := by
  obtain ⟨v0, v1, v2, rfl⟩ := args3 hs
  obtain ⟨wt, s, d, a, b, f, A, len, cap, l, rfl, h1, h2, h3, h4, h5, h6, h7⟩ := arg_sent (hA 0 26 v0 rfl rfl)
  obtain ⟨x, rfl, hx⟩ := arg_int Try.underlying22 (hA 1 22 v1 rfl rfl)
  obtain ⟨y, rfl, hy⟩ := arg_int Try.underlying23 (hA 2 23 v2 rfl rfl)
  exact RewriteFrames_walk wt s d a b f l A len cap x y W h7 h5 h6 h1 h2 h3 h4 (inr_u32 hx) (inr_u16 hy)

set_option maxRecDepth 100000 in
theorem RewriteFrames_lifted (os : Os) (started : os.Started) (H : Type) (enc : TypeId × Value → H) :
    ReturnsInHanded {} Try.checked os 4 .any (Rows.rewriteFramesSpec.pre6 enc Try.prog Try.f4 Rows.rewriteFramesRow.domain false) (Rows.rewriteFramesSpec.post enc Try.prog Try.f4 false true false false) :=
  law_lifted os started H enc (by kernel_rfl) Try.func4 rfl rfl (fun H ds h => by match ds, h with | [_, _, _], _ => exact ⟨rfl, rfl, rfl⟩) (by kernel_rfl)
    (ChangeSpec.witness6 (enc := enc) (C := Try.checked) false ⟨#[], #[.agg #[.int .i64 0, .int .u32 0, .int .u32 0, .int .u16 0, .int .u16 0, .int .i64 0, .slice none 0 0], .int .u32 0, .int .u16 0], []⟩ 8 (by kernel_rfl) (by kernel_rfl) (by kernel_rfl) (by kernel_rfl))
    RewriteFrames_args

/-- the statement -/
theorem rewriteFrames_holds : Rows.RewriteFramesSaid :=
  OpenClaim.holds_of_wide 4 Try.f4 rfl rfl rfl rfl rfl rfl rfl ⟨rfl, rfl, rfl, rfl, rfl⟩ rfl rfl rfl rfl rfl (by kernel_rfl) Try.func4 (by kernel_rfl)
    (of_decide_eq_true (by kernel_rfl)) (by unfold Func.isWrapper; first | (rw [if_pos (by decide +kernel)]; kernel_rfl) | (rw [if_neg (by decide +kernel)]; exact ⟨rfl, rfl⟩))
    (fun os started H enc _ => RewriteFrames_lifted os started H enc)

end Go.Proofs.Ytgnicbljkidbhaa
