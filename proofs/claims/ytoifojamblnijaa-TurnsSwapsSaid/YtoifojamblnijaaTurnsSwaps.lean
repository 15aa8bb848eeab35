/- Every input of TurnsSwaps answers true, and reads behind the call as it read before. No condition. -/
import Derived.Test.YtoifojamblnijaaTurns6
import Derived.Test.YtoifojamblnijaaSwapsPlain
namespace Go.Proofs.Ytoifojamblnijaa
set_option linter.unusedVariables false
set_option linter.unusedSimpArgs false
open Go.RowKit
structure SwRel (n g h gl : Nat) (w : World) (V : Value) (out : List Dn) (l : List Int) (i : Nat) (f : Fs) (wr : World) : Prop where
  hi : i ≤ out.length
  hc : Cel wr g h l
  got : Own .u64 23 wr w.heap.size (.slice (some ⟨gl, 0, none⟩) n n) f.got
  glen : f.got.length = n
  own : OwnT Dn.cs 3 35 wr w.heap.size V out
  bel : Below w.heap.size w wr
theorem SwRel.bel5 {n g h gl : Nat} {w : World} {V : Value} {out : List Dn} {l : List Int} {i : Nat} {f : Fs} {wr w' : World} (r : SwRel n g h gl w V out l i f wr) (hb : Below wr.heap.size wr w') : SwRel n g h gl w V out l i f w' :=
  ⟨r.hi, r.hc.bel hb, r.got.below hb, r.glen, r.own.below hb, bel_after r.bel hb⟩
theorem SwRel.mv {n g h gl : Nat} {w : World} {V : Value} {out : List Dn} {l : List Int} {i j : Nat} {f f' : Fs} {wr : World} (r : SwRel n g h gl w V out l i f wr) (hf : f'.got = f.got) (hj : j ≤ out.length) : SwRel n g h gl w V out l j f' wr :=
  ⟨hj, r.hc, by rw [hf]; exact r.got, by rw [hf]; exact r.glen, r.own, r.bel⟩
theorem SwRel.set {n g h gl : Nat} {w : World} {V : Value} {out : List Dn} {l : List Int} {i j q : Nat} {f : Fs} {wr : World} (r : SwRel n g h gl w V out l i f wr) (hj : j ≤ out.length) (hw : w.heap.size ≤ gl) (x : Int) (hx : inr .u64 x) :
    SwRel n g h gl w V out l j ⟨f.now, f.tried, f.got.set q x⟩ (wr.setCell ⟨gl, q, none⟩ (.int .u64 x)) := by
  have up := Upd.one wr gl q (.int .u64 x)
  have hn : ∀ t b c, Blk wr b t c → 23 ≠ t → ¬ b = gl := fun t b c hb hne e => r.got.ne hb hne e
  obtain ⟨o1, o2, o3, ho⟩ := r.hc.obj
  refine ⟨hj, Cel.upd (S := (· = gl)) r.hc up (hn _ _ _ ho (by decide)) (hn _ _ _ r.hc.row (by decide)), r.got.set r.glen q hx, by simp [r.glen], r.own.updne up (fun b c hb => hn _ b c hb (by decide)), r.bel.trans (up.below r.bel.size (fun k hk e => by subst e; omega))⟩
theorem u64_id (a : Int) (h0 : 0 ≤ a) (h1 : a ≤ 9223372036854775807) : IntKind.u64.wrap a = a := by rw [IntKind.wrap_u64]; omega
theorem small_up (q : Nat) (h : q < 8) : wrap64 ((q : Int) + 1) = (q : Int) + 1 ∧ IntKind.u64.wrap ((q : Int) + 1) = (q : Int) + 1 := ⟨IntWalk.wrap64_in _ (by omega), by rw [IntKind.wrap_u64]; omega⟩
theorem info_u64t : (Try.prog.info? 23).map (fun i => (i.zero, i.size, i.bytes)) = some (some (.int .u64 0), 1, 8) := by kernel_rfl
theorem SwRel.alloc {n g h gl : Nat} {w : World} {V : Value} {out : List Dn} {l : List Int} {i : Nat} {f : Fs} {wr : World} (r : SwRel n g h gl w V out l i f wr) (o : Obj) : SwRel n g h gl w V out l i f (wr.alloc o) :=
  ⟨r.hi, r.hc.alloc _, r.got.alloc _, r.glen, r.own.alloc _, r.bel.alloc r.bel.size _⟩
set_option maxRecDepth 100000 in
set_option maxHeartbeats 1000000 in
theorem TurnsSwaps_any (x0 : Int) (A : Option Addr) (m cap : Nat) (picks : List Int) (w : World) (rd : Rd .i64 w w.heap.size A m picks) (hmc : m ≤ cap) (hcap : cap ≤ maxLen) :
    Calls Try.prog 5 #[.int .i64 x0, .slice A m cap] w fun e w' => e = .returned (.bool true) ∧ Below w.heap.size w w' := by
  have rd0 := rd
  obtain ⟨i0, hi, hz0, hz1, hz2⟩ := info_parts info_ops
  obtain ⟨q, hq, hq8⟩ := modn x0 8 (by omega)
  have hw1 : wrap64 (q : Int) = q := IntWalk.wrap64_in _ (by omega)
  obtain ⟨n, hn⟩ : ∃ n : Nat, n = 1 + q := ⟨_, rfl⟩
  have hw2 : 1 + (q : Int) = (n : Int) := by omega
  have hn8 : n ≤ 8 := by omega
  have hn1 : 1 ≤ n := by omega
  replace hn := Lib.hid hn
  go_enter Try.func5, Try.ntmps5
  go_wp2_with fail
  go_loopg [6, 7] n (fun gk s6 s7 wr => ∃ (k : Nat) (hs : List Hdr), gk = n - k ∧ k ≤ n ∧ s7 = .int .i64 k ∧ POwn wr w.heap.size s6 hs (swps k) ∧ Below w.heap.size w wr)
  case atStart => exact ⟨0, [], rfl, Nat.zero_le _, rfl, POwn.nil _ _, Below.refl _ _⟩
  case round =>
    obtain ⟨k, hs, hgk, hk, rfl, po, bel⟩ := hrel
    by_cases hlt : k < n
    · have hd : decide (k < n) = true := by simpa using hlt
      replace hgk := Lib.hid hgk
      have hw3 : IntKind.u64.wrap ((k : Int) + 1) = (k : Int) + 1 := by rw [IntKind.wrap_u64]; omega
      have pg := PrgAt.new wr (swp k) (by intro x hx; simp [swp] at hx; rcases hx with rfl | rfl <;> (constructor <;> simp <;> omega)) #[.int .i64 0, .int .i64 0, .int .u64 0, .int .u64 0, .bool false, .int .i64 2, .int .i64 0, .int .u64 0, .int .u64 ((k : Int) + 1), .bool true] rfl 2 rfl
      have b1 := bel_alloc wr (.cells #[.int .i64 0, .int .i64 0, .int .u64 0, .int .u64 0, .bool false, .int .i64 2, .int .i64 0, .int .u64 0, .int .u64 ((k : Int) + 1), .bool true] 27)
      have b2 := bel_alloc (wr.alloc (.cells #[.int .i64 0, .int .i64 0, .int .u64 0, .int .u64 0, .bool false, .int .i64 2, .int .i64 0, .int .u64 0, .int .u64 ((k : Int) + 1), .bool true] 27)) (.cells #[.slice (some ⟨wr.heap.size, 0, none⟩) 2 2] 25)
      have hx := RdT.new (cs := Hdr.cs) (sz := 1) Hdr.cs_len (wr.alloc (.cells #[.int .i64 0, .int .i64 0, .int .u64 0, .int .u64 0, .bool false, .int .i64 2, .int .i64 0, .int .u64 0, .int .u64 ((k : Int) + 1), .bool true] 27)) 25 [⟨some ⟨wr.heap.size, 0, none⟩, 2, 2⟩] #[.slice (some ⟨wr.heap.size, 0, none⟩) 2 2] rfl 1 rfl
      rw [show (wr.alloc (.cells #[.int .i64 0, .int .i64 0, .int .u64 0, .int .u64 0, .bool false, .int .i64 2, .int .i64 0, .int .u64 0, .int .u64 ((k : Int) + 1), .bool true] 27)).heap.size = wr.heap.size + 1 by simp] at hx
      replace pg := pg.bel b2
      replace po := (po.bel b1).bel b2
      replace bel := bel_after (bel_after bel b1) b2
      clear b1 b2
      go_wp2_with (at_builtin; go_loud (refine wpList_appT Hdr.cs_len Hdr.cs_one (by decide) _ rfl (.tmp 27) (.tmp 34) 24 rfl w.heap.size 25 i0 (.slice none 0 0) 24 Try.underlying24 hi hz0 hz1 hz2 rfl u6 rfl hs po.own _ _ 1 1 rfl [⟨some ⟨wr.heap.size, 0, none⟩, 2, 2⟩] hx (by rw [po.len]; simp [swps]; omega) (by decide) bel.size ?_; intro v1 w1 own1 hg1 hb1))
      have po1 := po.app own1 hg1 rfl (Nat.le_refl _) (show (2 : Nat) ≤ maxLen by decide) pg
      have bel1 : Below w.heap.size w w1 := bel.grown hg1 bel.size (fun g h => (po.own.lt g h).1)
      rw [← swps_succ] at po1
      clear pg hx po bel own1 hg1 hb1
      go_wp2_with fail
      go_roundg (n - (k + 1))
      case measure => have := hgk.out; omega
      case rel => exact ⟨k + 1, _, rfl, by omega, by go_num, po1, bel1⟩
    · obtain rfl : k = n := by omega
      go_wp2_with fail
      refine (CellsNew_yes 1 _ (by omega) (by omega)).mono ?_
      rintro e w1 ⟨g, h, rfl, bel1, hg, hh, hc, _⟩
      replace po := po.bel bel1
      have hwr := bel.size
      replace bel := bel_after bel bel1
      replace rd := (rd.below bel).more bel.size
      obtain ⟨m2, hm2, hm3, hm4⟩ := minc 60 (by omega) m
      have hm5 : (m2 : Int) ≤ cap := by omega
      have hm6 : m2 ≤ cap := by omega
      have hm7 : (0 : Int) ≤ m2 := by omega
      obtain ⟨A3, cap3, rfl, hc1, hc2⟩ := po.own.form (po.len.trans (by simp [swps] : (swps k).length = k))
      go_wp2_with fail
      trace "D"
      refine (Rest_any g h A3 k cap3 (swps k) [0] _ A m2 _ (picks.take m2) (po.prgs (by simp [swps])) hc1 hc2 hc (by simp) (rd.take hm3) (fun h0 a ha => ?_) (by omega) (fun p hp => by simp only [swps, List.mem_map] at hp; obtain ⟨i, _, rfl⟩ := hp; simp [swp])).mono ?_
      · obtain ⟨b, o, rfl, hb, _⟩ := rd0.cel (by omega)
        simp only [Option.some.injEq] at ha
        subst ha
        simp only
        constructor <;> omega
      rintro e w2 ⟨v, ord, s, out, rfl, told, hfin, hc, own, up⟩
      obtain ⟨hlen, hgood, hnow⟩ := sw_rest (by omega) told hfin
      clear told hfin po rd rd0
      replace hgood := Lib.hid hgood
      replace hnow := Lib.hid hnow
      replace hlen := Lib.hid hlen
      have hwr2 := bel.size
      replace own := own.mono (base' := w.heap.size) hwr2
      replace bel := bel.trans (up.below bel.size (fun k hk e => by subst e; omega))
      have own0 := Own.new .u64 w2 23 w.heap.size bel.size (List.replicate k 0) (by intro x hx; rw [List.mem_replicate] at hx; rw [hx.2]; exact u64_inr (by omega)) (Array.replicate k (.int .u64 0)) (by rw [List.map_replicate]; simp) k (by simp) (by simp [maxLen]; omega)
      have r0 : SwRel k g h w2.heap.size w v out s.l 0 (Fs.init k) (w2.alloc (.cells (Array.replicate k (.int .u64 0)) 23)) := ⟨Nat.zero_le _, hc.alloc _, own0, by simp [Fs.init], own.alloc _, bel.alloc bel.size _⟩
      have bel_sz : w.heap.size ≤ w2.heap.size := bel.size
      clear own0 up hwr2
      obtain ⟨A4, cap4, rfl, hc3, hc4⟩ := own.form hlen.out
      have hln : ((2 * k : Nat) : Int) = 2 * (k : Int) := by omega
      have hwl : wrap64 (2 * (k : Int)) = 2 * (k : Int) := IntWalk.wrap64_in _ (by omega)
      clear own bel hc
      obtain ⟨j0, hj, hy0, hy1, hy2⟩ := info_parts info_u64t
      have hmk := fun W => make_one (P := Try.prog) 47 23 j0 _ Try.underlying47 hj hy0 hy1 rfl .i64 .i64 k (by rw [hy2]; omega) (by omega) W
      go_wp2_with fail
      clear hmk
      trace "E"
      have hwgl : w.heap.size ≤ w2.heap.size := bel_sz
      generalize w2.heap.size = gl at *
      go_loopg [11, 12, 14] (2 * k) (fun gk s11 s12 s14 wr => ∃ (i : Nat) (f : Fs), gk = 2 * k - i ∧ s14 = .int .i64 i ∧ f = (out.take i).foldl Fs.step (Fs.init k) ∧ s11 = .int .u64 f.now ∧ s12 = .bool f.tried ∧ SwRel k g h gl w (.slice A4 (2 * k) cap4) out s.l i f wr ∧ (0 ≤ f.now ∧ f.now ≤ 100))
      case atStart => exact ⟨0, Fs.init k, rfl, rfl, by simp, rfl, rfl, r0, by simp [Fs.init]⟩
      case round =>
        clear r0
        obtain ⟨i, f, hgk, rfl, hf, rfl, rfl, r, hnw⟩ := hrel
        by_cases hlt : i < 2 * k
        · have hd : decide ((i : Int) < 2 * (k : Int)) = true := by simp; omega
          obtain ⟨d, hdi⟩ : ∃ d, out[i]? = some d := ⟨_, List.getElem?_eq_getElem (by rw [hlen.out]; omega)⟩
          have hg1 := hgood.out i d hdi
          rw [← hf] at hg1
          have hfold : (out.take (i + 1)).foldl Fs.step (Fs.init k) = f.step d := by rw [List.take_add_one, hdi, List.foldl_append, ← hf]; rfl
          replace hf := Lib.hid hf
          replace hfold := Lib.hid hfold
          replace hgk := Lib.hid hgk
          have hdi2 := hdi
          obtain ⟨⟨q2, hq2, hq2n⟩, hcase⟩ := hg1
          obtain ⟨who, idx, gv⟩ := d
          simp only at hq2
          subst hq2
          obtain ⟨g4, c4, hVe, _, _, _, _, _⟩ := r.own.formG hlen.out (by omega)
          simp only [Value.slice.injEq, true_and] at hVe
          obtain ⟨rfl, rfl⟩ := hVe
          have c0 : wr.cell? ⟨g4, i * 3, none⟩ = some (.int .i64 q2) := r.own.at_ Dn.cs_len hdi (f := 0) rfl
          have c1 : wr.cell? ⟨g4, i * 3 + 1, none⟩ = some (.int .i64 idx) := r.own.at_ Dn.cs_len hdi (f := 1) rfl
          have c2 : wr.cell? ⟨g4, i * 3 + 2, none⟩ = some (.int .u64 gv) := r.own.at_ Dn.cs_len hdi (f := 2) rfl
          obtain ⟨o1, o2, o3⟩ := r.got.at_ r.glen hq2n
          have hdn : decide ((q2 : Int) < (k : Int)) = true := by simp; omega
          have hgl : gl ≠ wr.heap.size := by have := (r.got.lt gl rfl).2; omega
          have bx := Blk.new wr 35 #[.int .i64 q2, .int .i64 idx, .int .u64 gv]
          have r1 := r.alloc (.cells #[.int .i64 q2, .int .i64 idx, .int .u64 gv] 35)
          have f1 := r1.got.at_ r1.glen hq2n
          obtain ⟨o1, o2, o3⟩ := f1
          have x0 := bx.cell 0
          have x1 := bx.cell 1
          have x2 := bx.cell 2
          clear hdi hdi2
          rcases hcase with ⟨rfl, rfl⟩ | ⟨rfl, hcase⟩
          · go_wp2_with fail
            have hgv : inr .u64 f.now := u64_inr (by omega)
            have r2 := r1.set (j := i + 1) (q := q2) (by rw [hlen.out]; omega) hwgl f.now hgv
            go_roundg (2 * k - (i + 1))
            case measure => have := hgk.out; omega
            case rel =>
              refine ⟨i + 1, f.step ⟨q2, 0, f.now⟩, rfl, by go_num, hfold.out.symm, ?_, ?_, ?_⟩
              · rfl
              · rfl
              · exact ⟨r2, hnw⟩
          · simp only [Int.toNat_natCast] at hcase
            obtain ⟨gq, hgq⟩ : ∃ gq, gq = f.got.getD q2 0 := ⟨_, rfl⟩
            obtain ⟨nv, hnv⟩ : ∃ nv, nv = f.now := ⟨_, rfl⟩
            obtain ⟨tv, htv⟩ : ∃ tv, tv = f.tried := ⟨_, rfl⟩
            rw [← hgq] at o1 hcase
            rw [← hnv, ← htv] at hcase
            rw [← hnv, ← htv]
            replace hgq := Lib.hid hgq
            replace hnv := Lib.hid hnv
            replace htv := Lib.hid htv
            have hnu := (small_up q2 (Nat.lt_of_lt_of_le hq2n hn8)).2
            clear hwl hq hw1 hw2
            rcases hcase with ⟨rfl, hq3⟩ | ⟨rfl, hq3, htr⟩
            · subst hq3
              cases tv with
              | true =>
                go_wp2_with fail
                go_roundg (2 * k - (i + 1))
                case measure => have := hgk.out; omega
                case rel =>
                  have hst : f.step ⟨q2, 1, 1⟩ = ⟨q2 + 1, true, f.got⟩ := by unfold Fs.step; rw [if_neg (by simp), if_pos (by rw [← hnv.out]; simp only [Int.toNat_natCast]; rw [← hgq.out])]
                  refine ⟨i + 1, f.step ⟨q2, 1, 1⟩, rfl, by go_num, hfold.out.symm, ?_, ?_, ?_⟩
                  · rw [hst]
                  · rw [hst]
                  · rw [hst]; exact ⟨r1.mv rfl (by rw [hlen.out]; omega), by simp only; omega⟩
              | false =>
                go_wp2_with fail
                go_roundg (2 * k - (i + 1))
                case measure => have := hgk.out; omega
                case rel =>
                  have hst : f.step ⟨q2, 1, 1⟩ = ⟨q2 + 1, true, f.got⟩ := by unfold Fs.step; rw [if_neg (by simp), if_pos (by rw [← hnv.out]; simp only [Int.toNat_natCast]; rw [← hgq.out])]
                  refine ⟨i + 1, f.step ⟨q2, 1, 1⟩, rfl, by go_num, hfold.out.symm, ?_, ?_, ?_⟩
                  · rw [hst]
                  · rw [hst]
                  · rw [hst]; exact ⟨r1.mv rfl (by rw [hlen.out]; omega), by simp only; omega⟩
            · subst htr
              have hb : (gq == nv) = false := by simpa using hq3
              go_wp2_with fail
              go_roundg (2 * k - (i + 1))
              case measure => have := hgk.out; omega
              case rel =>
                have hst : f.step ⟨q2, 1, 0⟩ = ⟨f.now, true, f.got⟩ := by unfold Fs.step; rw [if_neg (by simp), if_neg (by rw [← hnv.out]; simp only [Int.toNat_natCast]; rw [← hgq.out]; exact hq3)]
                refine ⟨i + 1, f.step ⟨q2, 1, 0⟩, rfl, by go_num, hfold.out.symm, ?_, ?_, ?_⟩
                · rw [hst, hnv.out]
                · rw [hst]
                · rw [hst]; exact ⟨r1.mv rfl (by rw [hlen.out]; omega), hnw⟩
        · obtain rfl : i = 2 * k := by have := r.hi; have := hlen.out; omega
          replace hf := Lib.hid hf
          go_wp2_with fail
          trace "G"
          refine (goes_any _).mono ?_
          rintro e w5 ⟨rfl, bel5⟩
          replace r := r.bel5 bel5
          go_wp2_with fail
          refine (Load_any 0 g h s.l w5 r.hc (by rw [hnow.out]; simp)).mono ?_
          rintro e w6 ⟨rfl, rfl⟩
          have hcl : celAt s.l 0 = f.now := by rw [hnow.out, hf.out, show out.take (2 * k) = out from List.take_of_length_le (by rw [hlen.out]; omega)]; rfl
          rw [hcl]
          clear hf hcl
          go_wp2_with fail
          go_ret
          exact ⟨rfl, r.bel⟩
theorem TurnsSwaps_args (W : World) (args : Array Value) (hs : args.size = Try.f5.params.size) (hA : ∀ (j : Nat) t v, Try.f5.params[j]? = some t → args[j]? = some v → Arg Try.prog W t v) :
    Calls Try.prog 5 args W fun e W' => e = .returned (.bool true) ∧ Below W.heap.size W W' := by
  obtain ⟨v0, v1, rfl⟩ := args2 hs
  obtain ⟨x0, rfl, _⟩ := arg_int Try.underlying3 (hA 0 3 v0 rfl rfl)
  obtain ⟨A, len, cap, l, rfl, h1, h2, rd⟩ := arg_ints Try.underlying22 Try.underlying3 (by kernel_rfl) (hA 1 22 v1 rfl rfl)
  exact TurnsSwaps_any x0 A len cap l W rd h1 h2

set_option maxRecDepth 100000 in
theorem TurnsSwaps_lifted (os : Os) (started : os.Started) (H : Type) (enc : TypeId × Value → H) :
    ReturnsInHanded {} Try.checked os 5 .any (Rows.turnsSwapsSpec.pre6 enc Try.prog Try.f5 Rows.turnsSwapsRow.domain false) (Rows.turnsSwapsSpec.post enc Try.prog Try.f5 false true false false) :=
  law_lifted os started H enc (by kernel_rfl) Try.func5 rfl rfl (fun H ds h => by match ds, h with | [_, _], _ => exact ⟨rfl, rfl, rfl⟩) (by kernel_rfl)
    (ChangeSpec.witness6 (enc := enc) (C := Try.checked) false ⟨#[], #[.int .i64 0, .slice none 0 0], []⟩ 8 (by kernel_rfl) (by kernel_rfl) (by kernel_rfl) (by kernel_rfl))
    TurnsSwaps_args

/-- the statement -/
theorem turnsSwaps_holds : Rows.TurnsSwapsSaid :=
  OpenClaim.holds_of_wide 5 Try.f5 rfl rfl rfl rfl rfl rfl rfl ⟨rfl, rfl, rfl, rfl, rfl⟩ rfl rfl rfl rfl rfl (by kernel_rfl) Try.func5 (by kernel_rfl)
    (of_decide_eq_true (by kernel_rfl)) (by unfold Func.isWrapper; first | (rw [if_pos (by decide +kernel)]; kernel_rfl) | (rw [if_neg (by decide +kernel)]; exact ⟨rfl, rfl⟩))
    (fun os started H enc _ => TurnsSwaps_lifted os started H enc)

end Go.Proofs.Ytoifojamblnijaa
