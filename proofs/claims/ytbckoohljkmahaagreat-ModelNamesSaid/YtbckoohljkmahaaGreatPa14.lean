/- What the laws' proofs lean on: plain facts and contracts of the program's functions, laid together (14). -/
import Derived.Test.YtbckoohljkmahaaGreatPa13
import Derived.Test.YtbckoohljkmahaaGreatPa08
import Derived.Test.YtbckoohljkmahaaGreatPa02
import Derived.Lib.LazyBuf
import Derived.Test.YtbckoohljkmahaaGreatPa05
import Derived.Test.YtbckoohljkmahaaGreatPa07
namespace Go.Proofs.YtbckoohljkmahaaGreat
set_option linter.unusedVariables false
set_option linter.unusedSimpArgs false
open Go.RowKit
def f0 (out : Bool) : Int → Int := putF (fun k => if k = 11 then 3 else if k = 10 then 3 else 0) (if out then 12 else 16) 4 1
section
variable {h : Hd} {p : Pt} {out : Bool}
theorem freeF_bare (h1 : h.proto = 17) (hb : p.bare = true) : freeF h p out = putF (f0 out) (h.size + (if out then 0 else 2)) 2 2 := by unfold freeF f0; rw [if_pos h1, if_pos hb]
theorem freeF_udp (h1 : h.proto = 17) (hb : p.bare = false) : freeF h p out = putF (putF (f0 out) (h.size + (if out then 0 else 2)) 2 2) (h.size + 6) 2 3 := by unfold freeF f0; rw [if_pos h1, if_neg (by simp [hb])]
theorem freeF_tcp (h1 : h.proto = 6) : freeF h p out = putF (putF (f0 out) (h.size + (if out then 0 else 2)) 2 2) (h.size + 16) 2 3 := by unfold freeF f0; rw [if_neg (by omega), if_pos h1]
theorem freeF_echo (h1 : h.proto = 1) (he : p.err = false) : freeF h p out = putF (putF (f0 out) (h.size + 4) 2 2) (h.size + 2) 2 3 := by unfold freeF f0; rw [if_neg (by omega), if_neg (by omega), if_pos he]
def fe (h : Hd) (p : Pt) (out : Bool) : Int → Int := putF (putF (putF (f0 out) (h.size + 2) 2 3) (p.pat + (if out then 16 else 12)) 4 1) (p.pat + 10) 2 3
theorem freeF_err (h1 : h.proto = 1) (he : p.err = true) (hi : p.inner.proto = 17 ∨ p.inner.proto = 6 ∨ p.inner.proto = 1) : freeF h p out =
    putF (putF (fe h p out) (p.pat + p.inner.size + (if p.inner.proto = 1 then 4 else if out then 2 else 0)) 2 2) (p.pat + p.inner.size + (if p.inner.proto = 1 then 2 else if p.inner.proto = 17 then 6 else 16)) 2 3 := by
  unfold freeF fe f0
  rw [if_neg (by omega), if_neg (by omega), if_neg (by simp [he])]
  rcases hi with hi | hi | hi
  · rw [if_pos hi, if_neg (show ¬ p.inner.proto = 1 by omega), if_neg (show ¬ p.inner.proto = 1 by omega), if_pos hi]
  · rw [if_neg (show ¬ p.inner.proto = 17 by omega), if_pos hi, if_neg (show ¬ p.inner.proto = 1 by omega), if_neg (show ¬ p.inner.proto = 1 by omega), if_neg (show ¬ p.inner.proto = 17 by omega)]
  · rw [if_neg (show ¬ p.inner.proto = 17 by omega), if_neg (show ¬ p.inner.proto = 6 by omega), if_pos hi, if_pos hi, if_pos hi]
end
section
variable {X A B : List Int} {p : Pt} {out : Bool} {a port : Int}
theorem wd_ch (hp : Pieces X A B) (out : Bool) (a : Int) : wd (chH (hdOf X) out a).src + wd (chH (hdOf X) out a).dst = wd (hdOf X).src + wd (hdOf X).dst - wd (n4 A (addrAt 0 out)) + wd a := by
  rw [hp.hd]
  cases out
  · simp only [chH, addrAt, Bool.false_eq_true, if_false, Nat.zero_add]; omega
  · simp only [chH, addrAt, if_true, Nat.zero_add]; omega
theorem ch_bds (hp : Pieces X A B) (out : Bool) (ha : 0 ≤ a) : 0 ≤ (hdOf X).src ∧ 0 ≤ (hdOf X).dst ∧ 0 ≤ (chH (hdOf X) out a).src ∧ 0 ≤ (chH (hdOf X) out a).dst ∧ (hdOf X).size = A.length ∧ (hdOf X).len = A.length + B.length := by
  have h20 := hp.ok.2.1
  have s12 := n4_bd hp.ok.1 (i := 12) (by omega)
  have s16 := n4_bd hp.ok.1 (i := 16) (by omega)
  rw [hp.hd]
  cases out
  · exact ⟨s12.1, s16.1, s12.1, ha, rfl, rfl⟩
  · exact ⟨s12.1, s16.1, ha, s16.1, rfl, rfl⟩
theorem outer_0 {k : Nat} (h : f0 out k = 0) : (k < addrAt 0 out ∨ addrAt 0 out + 4 ≤ k) ∧ k ≠ 10 ∧ k ≠ 11 := outer_off (f := f0 out) h
theorem got_udp (hp : Pieces X A B) (h1 : (hdOf X).proto = 17) (h2 : udpR (hdOf X) B = (0, p)) (ha : 0 ≤ a ∧ a ≤ 4294967295) (hport : 0 ≤ port ∧ port ≤ 65535) : Again X (chgW (A ++ B) (hdOf X) p out a port) (hdOf X) p out a port := by
  have hb := addrAt_bd 0 out
  have h20 := hp.ok.2.1
  have ho := n4_bd hp.ok.1 (i := addrAt 0 out) (by omega)
  obtain ⟨c1, c2, c3, c4, hs, hn⟩ := ch_bds hp out ha.1
  obtain ⟨q1, q2, q3, q4, q5, _, _⟩ := udp_again (h' := chH (hdOf X) out a) (src := out) hp.b8 hport ho ha c1 c2 c3 c4 (wd_ch hp out a) h2
  rw [chgW_plain q2 h20 (by rw [hs]; rfl)]
  have eC : carChg B p.proto out port (n4 A (addrAt 0 out)) a = carW B 0 true out port (n4 A (addrAt 0 out)) a := by rw [q3]; rfl
  rw [eC]
  have hX : getX (hdOf X).proto (chH (hdOf X) out a) (carW B 0 true out port (n4 A (addrAt 0 out)) a) = (0, chP p out a port) := by
    rw [h1]; unfold getX chP; rw [if_pos rfl, q1, q2, q3]; rfl
  obtain ⟨r1, r2, r3, r4, r5⟩ := again_of hp (b8_carW hp.b8 0 true out (by omega) hport ho ha) (carW_len _ _ _ _ _ _ _) ha hX
  refine ⟨r1, r2, r3, r4, r5, fun k hk hf => ?_, fun he => by rw [q2] at he; cases he⟩
  have hk' : k < A.length + B.length := by omega
  have hpa : portAt 0 out = if out then 0 else 2 := by unfold portAt; rfl
  cases hba : p.bare with
  | true =>
    rw [freeF_bare h1 hba, hs] at hf
    obtain ⟨f1, f2⟩ := putF_off hf (by omega)
    obtain ⟨g1, g2, g3⟩ := outer_0 f2
    refine far_of hp (carW_len _ _ _ _ _ _ _) hk' g1 g2 g3 fun j hj => ?_
    rw [hba] at q5
    rw [carW_bare q4 (by simpa using q5.symm)]
    refine put2_far ?_ ?_ <;> rw [hpa] <;> cases out <;> simp at f1 ⊢ <;> omega
  | false =>
    rw [freeF_udp h1 hba, hs] at hf
    obtain ⟨f0', f1⟩ := putF_off hf (by omega)
    obtain ⟨f1, f2⟩ := putF_off f1 (by omega)
    obtain ⟨g1, g2, g3⟩ := outer_0 f2
    refine far_of hp (carW_len _ _ _ _ _ _ _) hk' g1 g2 g3 fun j hj => ?_
    refine carW_far ?_ ?_ ?_ ?_ <;> first | (rw [hpa]; cases out <;> simp at f1 ⊢ <;> omega) | (simp only [sumAt, if_true]; omega)
theorem got_tcp (hp : Pieces X A B) (h1 : (hdOf X).proto = 6) (h2 : tcpR (hdOf X) B = (0, p)) (ha : 0 ≤ a ∧ a ≤ 4294967295) (hport : 0 ≤ port ∧ port ≤ 65535) : Again X (chgW (A ++ B) (hdOf X) p out a port) (hdOf X) p out a port := by
  have hb := addrAt_bd 0 out
  have h20 := hp.ok.2.1
  have ho := n4_bd hp.ok.1 (i := addrAt 0 out) (by omega)
  obtain ⟨c1, c2, c3, c4, hs, hn⟩ := ch_bds hp out ha.1
  obtain ⟨q1, q2, q3, q4, _, _⟩ := tcp_again (h' := chH (hdOf X) out a) (src := out) hp.b8 hport ho ha c1 c2 c3 c4 (wd_ch hp out a) h2
  rw [chgW_plain q2 h20 (by rw [hs]; rfl)]
  have eC : carChg B p.proto out port (n4 A (addrAt 0 out)) a = carW B 0 false out port (n4 A (addrAt 0 out)) a := by rw [q3]; rfl
  rw [eC]
  have hX : getX (hdOf X).proto (chH (hdOf X) out a) (carW B 0 false out port (n4 A (addrAt 0 out)) a) = (0, chP p out a port) := by
    rw [h1]; unfold getX chP; rw [if_neg (by decide), if_pos rfl, q1, q2, q3]; rfl
  obtain ⟨r1, r2, r3, r4, r5⟩ := again_of hp (b8_carW hp.b8 0 false out (by omega) hport ho ha) (carW_len _ _ _ _ _ _ _) ha hX
  refine ⟨r1, r2, r3, r4, r5, fun k hk hf => ?_, fun he => by rw [q2] at he; cases he⟩
  have hk' : k < A.length + B.length := by omega
  have hpa : portAt 0 out = if out then 0 else 2 := by unfold portAt; rfl
  rw [freeF_tcp h1, hs] at hf
  obtain ⟨f0', f1⟩ := putF_off hf (by omega)
  obtain ⟨f1, f2⟩ := putF_off f1 (by omega)
  obtain ⟨g1, g2, g3⟩ := outer_0 f2
  refine far_of hp (carW_len _ _ _ _ _ _ _) hk' g1 g2 g3 fun j hj => ?_
  refine carW_far ?_ ?_ ?_ ?_ <;> first | (rw [hpa]; cases out <;> simp at f1 ⊢ <;> omega) | (simp only [sumAt, Bool.false_eq_true, if_false]; omega)
theorem got_echo (hp : Pieces X A B) (h1 : (hdOf X).proto = 1) (h2 : icmpR (hdOf X) B = (0, p)) (he : p.err = false) (ha : 0 ≤ a ∧ a ≤ 4294967295) (hport : 0 ≤ port ∧ port ≤ 65535) : Again X (chgW (A ++ B) (hdOf X) p out a port) (hdOf X) p out a port := by
  have hb := addrAt_bd 0 out
  have h20 := hp.ok.2.1
  obtain ⟨c1, c2, c3, c4, hs, hn⟩ := ch_bds hp out ha.1
  obtain ⟨l1, _⟩ := icmp_len h2
  obtain ⟨q1, q3, _⟩ := echo_again (h' := chH (hdOf X) out a) (src := out) hp.b8 hport h2 he
  rw [chgW_plain he h20 (by rw [hs]; rfl)]
  have eC : carChg B p.proto out port (n4 A (addrAt 0 out)) a = echoW B 0 port := by rw [q3]; rfl
  rw [eC]
  have hX : getX (hdOf X).proto (chH (hdOf X) out a) (echoW B 0 port) = (0, chP p out a port) := by
    rw [h1]; unfold getX chP; rw [if_neg (by decide), if_neg (by decide), if_pos rfl, q1, he, q3]; rfl
  have hlB : (echoW B 0 port).length = B.length := by unfold echoW; rw [put2_len, put2_len]
  obtain ⟨r1, r2, r3, r4, r5⟩ := again_of hp (b8_echoW hp.b8 0 (v := port) (by omega) hport) hlB ha hX
  refine ⟨r1, r2, r3, r4, r5, fun k hk hf => ?_, fun he' => by rw [he] at he'; cases he'⟩
  have hk' : k < A.length + B.length := by omega
  rw [freeF_echo h1 he, hs] at hf
  obtain ⟨f0', f1⟩ := putF_off hf (by omega)
  obtain ⟨f1, f2⟩ := putF_off f1 (by omega)
  obtain ⟨g1, g2, g3⟩ := outer_0 f2
  exact far_of hp hlB hk' g1 g2 g3 fun j hj => echoW_far (by omega)
theorem sumOf_mod {l l' : List Int} (h8 : Bytes8 l) (h8' : Bytes8 l') {q : Int} (h : sb true l' = sb true l + 65535 * q) : sumOf l' % 65535 = sumOf l % 65535 := by
  have h1 := (sb_bd l h8 true).1
  have h2 := (sb_bd l' h8' true).1
  unfold sumOf fo
  split <;> split <;> omega
theorem seg_app {A B C : List Int} {i n : Nat} (hi : i = A.length) (hn : n = B.length) : seg (A ++ (B ++ C)) i n = B := by
  subst hi hn
  have := seg_right A (B ++ C) 0 B.length
  rw [Nat.add_zero] at this
  rw [this]
  unfold seg
  rw [List.drop_zero, List.take_left]
set_option maxHeartbeats 2000000 in
theorem got_err (hX8 : Bytes8 X) (hp : Pieces X A B) (h1 : (hdOf X).proto = 1) (h2 : icmpR (hdOf X) B = (0, p)) (he : p.err = true) (ha : 0 ≤ a ∧ a ≤ 4294967295) (hport : 0 ≤ port ∧ port ≤ 65535) : Again X (chgW (A ++ B) (hdOf X) p out a port) (hdOf X) p out a port := by
  have hb := addrAt_bd 0 (!out)
  have h20 := hp.ok.2.1
  obtain ⟨c1, c2, c3, c4, hs, hn⟩ := ch_bds hp out ha.1
  obtain ⟨E, I, J, rfl, lE, lI, lI2, lJ, bE, bI, bJ, _, i1, i2, i3, i4, i5, i6, i7, i8, i9, i10, i11, i12⟩ := err_of hp.b8 h2 he
  have hsz := hp.sz
  have hle := hp.le
  have hll : (E ++ (I ++ J)).length = 8 + I.length + J.length := by rw [List.length_append, List.length_append]; omega
  have hpat : p.pat.toNat = A.length + 8 := by rw [i2, hs]; omega
  have hinr : p.inner.size.toNat = I.length := by rw [i1]; rfl
  rw [chgW_err he h20 lE lI (by rw [hs]; rfl) hpat hinr]
  have q1 := err_again (h' := chH (hdOf X) out a) (h := hdOf X) (src := !out) (addr := a) (port := port) hp.b8 lE lI lJ hport ha rfl i5 i6 i1 i7 i4 i8 i2 i3 i9 i10 i11 i12 he
  have hX : getX (hdOf X).proto (chH (hdOf X) out a) (errChg E I J p.inner.proto (!out) port a) = (0, chP p out a port) := by
    rw [h1]; unfold getX chP; rw [if_neg (by decide), if_neg (by decide), if_pos rfl, q1, he]; rfl
  have hlB : (errChg E I J p.inner.proto (!out) port a).length = (E ++ (I ++ J)).length := by rw [errChg_len]; omega
  obtain ⟨r1, r2, r3, r4, r5⟩ := again_of hp (b8_errChg bE bI bJ lI lJ hport ha) hlB ha hX
  refine ⟨r1, r2, r3, r4, r5, fun k hk hf => ?_, fun _ => ?_⟩
  · have hk' : k < A.length + (E ++ (I ++ J)).length := by omega
    have hip : p.inner.proto = 17 ∨ p.inner.proto = 6 ∨ p.inner.proto = 1 := by omega
    rw [freeF_err h1 he hip, i1, i2, hs] at hf
    obtain ⟨f5, hf⟩ := putF_off hf (by omega)
    obtain ⟨f4, hf⟩ := putF_off hf (by omega)
    unfold fe at hf
    rw [i2, hs] at hf
    obtain ⟨f3, hf⟩ := putF_off hf (by omega)
    obtain ⟨f2, hf⟩ := putF_off hf (by omega)
    obtain ⟨f1, hf⟩ := putF_off hf (by omega)
    obtain ⟨g1, g2, g3⟩ := outer_0 hf
    refine far_of hp hlB hk' g1 g2 g3 fun j hj => ?_
    rw [errChg_split lE]
    have lE' : (put2 (put2 E 2 0) 2 (sumOf (put2 (errMid E I J p.inner.proto (!out) port a) 2 0))).length = E.length := by rw [put2_len, put2_len]
    rcases Nat.lt_or_ge j 8 with hj8 | hj8
    · rw [getD_left (by omega), getD_left (by omega), put2_far (by omega) (by omega), put2_far (by omega) (by omega)]
    obtain ⟨j, rfl⟩ : ∃ j', j = E.length + j' := ⟨j - E.length, by omega⟩
    have e1 := getD_right (put2 (put2 E 2 0) 2 (sumOf (put2 (errMid E I J p.inner.proto (!out) port a) 2 0))) (addrL I 0 (!out) a ++ carChg J p.inner.proto (!out) port (n4 I (addrAt 0 (!out))) a) j
    rw [lE'] at e1
    rw [e1, getD_right]
    rcases Nat.lt_or_ge j I.length with hjI | hjI
    · rw [getD_left (by rw [addrL_len]; omega), getD_left hjI]
      refine addrL_far ?_ (by omega) (by omega)
      unfold addrAt
      cases out <;> simp at f2 ⊢ <;> omega
    · obtain ⟨j, rfl⟩ : ∃ j', j = I.length + j' := ⟨j - I.length, by omega⟩
      have e2 := getD_right (addrL I 0 (!out) a) (carChg J p.inner.proto (!out) port (n4 I (addrAt 0 (!out))) a) j
      rw [addrL_len] at e2
      rw [e2, getD_right]
      refine carChg_far (fun hi => ?_) (fun hi => ?_)
      · rw [if_pos hi] at f4 f5; omega
      · rw [if_neg hi] at f4 f5
        refine ⟨?_, ?_, ?_, ?_⟩
        · unfold portAt; cases out <;> simp at f4 ⊢ <;> omega
        · unfold portAt; cases out <;> simp at f4 ⊢ <;> omega
        · unfold sumAt
          rcases hip with h | h | h
          · rw [if_pos h] at f5; simp [h]; omega
          · rw [if_neg (by omega)] at f5; simp [h]; omega
          · exact absurd h hi
        · unfold sumAt
          rcases hip with h | h | h
          · rw [if_pos h] at f5; simp [h]; omega
          · rw [if_neg (by omega)] at f5; simp [h]; omega
          · exact absurd h hi
  · rw [hpat, hinr, errChg_split lE]
    have e1 : seg (addrL A 0 out a ++ (put2 (put2 E 2 0) 2 (sumOf (put2 (errMid E I J p.inner.proto (!out) port a) 2 0)) ++ (addrL I 0 (!out) a ++ carChg J p.inner.proto (!out) port (n4 I (addrAt 0 (!out))) a))) (A.length + 8) I.length = addrL I 0 (!out) a := by
      rw [← List.append_assoc]
      exact seg_app (by rw [List.length_append, addrL_len, put2_len, put2_len]; omega) (by rw [addrL_len])
    have e2 : seg X (A.length + 8) I.length = I := by
      have h3 : seg (X.take (hdOf X).len.toNat) (A.length + 8) I.length = seg X (A.length + 8) I.length := by
        have e : (hdOf X).len.toNat = A.length + (E ++ (I ++ J)).length := by rw [hn]; omega
        unfold seg
        rw [List.drop_take, List.take_take, e, Nat.min_eq_left (by omega)]
      rw [← h3, hp.cut, ← List.append_assoc]
      exact seg_app (by rw [List.length_append]; omega) rfl
    rw [e1, e2]
    obtain ⟨q, hq⟩ := sb_addr I 0 (!out) a rfl (by omega) bI ha
    exact sumOf_mod bI (b8_addrL bI 0 (!out) (by omega) ha) hq
theorem chg_got (hX8 : Bytes8 X) (hE : getE X = 0) (hR : getR (hdOf X) X = (0, p)) (ha : 0 ≤ a ∧ a ≤ 4294967295) (hport : 0 ≤ port ∧ port ≤ 65535) : Again X (chgW (X.take (hdOf X).len.toNat) (hdOf X) p out a port) (hdOf X) p out a port := by
  obtain ⟨A, B, hp⟩ := pieces hX8 hE
  rw [hp.getR] at hR
  rw [hp.cut]
  rcases getX_to hR with ⟨h1, h2⟩ | ⟨h1, h2⟩ | ⟨h1, h2⟩
  · exact got_udp hp h1 h2 ha hport
  · exact got_tcp hp h1 h2 ha hport
  · cases he : p.err with
    | false => exact got_echo hp h1 h2 he ha hport
    | true => exact got_err hX8 hp h1 h2 he ha hport
end
end Go.Proofs.YtbckoohljkmahaaGreat
namespace Go.Proofs.YtbckoohljkmahaaGreat
set_option linter.unusedVariables false
set_option linter.unusedSimpArgs false
open Go.RowKit
/-- a step of the writer, beside the box of the part -/
structure WBx (W0 W : World) (base gw g n c : Nat) (out : Bool) (X : List Int) (pv : Array Value) : Prop where
  wr : Wr W base gw g n c out X
  bx : Blk W W0.heap.size 107 pv
  up : Upd (fun k => k = g) W0 W
  lt : g < W0.heap.size ∧ gw < W0.heap.size
theorem WBx.step {W0 W w' : World} {base gw g n c : Nat} {out : Bool} {X Y : List Int} {pv : Array Value} (h : WBx W0 W base gw g n c out X pv) (h1 : Wr w' base gw g n c out Y) (h2 : Upd (fun k => k = g) W w') : WBx W0 w' base gw g n c out Y pv :=
  ⟨h1, h.bx.upd h2 (by have := h.lt; omega), h.up.trans (h2.mono (fun _ _ h => h)), h.lt⟩
theorem WBx.drew {W0 W : World} {base gw g n c : Nat} {out : Bool} {X : List Int} {pv : Array Value} (h : WBx W0 W base gw g n c out X pv) : WBx W0 W.drew base gw g n c out X pv :=
  ⟨⟨h.wr.1.drew, h.wr.2.1.drew, h.wr.2.2⟩, h.bx.drew, h.up.drew, h.lt⟩
set_option maxRecDepth 100000 in
set_option maxHeartbeats 4000000 in
theorem winner_any (base gw g n c : Nat) (out : Bool) (X : List Int) (pa isz size : Nat) (pr sr ds fl ki co i1 i2 ip i4 i5 : Int) (er ba : Bool) (addr port : Int) (W0 : World) (h : Wr W0 base gw g n c out X) (hp : pa + isz + 8 ≤ n) (h20 : 20 ≤ isz) (hs0 : 20 ≤ size) (hs : size + 8 ≤ pa + isz) (hn : n ≤ 10000) (hnc : n ≤ c) (hcm : c ≤ 9223372036854775807) (ha : 0 ≤ addr ∧ addr ≤ 4294967295) (hport : 0 ≤ port ∧ port ≤ 65535) :
    Calls Tryz.prog 104 #[.pointer (some ⟨gw, 0, none⟩), .agg #[.int .i64 pr, .int .u16 sr, .int .u16 ds, .int .i64 fl, .int .i64 ki, .int .i64 co, .bool er, .int .i64 isz, .int .i64 i1, .int .i64 i2, .int .i64 ip, .int .u32 i4, .int .u32 i5, .int .i64 pa, .bool ba], .int .i64 size, .int .u32 addr, .int .u16 port] W0 (WStep W0 base gw g n c out (innerW X pa isz ip size (!out) addr port) (.tuple #[])) := by
  have hl := h.len
  have hb := addrAt_bd pa (!out)
  have ho := n4_bd h.bd (i := addrAt pa (!out)) (by omega)
  have g1 := fun W' (h' : Wr W' base gw g n c out X) => waddr_any base gw g n c out X pa (!out) addr W' h' (by omega) ha
  unfold innerW
  simp only []
  have hlt : g < W0.heap.size ∧ gw < W0.heap.size := ⟨(h.2.1.lt g rfl).2, h.1.lt⟩
  obtain ⟨q, hq⟩ : ∃ q, pa + isz = q := ⟨_, rfl⟩
  have hqI : (pa : Int) + (isz : Int) = (q : Int) := by omega
  obtain ⟨s2, hs2⟩ : ∃ s, size + 2 = s := ⟨_, rfl⟩
  have hs2I : (size : Int) + 2 = (s2 : Int) := by omega
  rw [hq, hs2]
  have g5 := fun Y W' (h' : Wr W' base gw g n c out Y) => wset_any base gw g n c out Y s2 0 W' h' (by omega) (by omega)
  have g6 := fun Y W' (h' : Wr W' base gw g n c out Y) (v : Int) (hv : 0 ≤ v ∧ v ≤ 65535) => wset_any base gw g n c out Y s2 v W' h' (by omega) hv
  have g7 := fun (Y : List Int) W' (h' : Wr W' base gw g n c out Y) => Of_any (Y.drop size) (some ⟨g, size, none⟩) (n - size) (c - size) _ W' (by omega) (by
    have := (h'.2.1.rd h'.2.2.1).drop (m := size) (cap := c) (by omega) (by omega)
    rw [if_neg (by omega)] at this
    simpa [Addr.add, show size ≠ 0 by omega] using this)
  have hcs : ((c : Int) = (size : Int)) = False := eq_false (by omega)
  have hcs2 : (c = size) = False := eq_false (by omega)
  have hc0 : (0 : Int) ≤ (size : Int) := by omega
  have hc1 : (size : Int) ≤ (n : Int) := by omega
  have hc2 : (n : Int) - (size : Int) = ((n - size : Nat) : Int) := by omega
  have hbd : ∀ Y : List Int, (∀ x, x ∈ Y → 0 ≤ x ∧ x ≤ 255) → 0 ≤ sumOf (Y.drop size) ∧ sumOf (Y.drop size) ≤ 65535 := fun Y hY => sumOf_bd (fun x hx => hY x (List.mem_of_mem_drop hx))
  generalize addrL X pa (!out) addr = X1 at *
  generalize n4 X (addrAt pa (!out)) = old at *
  replace g1 := Lib.hid g1
  replace g5 := Lib.hid g5
  replace g6 := Lib.hid g6
  replace g7 := Lib.hid g7
  replace hq := Lib.hid hq
  replace hs2 := Lib.hid hs2
  by_cases hip : ip = 1
  · subst hip
    simp only [if_true]
    have g2 := fun W' (h' : Wr W' base gw g n c out X1) => wecho_any base gw g n c out X1 q port W' h' (by omega) hport
    replace g2 := Lib.hid g2
    go_enter Tryz.func104, Tryz.ntmps104
    go_upto_region 1 with fail
    have hx : WBx W0 (W0.alloc (.cells #[.int .i64 pr, .int .u16 sr, .int .u16 ds, .int .i64 fl, .int .i64 ki, .int .i64 co, .bool er, .int .i64 isz, .int .i64 i1, .int .i64 i2, .int .i64 1, .int .u32 i4, .int .u32 i5, .int .i64 pa, .bool ba] 107)) base gw g n c out X #[.int .i64 pr, .int .u16 sr, .int .u16 ds, .int .i64 fl, .int .i64 ki, .int .i64 co, .bool er, .int .i64 isz, .int .i64 i1, .int .i64 i2, .int .i64 1, .int .u32 i4, .int .u32 i5, .int .i64 pa, .bool ba] := ⟨h.bel (bel_alloc _ _), Blk.new _ _ _, (Upd.refl _ _).alloc _, hlt⟩
    replace hx := hx.drew
    have z1 : ∀ t : Tw (fun w' => w'.cell? ⟨W0.heap.size, 13, none⟩ = some (.int .i64 pa) ∧ w'.cell? ⟨gw, 1, none⟩ = some (.bool out) ∧ w'.cell? ⟨W0.heap.size, 10, none⟩ = some (.int .i64 1)), t.w.cell? ⟨W0.heap.size, 13, none⟩ = some (.int .i64 pa) := fun t => t.h.1
    have z2 : ∀ t : Tw (fun w' => w'.cell? ⟨W0.heap.size, 13, none⟩ = some (.int .i64 pa) ∧ w'.cell? ⟨gw, 1, none⟩ = some (.bool out) ∧ w'.cell? ⟨W0.heap.size, 10, none⟩ = some (.int .i64 1)), t.w.cell? ⟨gw, 1, none⟩ = some (.bool out) := fun t => t.h.2.1
    have ne : Nonempty (Tw (fun w' => w'.cell? ⟨W0.heap.size, 13, none⟩ = some (.int .i64 pa) ∧ w'.cell? ⟨gw, 1, none⟩ = some (.bool out) ∧ w'.cell? ⟨W0.heap.size, 10, none⟩ = some (.int .i64 1))) := ⟨⟨_, hx.bx.cell 13, hx.wr.1.cell 1, hx.bx.cell 10⟩⟩
    refine wp_region_plan (fun w' => w'.cell? ⟨W0.heap.size, 13, none⟩ = some (.int .i64 pa) ∧ w'.cell? ⟨gw, 1, none⟩ = some (.bool out) ∧ w'.cell? ⟨W0.heap.size, 10, none⟩ = some (.int .i64 1)) [(0, true), (1, true), (2, true), (3, true), (4, true), (5, true), (6, true), (7, true), (8, true), (9, false), (10, true)] (by kernel_rfl) (by kernel_rfl) (by kernel_rfl) (by kernel_rfl) ⟨hx.bx.cell 13, hx.wr.1.cell 1, hx.bx.cell 10⟩ ?_
    generalize (W0.alloc (.cells #[.int .i64 pr, .int .u16 sr, .int .u16 ds, .int .i64 fl, .int .i64 ki, .int .i64 co, .bool er, .int .i64 isz, .int .i64 i1, .int .i64 i2, .int .i64 1, .int .u32 i4, .int .u32 i5, .int .i64 pa, .bool ba] 107)).drew = W1 at *
    refine wpPl_qs 9 _ _ _ (by kernel_rfl) (by kernel_rfl) (by simp) ?_
    unfold clsS
    simp only [List.take_succ_cons, List.take_zero, List.drop_succ_cons, List.drop_zero, List.filterMap_cons, List.filterMap_nil, List.getElem?_toArray, List.getElem?_cons_zero, List.getElem?_cons_succ]
    repeat (first
      | go_big_quiet_skip
      | (go_big_quiet_want; go_big_quiet_op; go_big_quiet_on)
      | (refine id (?_ : wpQuiet _ _ _ _ (_ :: _) _); first | go_big_quiet_skip | (go_big_quiet_want; go_big_quiet_op; go_big_quiet_on)))
    refine wpQuiet_nil ?_
    refine wpPl_e _ (by rfl) (by kernel_rfl) (fun K hK => ?_)
    go_simp
    refine (g1.out _ hx.wr).mono ?_
    rintro e w1 ⟨rfl, h1, u1⟩
    replace hx := hx.step h1 u1
    clear h1 u1
    refine hK _ _ ⟨hx.bx.cell 13, hx.wr.1.cell 1, hx.bx.cell 10⟩ ?_
    clear hK K
    refine wpPl_qs 1 _ _ _ (by kernel_rfl) (by kernel_rfl) (by simp) ?_
    unfold clsS
    simp only [List.take_succ_cons, List.take_zero, List.drop_succ_cons, List.drop_zero, List.filterMap_cons, List.filterMap_nil, List.getElem?_toArray, List.getElem?_cons_zero, List.getElem?_cons_succ]
    repeat (first
      | go_big_quiet_skip
      | (go_big_quiet_want; go_big_quiet_op; go_big_quiet_on)
      | (refine id (?_ : wpQuiet _ _ _ _ (_ :: _) _); first | go_big_quiet_skip | (go_big_quiet_want; go_big_quiet_op; go_big_quiet_on)))
    refine wpQuiet_nil ?_
    unfold wpPl
    refine NoPanic.normal ?_
    have q13 := hx.bx.cell 13
    have q7 := hx.bx.cell 7
    have q10 := hx.bx.cell 10
    go_wp2_with fail
    refine (g2.out _ hx.wr).mono ?_
    rintro e w2 ⟨rfl, h2, u2⟩
    replace hx := hx.step h2 u2
    clear h2 u2 q13 q7 q10
    go_wp2_with fail
    refine (g5.out _ _ hx.wr).mono ?_
    rintro e w3 ⟨rfl, h3, u3⟩
    replace hx := hx.step h3 u3
    clear h3 u3
    have r0 := hx.wr.1.cell 0
    go_wp2_with fail
    refine (g7.out _ _ hx.wr).mono ?_
    rintro e w4 ⟨rfl, rfl⟩
    go_wp2_with fail
    refine (g6.out _ _ hx.wr _ (hbd _ hx.wr.bd)).mono ?_
    rintro e w5 ⟨rfl, h5, u5⟩
    replace hx := hx.step h5 u5
    clear h5 u5 r0
    go_wp2
    go_end0
    exact ⟨rfl, hx.wr, hx.up⟩
  · rw [if_neg hip]
    have d1 : (ip == 1) = false := by simpa using hip
    have g2 := fun W' (h' : Wr W' base gw g n c out X1) => wcar_any base gw g n c out X1 q ip (!out) port old addr W' h' (by omega) hport ho ha (by omega)
    replace g2 := Lib.hid g2
    replace hip := Lib.hid hip
    go_enter Tryz.func104, Tryz.ntmps104
    go_upto_region 1 with fail
    have hx : WBx W0 (W0.alloc (.cells #[.int .i64 pr, .int .u16 sr, .int .u16 ds, .int .i64 fl, .int .i64 ki, .int .i64 co, .bool er, .int .i64 isz, .int .i64 i1, .int .i64 i2, .int .i64 ip, .int .u32 i4, .int .u32 i5, .int .i64 pa, .bool ba] 107)) base gw g n c out X #[.int .i64 pr, .int .u16 sr, .int .u16 ds, .int .i64 fl, .int .i64 ki, .int .i64 co, .bool er, .int .i64 isz, .int .i64 i1, .int .i64 i2, .int .i64 ip, .int .u32 i4, .int .u32 i5, .int .i64 pa, .bool ba] := ⟨h.bel (bel_alloc _ _), Blk.new _ _ _, (Upd.refl _ _).alloc _, hlt⟩
    replace hx := hx.drew
    have z1 : ∀ t : Tw (fun w' => w'.cell? ⟨W0.heap.size, 13, none⟩ = some (.int .i64 pa) ∧ w'.cell? ⟨gw, 1, none⟩ = some (.bool out) ∧ w'.cell? ⟨W0.heap.size, 10, none⟩ = some (.int .i64 ip)), t.w.cell? ⟨W0.heap.size, 13, none⟩ = some (.int .i64 pa) := fun t => t.h.1
    have z2 : ∀ t : Tw (fun w' => w'.cell? ⟨W0.heap.size, 13, none⟩ = some (.int .i64 pa) ∧ w'.cell? ⟨gw, 1, none⟩ = some (.bool out) ∧ w'.cell? ⟨W0.heap.size, 10, none⟩ = some (.int .i64 ip)), t.w.cell? ⟨gw, 1, none⟩ = some (.bool out) := fun t => t.h.2.1
    have ne : Nonempty (Tw (fun w' => w'.cell? ⟨W0.heap.size, 13, none⟩ = some (.int .i64 pa) ∧ w'.cell? ⟨gw, 1, none⟩ = some (.bool out) ∧ w'.cell? ⟨W0.heap.size, 10, none⟩ = some (.int .i64 ip))) := ⟨⟨_, hx.bx.cell 13, hx.wr.1.cell 1, hx.bx.cell 10⟩⟩
    refine wp_region_plan (fun w' => w'.cell? ⟨W0.heap.size, 13, none⟩ = some (.int .i64 pa) ∧ w'.cell? ⟨gw, 1, none⟩ = some (.bool out) ∧ w'.cell? ⟨W0.heap.size, 10, none⟩ = some (.int .i64 ip)) [(0, true), (1, true), (2, true), (3, true), (4, true), (5, true), (6, true), (7, true), (8, true), (9, false), (10, true)] (by kernel_rfl) (by kernel_rfl) (by kernel_rfl) (by kernel_rfl) ⟨hx.bx.cell 13, hx.wr.1.cell 1, hx.bx.cell 10⟩ ?_
    generalize (W0.alloc (.cells #[.int .i64 pr, .int .u16 sr, .int .u16 ds, .int .i64 fl, .int .i64 ki, .int .i64 co, .bool er, .int .i64 isz, .int .i64 i1, .int .i64 i2, .int .i64 ip, .int .u32 i4, .int .u32 i5, .int .i64 pa, .bool ba] 107)).drew = W1 at *
    refine wpPl_qs 9 _ _ _ (by kernel_rfl) (by kernel_rfl) (by simp) ?_
    unfold clsS
    simp only [List.take_succ_cons, List.take_zero, List.drop_succ_cons, List.drop_zero, List.filterMap_cons, List.filterMap_nil, List.getElem?_toArray, List.getElem?_cons_zero, List.getElem?_cons_succ]
    repeat (first
      | go_big_quiet_skip
      | (go_big_quiet_want; go_big_quiet_op; go_big_quiet_on)
      | (refine id (?_ : wpQuiet _ _ _ _ (_ :: _) _); first | go_big_quiet_skip | (go_big_quiet_want; go_big_quiet_op; go_big_quiet_on)))
    refine wpQuiet_nil ?_
    refine wpPl_e _ (by rfl) (by kernel_rfl) (fun K hK => ?_)
    go_simp
    refine (g1.out _ hx.wr).mono ?_
    rintro e w1 ⟨rfl, h1, u1⟩
    replace hx := hx.step h1 u1
    clear h1 u1
    refine hK _ _ ⟨hx.bx.cell 13, hx.wr.1.cell 1, hx.bx.cell 10⟩ ?_
    clear hK K
    refine wpPl_qs 1 _ _ _ (by kernel_rfl) (by kernel_rfl) (by simp) ?_
    unfold clsS
    simp only [List.take_succ_cons, List.take_zero, List.drop_succ_cons, List.drop_zero, List.filterMap_cons, List.filterMap_nil, List.getElem?_toArray, List.getElem?_cons_zero, List.getElem?_cons_succ]
    repeat (first
      | go_big_quiet_skip
      | (go_big_quiet_want; go_big_quiet_op; go_big_quiet_on)
      | (refine id (?_ : wpQuiet _ _ _ _ (_ :: _) _); first | go_big_quiet_skip | (go_big_quiet_want; go_big_quiet_op; go_big_quiet_on)))
    refine wpQuiet_nil ?_
    unfold wpPl
    refine NoPanic.normal ?_
    have q13 := hx.bx.cell 13
    have q7 := hx.bx.cell 7
    have q10 := hx.bx.cell 10
    go_upto_region 5 with fail
    have z1 : ∀ t : Tw (fun w' => w'.cell? ⟨W0.heap.size, 13, none⟩ = some (.int .i64 pa) ∧ w'.cell? ⟨gw, 1, none⟩ = some (.bool out) ∧ w'.cell? ⟨W0.heap.size, 10, none⟩ = some (.int .i64 ip)), t.w.cell? ⟨W0.heap.size, 10, none⟩ = some (.int .i64 ip) := fun t => t.h.2.2
    have z2 : ∀ t : Tw (fun w' => w'.cell? ⟨W0.heap.size, 13, none⟩ = some (.int .i64 pa) ∧ w'.cell? ⟨gw, 1, none⟩ = some (.bool out) ∧ w'.cell? ⟨W0.heap.size, 10, none⟩ = some (.int .i64 ip)), t.w.cell? ⟨gw, 1, none⟩ = some (.bool out) := fun t => t.h.2.1
    have ne : Nonempty (Tw (fun w' => w'.cell? ⟨W0.heap.size, 13, none⟩ = some (.int .i64 pa) ∧ w'.cell? ⟨gw, 1, none⟩ = some (.bool out) ∧ w'.cell? ⟨W0.heap.size, 10, none⟩ = some (.int .i64 ip))) := ⟨⟨_, q13, hx.wr.1.cell 1, q10⟩⟩
    replace hx := hx.drew
    refine wp_region_plan (fun w' => w'.cell? ⟨W0.heap.size, 13, none⟩ = some (.int .i64 pa) ∧ w'.cell? ⟨gw, 1, none⟩ = some (.bool out) ∧ w'.cell? ⟨W0.heap.size, 10, none⟩ = some (.int .i64 ip)) [(0, true), (1, true), (2, true), (3, true), (4, true), (5, true), (6, true), (7, true), (8, true), (9, true), (10, true), (11, true), (12, true), (13, false)] (by kernel_rfl) (by kernel_rfl) (by kernel_rfl) (by kernel_rfl) ⟨hx.bx.cell 13, hx.wr.1.cell 1, hx.bx.cell 10⟩ ?_
    refine wpPl_qs 13 _ _ _ (by kernel_rfl) (by kernel_rfl) (by simp) ?_
    unfold clsS
    simp only [List.take_succ_cons, List.take_zero, List.drop_succ_cons, List.drop_zero, List.filterMap_cons, List.filterMap_nil, List.getElem?_toArray, List.getElem?_cons_zero, List.getElem?_cons_succ]
    repeat (first
      | go_big_quiet_skip
      | (go_big_quiet_want; go_big_quiet_op; go_big_quiet_on)
      | (refine id (?_ : wpQuiet _ _ _ _ (_ :: _) _); first | go_big_quiet_skip | (go_big_quiet_want; go_big_quiet_op; go_big_quiet_on)))
    refine wpQuiet_nil ?_
    refine wpPl_e _ (by rfl) (by kernel_rfl) (fun K hK => ?_)
    go_simp
    refine (g2.out _ hx.wr).mono ?_
    rintro e w2 ⟨rfl, h2, u2⟩
    have hy := hx.step h2 u2
    refine hK _ _ ⟨hy.bx.cell 13, hy.wr.1.cell 1, hy.bx.cell 10⟩ ?_
    clear hK K hy z1 z2 ne
    unfold wpPl
    refine NoPanic.normal ?_
    replace hx := hx.step h2 u2
    clear h2 u2 q13 q7 q10
    go_wp2_with fail
    refine (g5.out _ _ hx.wr).mono ?_
    rintro e w3 ⟨rfl, h3, u3⟩
    replace hx := hx.step h3 u3
    clear h3 u3
    have r0 := hx.wr.1.cell 0
    go_wp2_with fail
    refine (g7.out _ _ hx.wr).mono ?_
    rintro e w4 ⟨rfl, rfl⟩
    go_wp2_with fail
    refine (g6.out _ _ hx.wr _ (hbd _ hx.wr.bd)).mono ?_
    rintro e w5 ⟨rfl, h5, u5⟩
    replace hx := hx.step h5 u5
    clear h5 u5 r0
    go_wp2
    go_end0
    exact ⟨rfl, hx.wr, hx.up⟩
end Go.Proofs.YtbckoohljkmahaaGreat
namespace Go.Proofs.YtbckoohljkmahaaGreat
set_option linter.unusedVariables false
set_option linter.unusedSimpArgs false
open Go.RowKit
set_option maxRecDepth 100000 in
set_option maxHeartbeats 1000000 in
theorem Clone_any (l : List Int) (b o len c B : Nat) (w : World) (hr : Rd .u8 w B (some ⟨b, o, none⟩) len l) (hB : B ≤ w.heap.size) (hl : len ≤ 60000) :
    Calls Tryz.prog 102 #[.slice (some ⟨b, o, none⟩) len c] w fun e w' => ∃ v', e = .returned v' ∧ Own .u8 5 w' w.heap.size v' l ∧ Below w.heap.size w w' := by
  obtain ⟨i0, hi, hz0, hz1, hz2⟩ := info_parts info_u8_
  have own0 := Own.new .u8 w 5 w.heap.size (Nat.le_refl _) [] (by simp) #[] rfl 0 rfl (by simp)
  have hr2 := (hr.alloc hB (.cells #[] 5))
  have bel0 := bel_alloc w (.cells #[] 5)
  have hnil := run_eql_slice_nil (P := Tryz.prog) w 22 5 (some ⟨b, o, none⟩) len c Tryz.underlying22
  go_enter Tryz.func102, Tryz.ntmps102
  go_wp2_with (at_builtin; refine wpList_app _ rfl (.tmp 5) (.tmp 6) 22 rfl .u8 w.heap.size 5 i0 (.int .u8 0) 1 Tryz.underlying22 hi hz0 hz1 hz2 rfl (.slice (some ⟨w.heap.size, 0, none⟩) 0 0) rfl [] own0 B _ _ _ rfl l hr2 (by simp; omega) (by decide) (by simp) ?_; intro v1 w1 own1 hg1 hv1; rw [List.nil_append] at own1; have bel1 : Below w.heap.size w w1 := bel0.grown hg1 (by simp) (fun k h => by simp [Value.ownBlock] at h; omega))
  go_ret
  exact ⟨_, rfl, own1, bel1⟩
end Go.Proofs.YtbckoohljkmahaaGreat
namespace Go.Proofs.YtbckoohljkmahaaGreat
set_option linter.unusedVariables false
set_option linter.unusedSimpArgs false
open Go.RowKit
theorem rwhd_size : (Tryz.prog.info? 105).map (·.size) = some 6 := by kernel_rfl
theorem Own.lower {k : IntKind} {e : TypeId} {w : World} {base base' : Nat} {v : Value} {l : List Int} (h : Own k e w base v l) (hb : base' ≤ base) : Own k e w base' v l := by
  refine ⟨⟨h.row.1, ?_⟩, h.rng⟩
  rcases h.row.2 with hn | ⟨g, cap, cur, hv, hg, rest⟩
  · exact .inl hn
  · exact .inr ⟨g, cap, cur, hv, by omega, rest⟩
theorem rw_bds {l : List Int} (hl : ∀ x, x ∈ l → 0 ≤ x ∧ x ≤ 255) (h : getE l = 0) : (0 ≤ (hdIf l 0).src ∧ (hdIf l 0).src ≤ 4294967295) ∧ (0 ≤ (hdIf l 0).dst ∧ (hdIf l 0).dst ≤ 4294967295) := by
  have h20 : 20 ≤ l.length := by
    rcases Nat.lt_or_ge l.length 20 with hh | hh
    · exfalso
      unfold getE shapeE at h
      rw [if_pos hh] at h
      simp at h
    · exact hh
  unfold hdIf
  rw [if_pos rfl]
  exact ⟨n4_bd hl (by omega), n4_bd hl (by omega)⟩
/-- what a rewrite tells -/
def ChgR (w : World) (E : Int) (L : List Int) (e : Ending) (w' : World) : Prop :=
  (∃ v, e = .returned (.tuple #[v, .int .i64 E]) ∧ (E = 0 → Own .u8 5 w' w.heap.size v L) ∧ (E ≠ 0 → v = .slice none 0 0)) ∧ Below w.heap.size w w'
section
variable (out : Bool) (l : List Int) (A : Option Addr) (len c B : Nat) (addr port : Int) (w : World) (hr : Rd .u8 w B A len l) (hB : B ≤ w.heap.size) (hlc : len ≤ c) (hcm : c ≤ 9223372036854775807) (hl : len ≤ 60000)
include hr hB hlc hcm hl
set_option maxRecDepth 100000 in
set_option maxHeartbeats 1000000 in
theorem change_head (hE : getE l ≠ 0) :
    Calls Tryz.prog 78 #[.slice A len c, .bool out, .int .u32 addr, .int .u16 port] w (ChgR w (getE l) []) := by
  have hget := fun W (h : Below w.heap.size w W) => Get_any l _ len c w.heap.size W ((hr.more hB).below h) h.size hlc hcm (by omega)
  have hz : hdIf l (getE l) = Hd.z := by unfold hdIf; rw [if_neg hE]
  rw [hz] at hget
  simp only [Hd.z, Hd.val] at hget
  clear hz
  have d1 : (getE l != 0) = true := by simpa using hE
  generalize getE l = E at *
  replace hget := Lib.hid hget
  replace hE := Lib.hid hE
  go_enter Tryz.func78, Tryz.ntmps78
  go_wp2_with fail
  refine (hget.out _ (Below.refl _ _)).mono ?_
  rintro e w1 ⟨rfl, hb1⟩
  go_wp2_with (refine wpList_stRow rfl rfl rfl rfl rfl (Blk.new w1 _ _) rwhd_size rfl (by simp [Value.oneCell']) ?_)
  go_ret2
  exact ⟨⟨_, rfl, fun h => absurd h hE.out, fun _ => rfl⟩, below_setRow (hb1.alloc hb1.size _) hb1.size _⟩
set_option maxRecDepth 100000 in
set_option maxHeartbeats 1000000 in
theorem change_part (hE : getE l = 0) (hE2 : (getR (hdIf l 0) l).1 ≠ 0) :
    Calls Tryz.prog 78 #[.slice A len c, .bool out, .int .u32 addr, .int .u16 port] w (ChgR w (getR (hdIf l 0) l).1 []) := by
  have hb := rw_bds (fun x hx => inr_u8 (hr.rng x hx)) hE
  have hget := fun W (h : Below w.heap.size w W) => Get_any l _ len c w.heap.size W ((hr.more hB).below h) h.size hlc hcm (by omega)
  have hpg := fun W (h : Below w.heap.size w W) => PGet_any (hdIf l 0) l _ len c w.heap.size W ((hr.more hB).below h) h.size hlc hcm (by omega) hb.1 hb.2
  rw [hE] at hget
  clear hb hE
  generalize getR (hdIf l 0) l = R at *
  generalize hdIf l 0 = H at *
  obtain ⟨h0, h1, h2, h3, h4, h5⟩ := H
  obtain ⟨E, ⟨pr, sr, ds, fl, ki, co, er, ⟨i0, i1, i2, i3, i4, i5⟩, pa, ba⟩⟩ := R
  simp only [Hd.val, Tells, Pt.val] at hget hpg
  replace hget := Lib.hid hget
  replace hpg := Lib.hid hpg
  simp only at hE2 ⊢
  have hE3 : (E != 0) = true := by simpa using hE2
  replace hE2 := Lib.hid hE2
  go_enter Tryz.func78, Tryz.ntmps78
  go_wp2_with fail
  refine (hget.out _ (Below.refl _ _)).mono ?_
  rintro e w1 ⟨rfl, hb1⟩
  have bel := hb1
  clear hb1 hget
  have bh := (Blk.new w1 105 #[.int .i64 0, .int .i64 0, .int .i64 0, .int .i64 0, .int .u32 0, .int .u32 0]).setRow #[.int .i64 h0, .int .i64 h1, .int .i64 h2, .int .i64 h3, .int .u32 h4, .int .u32 h5]
  replace bel := below_setRow (bel.alloc bel.size (.cells #[.int .i64 0, .int .i64 0, .int .i64 0, .int .i64 0, .int .u32 0, .int .u32 0] 105)) bel.size #[.int .i64 h0, .int .i64 h1, .int .i64 h2, .int .i64 h3, .int .u32 h4, .int .u32 h5]
  go_wp2_with (first
    | (refine wpList_stRow rfl rfl rfl rfl rfl (Blk.new w1 _ _) rwhd_size rfl (by simp [Value.oneCell']) ?_; generalize (w1.alloc (.cells #[.int .i64 0, .int .i64 0, .int .i64 0, .int .i64 0, .int .u32 0, .int .u32 0] 105)).setRow w1.heap.size #[.int .i64 h0, .int .i64 h1, .int .i64 h2, .int .i64 h3, .int .u32 h4, .int .u32 h5] = W1 at *; generalize w1.heap.size = g6 at *)
    | (refine wpList_ldRow rfl rfl rfl bh Tryz.underlying105 rwhd_size ?_))
  refine (hpg.out _ bel).mono ?_
  rintro e w2 ⟨rfl, hb2⟩
  replace bh := bh.bel hb2
  replace bel := bel_after bel hb2
  clear hb2 hpg
  have hhl := bh.lt
  have bp := (Blk.new w2 107 #[.int .i64 0, .int .u16 0, .int .u16 0, .int .i64 0, .int .i64 0, .int .i64 0, .bool false, .int .i64 0, .int .i64 0, .int .i64 0, .int .i64 0, .int .u32 0, .int .u32 0, .int .i64 0, .bool false]).setRow #[.int .i64 pr, .int .u16 sr, .int .u16 ds, .int .i64 fl, .int .i64 ki, .int .i64 co, .bool er, .int .i64 i0, .int .i64 i1, .int .i64 i2, .int .i64 i3, .int .u32 i4, .int .u32 i5, .int .i64 pa, .bool ba]
  replace bh := (bh.alloc (.cells #[.int .i64 0, .int .u16 0, .int .u16 0, .int .i64 0, .int .i64 0, .int .i64 0, .bool false, .int .i64 0, .int .i64 0, .int .i64 0, .int .i64 0, .int .u32 0, .int .u32 0, .int .i64 0, .bool false] 107)).setRow_far (g' := w2.heap.size) (by omega) #[.int .i64 pr, .int .u16 sr, .int .u16 ds, .int .i64 fl, .int .i64 ki, .int .i64 co, .bool er, .int .i64 i0, .int .i64 i1, .int .i64 i2, .int .i64 i3, .int .u32 i4, .int .u32 i5, .int .i64 pa, .bool ba]
  replace bel := below_setRow (bel.alloc bel.size (.cells #[.int .i64 0, .int .u16 0, .int .u16 0, .int .i64 0, .int .i64 0, .int .i64 0, .bool false, .int .i64 0, .int .i64 0, .int .i64 0, .int .i64 0, .int .u32 0, .int .u32 0, .int .i64 0, .bool false] 107)) bel.size #[.int .i64 pr, .int .u16 sr, .int .u16 ds, .int .i64 fl, .int .i64 ki, .int .i64 co, .bool er, .int .i64 i0, .int .i64 i1, .int .i64 i2, .int .i64 i3, .int .u32 i4, .int .u32 i5, .int .i64 pa, .bool ba]
  go_wp2_with (refine wpList_stRow rfl rfl rfl rfl rfl (Blk.new w2 _ _) pt_size rfl (by simp [Value.oneCell']) ?_)
  go_ret2
  exact ⟨⟨_, rfl, fun h => absurd h hE2.out, fun _ => rfl⟩, bel⟩
end
/-- the writer, beside the boxes of head and part -/
structure ChS (w W : World) (gw g n c gh gp : Nat) (out : Bool) (X : List Int) (hv pv : Array Value) : Prop where
  wr : Wr W w.heap.size gw g n c out X
  bh : Blk W gh 105 hv
  bp : Blk W gp 107 pv
  bel : Below w.heap.size w W
  ne : gh ≠ g ∧ gp ≠ g
theorem ChS.step {w W w' : World} {gw g n c gh gp : Nat} {out : Bool} {X Y : List Int} {hv pv : Array Value} (h : ChS w W gw g n c gh gp out X hv pv) (h1 : Wr w' w.heap.size gw g n c out Y) (h2 : Upd (fun k => k = g) W w') : ChS w w' gw g n c gh gp out Y hv pv :=
  ⟨h1, h.bh.upd h2 h.ne.1, h.bp.upd h2 h.ne.2, h.bel.trans (h2.below (B := w.heap.size) h.bel.size (fun k hk e => by have := h1.2.2.2.1; omega)), h.ne⟩
section
variable (out : Bool) (l : List Int) (A : Option Addr) (len c B : Nat) (addr port : Int) (w : World) (hr : Rd .u8 w B A len l) (hB : B ≤ w.heap.size) (hlc : len ≤ c) (hcm : c ≤ 9223372036854775807) (hl : len ≤ 60000)
  (sz m : Nat) (h2 h3 h4 h5 : Int) (ha : 0 ≤ addr ∧ addr ≤ 4294967295) (hport : 0 ≤ port ∧ port ≤ 65535) (Y : List Int)
include hr hB hlc hcm hl
set_option maxRecDepth 100000 in
set_option maxHeartbeats 4000000 in
theorem change_ok (pr sr ds fl ki co i0 i1 i2 i3 i4 i5 pa : Int) (er ba : Bool) (hE : getE l = 0) (hH : hdIf l 0 = ⟨sz, m, h2, h3, h4, h5⟩) (hR : getR (hdIf l 0) l = (0, ⟨pr, sr, ds, fl, ki, co, er, ⟨i0, i1, i2, i3, i4, i5⟩, pa, ba⟩)) (hm : m ≤ len) (hm2 : m ≤ 1500) (hsz : 20 ≤ sz) (hszm : sz + 8 ≤ m)
    (herr : er = true → ∃ isz pat : Nat, i0 = isz ∧ pa = pat ∧ pat + isz + 8 ≤ m ∧ 20 ≤ isz ∧ sz + 8 ≤ pat + isz) (hY : Hid (chgW (l.take m) ⟨sz, m, h2, h3, h4, h5⟩ ⟨pr, sr, ds, fl, ki, co, er, ⟨i0, i1, i2, i3, i4, i5⟩, pa, ba⟩ out addr port = Y)) (ha : 0 ≤ addr ∧ addr ≤ 4294967295) (hport : 0 ≤ port ∧ port ≤ 65535) :
    Calls Tryz.prog 78 #[.slice A len c, .bool out, .int .u32 addr, .int .u16 port] w (ChgR w 0 Y) := by
  obtain ⟨b, o, rfl, _, _⟩ := hr.cel (by omega)
  have hb := rw_bds (fun x hx => inr_u8 (hr.rng x hx)) hE
  have hget := fun W (h : Below w.heap.size w W) => Get_any l _ len c w.heap.size W ((hr.more hB).below h) h.size hlc hcm (by omega)
  have hpg := fun W (h : Below w.heap.size w W) => PGet_any (hdIf l 0) l _ len c w.heap.size W ((hr.more hB).below h) h.size hlc hcm (by omega) hb.1 hb.2
  rw [hE] at hget
  rw [hR] at hpg
  rw [hH] at hget hpg
  clear hb hE hH hR
  simp only [Hd.val, Tells, Pt.val] at hget hpg
  have hcl := fun W (h : Below w.heap.size w W) => Clone_any (l.take m) b o m c w.heap.size W (((hr.take hm).more hB).below h) h.size (by omega)
  have hXm : Hid ((l.take m).length = m) := Lib.hid (by rw [List.length_take, hr.len]; omega)
  have hl8 : ∀ x, x ∈ l.take m → 0 ≤ x ∧ x ≤ 255 := fun x hx => inr_u8 (hr.rng x (List.mem_of_mem_take hx))
  clear hr
  generalize l.take m = X at *
  have hadr := fun gw g c1 W' (h : Wr W' w.heap.size gw g m c1 out X) => waddr_any w.heap.size gw g m c1 out X 0 out addr W' h (by omega) ha
  have hb := addrAt_bd 0 out
  have ho := n4_bd hl8 (i := addrAt 0 out) (by rw [hXm.out]; omega)
  unfold chgW at hY
  simp only [] at hY
  generalize addrL X 0 out addr = X1 at *
  generalize n4 X (addrAt 0 out) = old at *
  clear hl8 hb
  replace hget := Lib.hid hget
  replace hpg := Lib.hid hpg
  replace hcl := Lib.hid hcl
  replace hadr := Lib.hid hadr
  cases er with
  | true =>
    obtain ⟨isz, pat, rfl, rfl, e1, e2, e3⟩ := herr rfl
    have hin := fun gw g c1 W' (h : Wr W' w.heap.size gw g m c1 out X1) (hc1 : m ≤ c1) (hc2 : c1 ≤ 9223372036854775807) => winner_any w.heap.size gw g m c1 out X1 pat isz sz pr sr ds fl ki co i1 i2 i3 i4 i5 true ba addr port W' h (by omega) e2 hsz e3 (by omega) hc1 hc2 ha hport
    simp only [if_true, Int.toNat_natCast] at hY
    replace hin := Lib.hid hin
    clear herr
    have h1m : (0 : Int) ≤ (m : Int) := by omega
    have h2m : (m : Int) ≤ (c : Int) := by omega
    have h3m : m ≤ c := by omega
    go_enter Tryz.func78, Tryz.ntmps78
    go_wp2_with fail
    refine (hget.out _ (Below.refl _ _)).mono ?_
    rintro e w1 ⟨rfl, hb1⟩
    have bel := hb1
    clear hb1 hget
    have bh := (Blk.new w1 105 #[.int .i64 0, .int .i64 0, .int .i64 0, .int .i64 0, .int .u32 0, .int .u32 0]).setRow #[.int .i64 sz, .int .i64 m, .int .i64 h2, .int .i64 h3, .int .u32 h4, .int .u32 h5]
    replace bel := below_setRow (bel.alloc bel.size (.cells #[.int .i64 0, .int .i64 0, .int .i64 0, .int .i64 0, .int .u32 0, .int .u32 0] 105)) bel.size #[.int .i64 sz, .int .i64 m, .int .i64 h2, .int .i64 h3, .int .u32 h4, .int .u32 h5]
    go_wp2_with (first
      | (refine wpList_stRow rfl rfl rfl rfl rfl (Blk.new w1 _ _) rwhd_size rfl (by simp [Value.oneCell']) ?_; generalize (w1.alloc (.cells #[.int .i64 0, .int .i64 0, .int .i64 0, .int .i64 0, .int .u32 0, .int .u32 0] 105)).setRow w1.heap.size #[.int .i64 sz, .int .i64 m, .int .i64 h2, .int .i64 h3, .int .u32 h4, .int .u32 h5] = W1 at *; generalize w1.heap.size = g6 at *)
      | (refine wpList_ldRow rfl rfl rfl bh Tryz.underlying105 rwhd_size ?_))
    refine (hpg.out _ bel).mono ?_
    rintro e w2 ⟨rfl, hb2⟩
    replace bh := bh.bel hb2
    replace bel := bel_after bel hb2
    clear hb2 hpg
    have hhl := bh.lt
    have bp := (Blk.new w2 107 #[.int .i64 0, .int .u16 0, .int .u16 0, .int .i64 0, .int .i64 0, .int .i64 0, .bool false, .int .i64 0, .int .i64 0, .int .i64 0, .int .i64 0, .int .u32 0, .int .u32 0, .int .i64 0, .bool false]).setRow #[.int .i64 pr, .int .u16 sr, .int .u16 ds, .int .i64 fl, .int .i64 ki, .int .i64 co, .bool true, .int .i64 isz, .int .i64 i1, .int .i64 i2, .int .i64 i3, .int .u32 i4, .int .u32 i5, .int .i64 pat, .bool ba]
    replace bh := (bh.alloc (.cells #[.int .i64 0, .int .u16 0, .int .u16 0, .int .i64 0, .int .i64 0, .int .i64 0, .bool false, .int .i64 0, .int .i64 0, .int .i64 0, .int .i64 0, .int .u32 0, .int .u32 0, .int .i64 0, .bool false] 107)).setRow_far (g' := w2.heap.size) (by omega) #[.int .i64 pr, .int .u16 sr, .int .u16 ds, .int .i64 fl, .int .i64 ki, .int .i64 co, .bool true, .int .i64 isz, .int .i64 i1, .int .i64 i2, .int .i64 i3, .int .u32 i4, .int .u32 i5, .int .i64 pat, .bool ba]
    replace bel := below_setRow (bel.alloc bel.size (.cells #[.int .i64 0, .int .u16 0, .int .u16 0, .int .i64 0, .int .i64 0, .int .i64 0, .bool false, .int .i64 0, .int .i64 0, .int .i64 0, .int .i64 0, .int .u32 0, .int .u32 0, .int .i64 0, .bool false] 107)) bel.size #[.int .i64 pr, .int .u16 sr, .int .u16 ds, .int .i64 fl, .int .i64 ki, .int .i64 co, .bool true, .int .i64 isz, .int .i64 i1, .int .i64 i2, .int .i64 i3, .int .u32 i4, .int .u32 i5, .int .i64 pat, .bool ba]
    have q1 := bh.cell 1
    have hgl2 := bp.lt
    go_wp2_with (refine wpList_stRow rfl rfl rfl rfl rfl (Blk.new w2 _ _) pt_size rfl (by simp [Value.oneCell']) ?_; generalize (w2.alloc (.cells #[.int .i64 0, .int .u16 0, .int .u16 0, .int .i64 0, .int .i64 0, .int .i64 0, .bool false, .int .i64 0, .int .i64 0, .int .i64 0, .int .i64 0, .int .u32 0, .int .u32 0, .int .i64 0, .bool false] 107)).setRow w2.heap.size #[.int .i64 pr, .int .u16 sr, .int .u16 ds, .int .i64 fl, .int .i64 ki, .int .i64 co, .bool true, .int .i64 isz, .int .i64 i1, .int .i64 i2, .int .i64 i3, .int .u32 i4, .int .u32 i5, .int .i64 pat, .bool ba] = W2 at *; generalize w2.heap.size = g8 at *)
    refine (hcl.out _ bel).mono ?_
    rintro e w3 ⟨v3, rfl, own3, hb3⟩
    replace own3 := own3.lower bel.size
    replace bh := bh.bel hb3
    replace bp := bp.bel hb3
    replace bel := bel_after bel hb3
    have hgl := bh.lt
    clear hb3 hcl q1
    obtain ⟨g, c1, rfl, hc1, hc2, hg1, hg2⟩ := own3.formG hXm.out (by omega)
    unfold maxLen at hc2
    have hne1 := own3.ne bh (by decide)
    have hne2 := own3.ne bp (by decide)
    have hs : ChS w (w3.alloc (.cells #[.slice (some ⟨g, 0, none⟩) m c1, .bool out] 169)) w3.heap.size g m c1 g6 g8 out X #[.int .i64 sz, .int .i64 m, .int .i64 h2, .int .i64 h3, .int .u32 h4, .int .u32 h5] #[.int .i64 pr, .int .u16 sr, .int .u16 ds, .int .i64 fl, .int .i64 ki, .int .i64 co, .bool true, .int .i64 isz, .int .i64 i1, .int .i64 i2, .int .i64 i3, .int .u32 i4, .int .u32 i5, .int .i64 pat, .bool ba] :=
      ⟨⟨Blk.new _ _ _, own3.alloc _, hXm.out, hg1, by omega⟩, bh.alloc _, bp.alloc _, bel.alloc bel.size _, hne1, hne2⟩
    clear bh bp bel own3 hne1 hne2 hgl hhl hgl2 h1m h2m h3m
    go_upto_region 8 with fail
    generalize w3.alloc (.cells #[.slice (some ⟨g, 0, none⟩) m c1, .bool out] 169) = W3 at *
    generalize w3.heap.size = gw at *
    go_wp2_with fail
    refine (hadr.out _ _ _ _ hs.wr).mono ?_
    rintro e w4 ⟨rfl, h4', u4⟩
    replace hs := hs.step h4' u4
    clear h4' u4 hadr
    have q0 := hs.bh.cell 0
    have p0 := hs.bp.cell 0
    have p6 := hs.bp.cell 6
    go_wp2_with (refine wpList_ldRow rfl rfl rfl hs.bp Tryz.underlying107 pt_size ?_)
    refine (hin.out _ _ _ _ hs.wr hc1 hc2).mono ?_
    rintro e w5 ⟨rfl, h5', u5⟩
    replace hs := hs.step h5' u5
    have r0 := hs.wr.1.cell 0
    have hown := hs.wr.2.1
    have hbel := hs.bel
    clear q0 p0 p6 h5' u5
    go_wp2
    go_ret2
    exact ⟨⟨_, rfl, fun _ => hY.out ▸ hown, fun h => absurd rfl h⟩, hbel⟩
  | false =>
    clear herr
    simp only [Bool.false_eq_true, if_false, Int.toNat_natCast] at hY
    by_cases h1 : pr = 1
    · subst h1
      have hin := fun gw g c1 W' (h : Wr W' w.heap.size gw g m c1 out X1) => wecho_any w.heap.size gw g m c1 out X1 sz port W' h (by omega) hport
      simp only [if_true] at hY
      replace hin := Lib.hid hin
      have h1m : (0 : Int) ≤ (m : Int) := by omega
      have h2m : (m : Int) ≤ (c : Int) := by omega
      have h3m : m ≤ c := by omega
      go_enter Tryz.func78, Tryz.ntmps78
      go_wp2_with fail
      refine (hget.out _ (Below.refl _ _)).mono ?_
      rintro e w1 ⟨rfl, hb1⟩
      have bel := hb1
      clear hb1 hget
      have bh := (Blk.new w1 105 #[.int .i64 0, .int .i64 0, .int .i64 0, .int .i64 0, .int .u32 0, .int .u32 0]).setRow #[.int .i64 sz, .int .i64 m, .int .i64 h2, .int .i64 h3, .int .u32 h4, .int .u32 h5]
      replace bel := below_setRow (bel.alloc bel.size (.cells #[.int .i64 0, .int .i64 0, .int .i64 0, .int .i64 0, .int .u32 0, .int .u32 0] 105)) bel.size #[.int .i64 sz, .int .i64 m, .int .i64 h2, .int .i64 h3, .int .u32 h4, .int .u32 h5]
      go_wp2_with (first
        | (refine wpList_stRow rfl rfl rfl rfl rfl (Blk.new w1 _ _) rwhd_size rfl (by simp [Value.oneCell']) ?_; generalize (w1.alloc (.cells #[.int .i64 0, .int .i64 0, .int .i64 0, .int .i64 0, .int .u32 0, .int .u32 0] 105)).setRow w1.heap.size #[.int .i64 sz, .int .i64 m, .int .i64 h2, .int .i64 h3, .int .u32 h4, .int .u32 h5] = W1 at *; generalize w1.heap.size = g6 at *)
        | (refine wpList_ldRow rfl rfl rfl bh Tryz.underlying105 rwhd_size ?_))
      refine (hpg.out _ bel).mono ?_
      rintro e w2 ⟨rfl, hb2⟩
      replace bh := bh.bel hb2
      replace bel := bel_after bel hb2
      clear hb2 hpg
      have hhl := bh.lt
      have bp := (Blk.new w2 107 #[.int .i64 0, .int .u16 0, .int .u16 0, .int .i64 0, .int .i64 0, .int .i64 0, .bool false, .int .i64 0, .int .i64 0, .int .i64 0, .int .i64 0, .int .u32 0, .int .u32 0, .int .i64 0, .bool false]).setRow #[.int .i64 1, .int .u16 sr, .int .u16 ds, .int .i64 fl, .int .i64 ki, .int .i64 co, .bool false, .int .i64 i0, .int .i64 i1, .int .i64 i2, .int .i64 i3, .int .u32 i4, .int .u32 i5, .int .i64 pa, .bool ba]
      replace bh := (bh.alloc (.cells #[.int .i64 0, .int .u16 0, .int .u16 0, .int .i64 0, .int .i64 0, .int .i64 0, .bool false, .int .i64 0, .int .i64 0, .int .i64 0, .int .i64 0, .int .u32 0, .int .u32 0, .int .i64 0, .bool false] 107)).setRow_far (g' := w2.heap.size) (by omega) #[.int .i64 1, .int .u16 sr, .int .u16 ds, .int .i64 fl, .int .i64 ki, .int .i64 co, .bool false, .int .i64 i0, .int .i64 i1, .int .i64 i2, .int .i64 i3, .int .u32 i4, .int .u32 i5, .int .i64 pa, .bool ba]
      replace bel := below_setRow (bel.alloc bel.size (.cells #[.int .i64 0, .int .u16 0, .int .u16 0, .int .i64 0, .int .i64 0, .int .i64 0, .bool false, .int .i64 0, .int .i64 0, .int .i64 0, .int .i64 0, .int .u32 0, .int .u32 0, .int .i64 0, .bool false] 107)) bel.size #[.int .i64 1, .int .u16 sr, .int .u16 ds, .int .i64 fl, .int .i64 ki, .int .i64 co, .bool false, .int .i64 i0, .int .i64 i1, .int .i64 i2, .int .i64 i3, .int .u32 i4, .int .u32 i5, .int .i64 pa, .bool ba]
      have q1 := bh.cell 1
      have hgl2 := bp.lt
      go_wp2_with (refine wpList_stRow rfl rfl rfl rfl rfl (Blk.new w2 _ _) pt_size rfl (by simp [Value.oneCell']) ?_; generalize (w2.alloc (.cells #[.int .i64 0, .int .u16 0, .int .u16 0, .int .i64 0, .int .i64 0, .int .i64 0, .bool false, .int .i64 0, .int .i64 0, .int .i64 0, .int .i64 0, .int .u32 0, .int .u32 0, .int .i64 0, .bool false] 107)).setRow w2.heap.size #[.int .i64 1, .int .u16 sr, .int .u16 ds, .int .i64 fl, .int .i64 ki, .int .i64 co, .bool false, .int .i64 i0, .int .i64 i1, .int .i64 i2, .int .i64 i3, .int .u32 i4, .int .u32 i5, .int .i64 pa, .bool ba] = W2 at *; generalize w2.heap.size = g8 at *)
      refine (hcl.out _ bel).mono ?_
      rintro e w3 ⟨v3, rfl, own3, hb3⟩
      replace own3 := own3.lower bel.size
      replace bh := bh.bel hb3
      replace bp := bp.bel hb3
      replace bel := bel_after bel hb3
      have hgl := bh.lt
      clear hb3 hcl q1
      obtain ⟨g, c1, rfl, hc1, hc2, hg1, hg2⟩ := own3.formG hXm.out (by omega)
      unfold maxLen at hc2
      have hne1 := own3.ne bh (by decide)
      have hne2 := own3.ne bp (by decide)
      have hs : ChS w (w3.alloc (.cells #[.slice (some ⟨g, 0, none⟩) m c1, .bool out] 169)) w3.heap.size g m c1 g6 g8 out X #[.int .i64 sz, .int .i64 m, .int .i64 h2, .int .i64 h3, .int .u32 h4, .int .u32 h5] #[.int .i64 1, .int .u16 sr, .int .u16 ds, .int .i64 fl, .int .i64 ki, .int .i64 co, .bool false, .int .i64 i0, .int .i64 i1, .int .i64 i2, .int .i64 i3, .int .u32 i4, .int .u32 i5, .int .i64 pa, .bool ba] :=
        ⟨⟨Blk.new _ _ _, own3.alloc _, hXm.out, hg1, by omega⟩, bh.alloc _, bp.alloc _, bel.alloc bel.size _, hne1, hne2⟩
      clear bh bp bel own3 hne1 hne2 hgl hhl hgl2 h1m h2m h3m
      go_upto_region 8 with fail
      generalize w3.alloc (.cells #[.slice (some ⟨g, 0, none⟩) m c1, .bool out] 169) = W3 at *
      generalize w3.heap.size = gw at *
      go_wp2_with fail
      refine (hadr.out _ _ _ _ hs.wr).mono ?_
      rintro e w4 ⟨rfl, h4', u4⟩
      replace hs := hs.step h4' u4
      clear h4' u4 hadr
      have q0 := hs.bh.cell 0
      have p0 := hs.bp.cell 0
      have p6 := hs.bp.cell 6
      go_wp2_with fail
      refine (hin.out _ _ _ _ hs.wr).mono ?_
      rintro e w5 ⟨rfl, h5', u5⟩
      replace hs := hs.step h5' u5
      have r0 := hs.wr.1.cell 0
      have hown := hs.wr.2.1
      have hbel := hs.bel
      clear q0 p0 p6 h5' u5
      go_wp2
      go_ret2
      exact ⟨⟨_, rfl, fun _ => hY.out ▸ hown, fun h => absurd rfl h⟩, hbel⟩
    · rw [if_neg h1] at hY
      have d1 : (pr == 1) = false := by simpa using h1
      have hin := fun gw g c1 W' (h : Wr W' w.heap.size gw g m c1 out X1) => wcar_any w.heap.size gw g m c1 out X1 sz pr out port old addr W' h (by omega) hport ho ha (by omega)
      replace hin := Lib.hid hin
      replace h1 := Lib.hid h1
      have h1m : (0 : Int) ≤ (m : Int) := by omega
      have h2m : (m : Int) ≤ (c : Int) := by omega
      have h3m : m ≤ c := by omega
      go_enter Tryz.func78, Tryz.ntmps78
      go_wp2_with fail
      refine (hget.out _ (Below.refl _ _)).mono ?_
      rintro e w1 ⟨rfl, hb1⟩
      have bel := hb1
      clear hb1 hget
      have bh := (Blk.new w1 105 #[.int .i64 0, .int .i64 0, .int .i64 0, .int .i64 0, .int .u32 0, .int .u32 0]).setRow #[.int .i64 sz, .int .i64 m, .int .i64 h2, .int .i64 h3, .int .u32 h4, .int .u32 h5]
      replace bel := below_setRow (bel.alloc bel.size (.cells #[.int .i64 0, .int .i64 0, .int .i64 0, .int .i64 0, .int .u32 0, .int .u32 0] 105)) bel.size #[.int .i64 sz, .int .i64 m, .int .i64 h2, .int .i64 h3, .int .u32 h4, .int .u32 h5]
      go_wp2_with (first
        | (refine wpList_stRow rfl rfl rfl rfl rfl (Blk.new w1 _ _) rwhd_size rfl (by simp [Value.oneCell']) ?_; generalize (w1.alloc (.cells #[.int .i64 0, .int .i64 0, .int .i64 0, .int .i64 0, .int .u32 0, .int .u32 0] 105)).setRow w1.heap.size #[.int .i64 sz, .int .i64 m, .int .i64 h2, .int .i64 h3, .int .u32 h4, .int .u32 h5] = W1 at *; generalize w1.heap.size = g6 at *)
        | (refine wpList_ldRow rfl rfl rfl bh Tryz.underlying105 rwhd_size ?_))
      refine (hpg.out _ bel).mono ?_
      rintro e w2 ⟨rfl, hb2⟩
      replace bh := bh.bel hb2
      replace bel := bel_after bel hb2
      clear hb2 hpg
      have hhl := bh.lt
      have bp := (Blk.new w2 107 #[.int .i64 0, .int .u16 0, .int .u16 0, .int .i64 0, .int .i64 0, .int .i64 0, .bool false, .int .i64 0, .int .i64 0, .int .i64 0, .int .i64 0, .int .u32 0, .int .u32 0, .int .i64 0, .bool false]).setRow #[.int .i64 pr, .int .u16 sr, .int .u16 ds, .int .i64 fl, .int .i64 ki, .int .i64 co, .bool false, .int .i64 i0, .int .i64 i1, .int .i64 i2, .int .i64 i3, .int .u32 i4, .int .u32 i5, .int .i64 pa, .bool ba]
      replace bh := (bh.alloc (.cells #[.int .i64 0, .int .u16 0, .int .u16 0, .int .i64 0, .int .i64 0, .int .i64 0, .bool false, .int .i64 0, .int .i64 0, .int .i64 0, .int .i64 0, .int .u32 0, .int .u32 0, .int .i64 0, .bool false] 107)).setRow_far (g' := w2.heap.size) (by omega) #[.int .i64 pr, .int .u16 sr, .int .u16 ds, .int .i64 fl, .int .i64 ki, .int .i64 co, .bool false, .int .i64 i0, .int .i64 i1, .int .i64 i2, .int .i64 i3, .int .u32 i4, .int .u32 i5, .int .i64 pa, .bool ba]
      replace bel := below_setRow (bel.alloc bel.size (.cells #[.int .i64 0, .int .u16 0, .int .u16 0, .int .i64 0, .int .i64 0, .int .i64 0, .bool false, .int .i64 0, .int .i64 0, .int .i64 0, .int .i64 0, .int .u32 0, .int .u32 0, .int .i64 0, .bool false] 107)) bel.size #[.int .i64 pr, .int .u16 sr, .int .u16 ds, .int .i64 fl, .int .i64 ki, .int .i64 co, .bool false, .int .i64 i0, .int .i64 i1, .int .i64 i2, .int .i64 i3, .int .u32 i4, .int .u32 i5, .int .i64 pa, .bool ba]
      have q1 := bh.cell 1
      have hgl2 := bp.lt
      go_wp2_with (refine wpList_stRow rfl rfl rfl rfl rfl (Blk.new w2 _ _) pt_size rfl (by simp [Value.oneCell']) ?_; generalize (w2.alloc (.cells #[.int .i64 0, .int .u16 0, .int .u16 0, .int .i64 0, .int .i64 0, .int .i64 0, .bool false, .int .i64 0, .int .i64 0, .int .i64 0, .int .i64 0, .int .u32 0, .int .u32 0, .int .i64 0, .bool false] 107)).setRow w2.heap.size #[.int .i64 pr, .int .u16 sr, .int .u16 ds, .int .i64 fl, .int .i64 ki, .int .i64 co, .bool false, .int .i64 i0, .int .i64 i1, .int .i64 i2, .int .i64 i3, .int .u32 i4, .int .u32 i5, .int .i64 pa, .bool ba] = W2 at *; generalize w2.heap.size = g8 at *)
      refine (hcl.out _ bel).mono ?_
      rintro e w3 ⟨v3, rfl, own3, hb3⟩
      replace own3 := own3.lower bel.size
      replace bh := bh.bel hb3
      replace bp := bp.bel hb3
      replace bel := bel_after bel hb3
      have hgl := bh.lt
      clear hb3 hcl q1
      obtain ⟨g, c1, rfl, hc1, hc2, hg1, hg2⟩ := own3.formG hXm.out (by omega)
      unfold maxLen at hc2
      have hne1 := own3.ne bh (by decide)
      have hne2 := own3.ne bp (by decide)
      have hs : ChS w (w3.alloc (.cells #[.slice (some ⟨g, 0, none⟩) m c1, .bool out] 169)) w3.heap.size g m c1 g6 g8 out X #[.int .i64 sz, .int .i64 m, .int .i64 h2, .int .i64 h3, .int .u32 h4, .int .u32 h5] #[.int .i64 pr, .int .u16 sr, .int .u16 ds, .int .i64 fl, .int .i64 ki, .int .i64 co, .bool false, .int .i64 i0, .int .i64 i1, .int .i64 i2, .int .i64 i3, .int .u32 i4, .int .u32 i5, .int .i64 pa, .bool ba] :=
        ⟨⟨Blk.new _ _ _, own3.alloc _, hXm.out, hg1, by omega⟩, bh.alloc _, bp.alloc _, bel.alloc bel.size _, hne1, hne2⟩
      clear bh bp bel own3 hne1 hne2 hgl hhl hgl2 h1m h2m h3m
      go_upto_region 8 with fail
      generalize w3.alloc (.cells #[.slice (some ⟨g, 0, none⟩) m c1, .bool out] 169) = W3 at *
      generalize w3.heap.size = gw at *
      go_wp2_with fail
      refine (hadr.out _ _ _ _ hs.wr).mono ?_
      rintro e w4 ⟨rfl, h4', u4⟩
      replace hs := hs.step h4' u4
      clear h4' u4 hadr
      have q0 := hs.bh.cell 0
      have p0 := hs.bp.cell 0
      have p6 := hs.bp.cell 6
      go_wp2_with fail
      refine (hin.out _ _ _ _ hs.wr).mono ?_
      rintro e w5 ⟨rfl, h5', u5⟩
      replace hs := hs.step h5' u5
      have r0 := hs.wr.1.cell 0
      have hown := hs.wr.2.1
      have hbel := hs.bel
      clear q0 p0 p6 h5' u5
      go_wp2
      go_ret2
      exact ⟨⟨_, rfl, fun _ => hY.out ▸ hown, fun h => absurd rfl h⟩, hbel⟩
end
end Go.Proofs.YtbckoohljkmahaaGreat
namespace Go.Proofs.YtbckoohljkmahaaGreat
set_option linter.unusedVariables false
set_option linter.unusedSimpArgs false
open Go.RowKit
theorem Upd.row (w : World) (g : Nat) (t : Array Value) : Upd (fun k => k = g) w (w.setRow g t) := ⟨rfl, rfl, rfl, by simp, fun k _ hS => setRow_other w g k t hS⟩
theorem Own.upd {k : IntKind} {e : TypeId} {w w' : World} {base : Nat} {v : Value} {l : List Int} {S : Nat → Prop} (h : Own k e w base v l) (hu : Upd S w w') (hS : ∀ g, v.ownBlock = some g → ¬ S g) : Own k e w' base v l := by
  refine ⟨⟨h.row.1, ?_⟩, h.rng⟩
  rcases h.row.2 with h1 | ⟨g, cap, cur, h1, h2, h3, h4⟩
  · exact .inl h1
  · exact .inr ⟨g, cap, cur, h1, h2, (hu.block g (Array.getElem?_eq_some_iff.1 h3).1 (hS g (by rw [h1]; rfl))).trans h3, h4⟩
end Go.Proofs.YtbckoohljkmahaaGreat
namespace Go.Proofs.YtbckoohljkmahaaGreat
set_option linter.unusedVariables false
set_option linter.unusedSimpArgs false
open Go.RowKit
theorem got_proto {X A B : List Int} {p : Pt} (hp : Pieces X A B) (hR : getR (hdOf X) X = (0, p)) : p.proto = (hdOf X).proto := by
  rw [hp.getR] at hR
  obtain ⟨c1, c2, c3, c4, _, _⟩ := ch_bds (a := 0) hp true (by omega)
  rcases getX_to hR with ⟨h1, h2⟩ | ⟨h1, h2⟩ | ⟨h1, h2⟩
  · rw [h1]
    unfold udpR at h2
    split at h2
    · cases h2
    split at h2
    · cases h2
    split at h2
    · cases h2
    simp only [Prod.mk.injEq, true_and] at h2
    rw [← h2]; rfl
  · rw [h1]
    unfold tcpR at h2
    split at h2
    · cases h2
    split at h2
    · cases h2
    split at h2
    · cases h2
    simp only [Prod.mk.injEq, true_and] at h2
    rw [← h2]; rfl
  · rw [h1]
    cases he : p.err with
    | false => exact (echo_again (h' := hdOf X) (src := true) (port := 0) hp.b8 (by omega) h2 he).2.1
    | true =>
      obtain ⟨E, I, J, _, _, _, _, _, _, _, _, _, _, _, h, _⟩ := err_of hp.b8 h2 he
      exact h
/-- what a walk wants to know of a frame that is got -/
theorem got_pre {X : List Int} {p : Pt} (h8 : Bytes8 X) (hE : getE X = 0) (hR : getR (hdOf X) X = (0, p)) : ∃ sz m : Nat, (hdOf X).size = sz ∧ (hdOf X).len = m ∧ 20 ≤ sz ∧ sz ≤ 60 ∧ sz + 8 ≤ m ∧ m ≤ 1500 ∧ m ≤ X.length ∧ p.proto = (hdOf X).proto ∧
    ((hdOf X).proto = 17 ∨ (hdOf X).proto = 6 ∨ (hdOf X).proto = 1) ∧
    (p.err = true → ∃ isz pat : Nat, p.inner.size = isz ∧ p.pat = pat ∧ pat + isz + 8 ≤ m ∧ 20 ≤ isz ∧ isz ≤ 60 ∧ sz + 8 ≤ pat + isz ∧ pat = sz + 8 ∧ p.proto = 1 ∧ (p.inner.proto = 17 ∨ p.inner.proto = 6 ∨ p.inner.proto = 1)) ∧
    (p.err = false → p.inner = Hd.z ∧ p.pat = 0) := by
  obtain ⟨A, B, hp⟩ := pieces h8 hE
  have hpr := got_proto hp hR
  rw [hp.getR] at hR
  have h15 := hp.ok.2.2.2.2.2.1
  obtain ⟨c1, c2, c3, c4, hs, hn⟩ := ch_bds (a := 0) hp true (by omega)
  have h20 := hp.ok.2.1
  have hle := hp.le
  have hsz := hp.sz
  have hB : 8 ≤ B.length ∧ ((hdOf X).proto = 17 ∨ (hdOf X).proto = 6 ∨ (hdOf X).proto = 1) ∧ (p.err = false → p.inner = Hd.z ∧ p.pat = 0) ∧ (p.err = true → icmpR (hdOf X) B = (0, p)) := by
    rcases getX_to hR with ⟨h1, h2⟩ | ⟨h1, h2⟩ | ⟨h1, h2⟩
    · unfold udpR at h2
      split at h2
      · cases h2
      split at h2
      · cases h2
      split at h2
      · cases h2
      simp only [Prod.mk.injEq, true_and] at h2
      subst h2
      exact ⟨by omega, .inl h1, fun _ => ⟨rfl, rfl⟩, fun h => by cases h⟩
    · unfold tcpR at h2
      split at h2
      · cases h2
      split at h2
      · cases h2
      split at h2
      · cases h2
      simp only [Prod.mk.injEq, true_and] at h2
      subst h2
      exact ⟨by omega, .inr (.inl h1), fun _ => ⟨rfl, rfl⟩, fun h => by cases h⟩
    · obtain ⟨hl, _⟩ := icmp_len h2
      refine ⟨hl, .inr (.inr h1), fun he => ?_, fun _ => h2⟩
      obtain ⟨_, hz⟩ := icmp_len h2
      unfold icmpR at h2
      rw [if_neg (by omega), if_neg (by simp [hz])] at h2
      split at h2
      · split at h2
        · cases h2
        · simp only [Prod.mk.injEq, true_and] at h2
          subst h2
          exact ⟨rfl, rfl⟩
      · split at h2
        · have := fault_err h2
          rw [he] at this; cases this
        · cases h2
  refine ⟨A.length, A.length + B.length, hs, by rw [hn]; omega, h20, hsz, by omega, h15, hle, hpr, hB.2.1, fun he => ?_, hB.2.2.1⟩
  obtain ⟨E, I, J, hBe, lE, lI, lI2, lJ, bE, bI, bJ, _, i1, i2, i3, i4, i5, i6, i7, i8, _⟩ := err_of hp.b8 (hB.2.2.2 he) he
  have hll : B.length = 8 + I.length + J.length := by rw [hBe, List.length_append, List.length_append]; omega
  exact ⟨I.length, A.length + 8, i1, by rw [i2, hs]; omega, by omega, lI, lI2, by omega, rfl, i3, by omega⟩
end Go.Proofs.YtbckoohljkmahaaGreat
namespace Go.Proofs.YtbckoohljkmahaaGreat
set_option linter.unusedVariables false
set_option linter.unusedSimpArgs false
open Go.RowKit
/-- a rewrite's error, and its frame -/
def rwE (l : List Int) : Int := if getE l ≠ 0 then getE l else (getR (hdOf l) l).1
def rwL (l : List Int) (out : Bool) (a port : Int) : List Int := if rwE l = 0 then chgW (l.take (hdOf l).len.toNat) (hdOf l) (getR (hdOf l) l).2 out a port else []
theorem rw_ok {l : List Int} (h : rwE l = 0) : getE l = 0 ∧ getR (hdOf l) l = (0, (getR (hdOf l) l).2) := by
  unfold rwE at h
  split at h
  · rename_i h1; exact absurd h h1
  · rename_i h1
    refine ⟨?_, by rw [← h]⟩
    rcases Decidable.em (getE l = 0) with e | e
    · exact e
    · exact absurd e h1
/-- what a rewrite tells of a frame that is got -/
theorem rw_again {l : List Int} (h8 : Bytes8 l) (h : rwE l = 0) (out : Bool) {a port : Int} (ha : 0 ≤ a ∧ a ≤ 4294967295) (hp : 0 ≤ port ∧ port ≤ 65535) : Again l (rwL l out a port) (hdOf l) (getR (hdOf l) l).2 out a port := by
  obtain ⟨h1, h2⟩ := rw_ok h
  unfold rwL
  rw [if_pos h]
  exact chg_got h8 h1 h2 ha hp
end Go.Proofs.YtbckoohljkmahaaGreat
namespace Go.Proofs.YtbckoohljkmahaaGreat
set_option linter.unusedVariables false
set_option linter.unusedSimpArgs false
open Go.RowKit
section
variable (out : Bool) (l : List Int) (A : Option Addr) (len c B : Nat) (addr port : Int) (w : World) (hr : Rd .u8 w B A len l) (hB : B ≤ w.heap.size) (hlc : len ≤ c) (hcm : c ≤ 9223372036854775807) (hl : len ≤ 60000) (ha : 0 ≤ addr ∧ addr ≤ 4294967295) (hport : 0 ≤ port ∧ port ≤ 65535)
include hr hB hlc hcm hl ha hport
theorem change_any : Calls Tryz.prog 78 #[.slice A len c, .bool out, .int .u32 addr, .int .u16 port] w (ChgR w (rwE l) (rwL l out addr port)) := by
  have h8 : Bytes8 l := fun x hx => inr_u8 (hr.rng x hx)
  by_cases h1 : getE l = 0
  · have eh : hdIf l 0 = hdOf l := rfl
    by_cases h2 : (getR (hdOf l) l).1 = 0
    · have e0 : rwE l = 0 := by unfold rwE; rw [if_neg (by simp [h1])]; exact h2
      obtain ⟨_, hR⟩ := rw_ok e0
      have hL : rwL l out addr port = chgW (l.take (hdOf l).len.toNat) (hdOf l) (getR (hdOf l) l).2 out addr port := by unfold rwL; rw [if_pos e0]
      rw [e0, hL]
      generalize (getR (hdOf l) l).2 = p at *
      obtain ⟨sz, m, s1, s2, s3, s4, s5, s6, s7, s8, s9, s10, _⟩ := got_pre h8 h1 hR
      rcases hH : hdOf l with ⟨H0, H1, H2, H3, H4, H5⟩
      simp only [hH] at s1 s2 s8 s9
      subst s1 s2
      obtain ⟨pr, sr, ds, fl, ki, co, er, ⟨i0, i1, i2, i3, i4, i5⟩, pa, ba⟩ := p
      refine change_ok out l A len c B addr port w hr hB hlc hcm hl sz m H2 H3 H4 H5 _ pr sr ds fl ki co i0 i1 i2 i3 i4 i5 pa er ba h1 (eh.trans hH) (by rw [eh]; rw [hH] at hR ⊢; exact hR) (by have := hr.len; omega) s6 s3 s5 (fun he => ?_) (Lib.hid rfl) ha hport
      obtain ⟨isz, pat, t1, t2, t3, t4, t5, t6, _⟩ := s10 he
      exact ⟨isz, pat, t1, t2, t3, t4, t6⟩
    · have e0 : rwE l = (getR (hdIf l 0) l).1 := by unfold rwE; rw [if_neg (by simp [h1]), eh]
      have hL : rwL l out addr port = [] := by unfold rwL; rw [if_neg (by rw [e0, eh]; exact h2)]
      rw [e0, hL]
      exact change_part out l A len c B addr port w hr hB hlc hcm hl h1 (by rw [eh]; exact h2)
  · have e0 : rwE l = getE l := by unfold rwE; rw [if_pos h1]
    have hL : rwL l out addr port = [] := by unfold rwL; rw [if_neg (by rw [e0]; exact h1)]
    rw [e0, hL]
    exact change_head out l A len c B addr port w hr hB hlc hcm hl h1
end
section
variable (l : List Int) (A : Option Addr) (len c B : Nat) (addr port : Int) (w : World) (hr : Rd .u8 w B A len l) (hB : B ≤ w.heap.size) (hlc : len ≤ c) (hcm : c ≤ 9223372036854775807) (hl : len ≤ 60000) (ha : 0 ≤ addr ∧ addr ≤ 4294967295) (hport : 0 ≤ port ∧ port ≤ 65535)
include hr hB hlc hcm hl ha hport
set_option maxRecDepth 100000 in
theorem RwOut_any : Calls Tryz.prog 73 #[.slice A len c, .int .u32 addr, .int .u16 port] w (ChgR w (rwE l) (rwL l true addr port)) := by
  have h := change_any true l A len c B addr port w hr hB hlc hcm hl ha hport
  generalize rwE l = E at *
  generalize rwL l true addr port = L at *
  replace h := Lib.hid h
  clear hr
  go_enter Tryz.func73, Tryz.ntmps73
  go_wp2_with fail
  refine h.out.mono ?_
  rintro e w1 ⟨⟨v, rfl, h1, h2⟩, hb⟩
  replace h1 := Lib.hid h1
  replace h2 := Lib.hid h2
  go_wp2
  go_ret2
  exact ⟨⟨_, rfl, h1.out, h2.out⟩, hb⟩
set_option maxRecDepth 100000 in
theorem RwIn_any : Calls Tryz.prog 51 #[.slice A len c, .int .u32 addr, .int .u16 port] w (ChgR w (rwE l) (rwL l false addr port)) := by
  have h := change_any false l A len c B addr port w hr hB hlc hcm hl ha hport
  generalize rwE l = E at *
  generalize rwL l false addr port = L at *
  replace h := Lib.hid h
  clear hr
  go_enter Tryz.func51, Tryz.ntmps51
  go_wp2_with fail
  refine h.out.mono ?_
  rintro e w1 ⟨⟨v, rfl, h1, h2⟩, hb⟩
  replace h1 := Lib.hid h1
  replace h2 := Lib.hid h2
  go_wp2
  go_ret2
  exact ⟨⟨_, rfl, h1.out, h2.out⟩, hb⟩
end
end Go.Proofs.YtbckoohljkmahaaGreat
namespace Go.Proofs.YtbckoohljkmahaaGreat
set_option linter.unusedVariables false
set_option linter.unusedSimpArgs false
open Go.RowKit Go.Maps
theorem an_size : (Tryz.prog.info? 55).map (·.size) = some 2 := by kernel_rfl
set_option maxRecDepth 100000 in
theorem told_any (A : Option Addr) (n c : Nat) (E : Int) (w : World) : Calls Tryz.prog 50 #[.slice A n c, .int .i64 E] w fun e w' => e = .returned (.agg #[.slice A n c, .int .i64 E]) ∧ Below w.heap.size w w' := by
  go_enter Tryz.func50, Tryz.ntmps50
  have br := Blk.new w 55 #[.slice none 0 0, .int .i64 0]
  have bel := bel_alloc w (.cells #[.slice none 0 0, .int .i64 0] 55)
  go_upto_region 1 with fail
  generalize w.alloc (.cells #[.slice none 0 0, .int .i64 0] 55) = W at *
  go_wp2_with (refine wpList_stRow rfl rfl rfl rfl rfl br an_size rfl (by simp [Value.oneCell']) ?_)
  exact bodyPost_ret (results_row rfl _ rfl (br.setRow _) Tryz.underlying55 an_size) rfl ⟨rfl, below_setRow bel (Nat.le_refl _) _⟩
/-- what is answered: a frame or an error; the bindings behind it -/
def AnsR (w : World) (c : Cf) (gn pb fm np nf : Nat) (L : List Bd) (E : Int) (X : List Int) (e : Ending) (w' : World) : Prop :=
  ∃ v np' nf', e = .returned (.agg #[v, .int .i64 E]) ∧ Own .u8 5 w' w.heap.size v X ∧ NatM w' c gn pb fm np' nf' L ∧ np' ≤ np + 1 ∧ nf' ≤ nf + 1 ∧ Upd (fun k => k = pb ∨ k = fm) w w'
/-- the boxes of a frame that comes from inside -/
structure OS (w W : World) (c : Cf) (gn pb fm np nf : Nat) (L : List Bd) (xv fv pv av : Array Value) : Prop where
  nm : NatM W c gn pb fm np nf L
  bx : Blk W w.heap.size 57 xv
  bf : Blk W (w.heap.size + 1) 32 fv
  bp : Blk W (w.heap.size + 1 + 1) 107 pv
  ba : Blk W (w.heap.size + 1 + 1 + 1) 55 av
  up : Upd (fun k => k = pb ∨ k = fm) w W
section
variable {w W W' : World} {c : Cf} {gn pb fm np nf np' nf' : Nat} {L L' : List Bd} {xv fv pv av : Array Value}
theorem OS.bel_ (h : OS w W c gn pb fm np nf L xv fv pv av) (hb : Below W.heap.size W W') : OS w W' c gn pb fm np nf L xv fv pv av :=
  ⟨h.nm.bel_ hb, h.bx.bel hb, h.bf.bel hb, h.bp.bel hb, h.ba.bel hb, h.up.trans (Upd.of_below hb _)⟩
theorem OS.drew (h : OS w W c gn pb fm np nf L xv fv pv av) : OS w W.drew c gn pb fm np nf L xv fv pv av := h.bel_ (Below.refl _ _).drew
theorem OS.step (h : OS w W c gn pb fm np nf L xv fv pv av) (hm : NatM W' c gn pb fm np' nf' L') (hu : Upd (fun k => k = pb ∨ k = fm) W W') : OS w W' c gn pb fm np' nf' L' xv fv pv av := by
  have key : ∀ {g : Nat} {t : TypeId} {cs : Array Value}, Blk W g t cs → Blk W' g t cs := fun hb => hb.upd hu (fun e => by
    rcases e with e | e
    · exact h.nm.pl.notBlk hb e
    · exact h.nm.fl.notBlk hb e)
  exact ⟨hm, key h.bx, key h.bf, key h.bp, key h.ba, h.up.trans hu⟩
theorem OS.ans (h : OS w W c gn pb fm np nf L xv fv pv av) (hgn : gn < w.heap.size) (hpb : pb < w.heap.size) (hfm : fm < w.heap.size) (av' : Array Value) : OS w (W.setRow (w.heap.size + 1 + 1 + 1) av') c gn pb fm np nf L xv fv pv av' := by
  have hu := Upd.row' W (w.heap.size + 1 + 1 + 1) av'
  exact ⟨⟨h.nm.obj.upd hu (by omega), h.nm.pl.upd hu (by omega), h.nm.fl.upd hu (by omega), h.nm.ne, h.nm.inv⟩, h.bx.upd hu (by omega), h.bf.upd hu (by omega), h.bp.upd hu (by omega), h.ba.setRow av',
    ⟨hu.os.trans h.up.os, hu.tape.trans h.up.tape, hu.output.trans h.up.output, Nat.le_trans h.up.size hu.size, fun k hk hS => (hu.block k (Nat.lt_of_lt_of_le hk h.up.size) (by omega)).trans (h.up.block k hk hS)⟩⟩
end
theorem rd_step {W W' : World} {c : Cf} {gn pb fm np nf B n : Nat} {L : List Bd} {A : Option Addr} {l : List Int} (h : Rd .u8 W B A n l) (hm : NatM W c gn pb fm np nf L) (hB : B ≤ W.heap.size) (hu : Upd (fun k => k = pb ∨ k = fm) W W') : Rd .u8 W' B A n l := by
  refine ⟨h.len, h.rng, fun hn => ?_⟩
  obtain ⟨b, o, e, hlt, hc⟩ := h.cel hn
  refine ⟨b, o, e, hlt, fun j hj => ?_⟩
  have hno : ∀ g, (∃ es clock, W.heap[g]? = some (.map es clock)) → b ≠ g := fun g ⟨es, clock, hg⟩ e2 => by
    have h0 := hc j hj
    rw [e2] at h0
    simp [World.cell?, hg] at h0
  refine (World.cell?_of_block (hu.block b (by omega) (fun e2 => ?_))).trans (hc j hj)
  rcases e2 with e2 | e2
  · obtain ⟨es, clock, h1, _⟩ := hm.pl.own
    exact hno pb ⟨es, clock, h1⟩ e2
  · obtain ⟨D, ⟨es, clock, h1, _⟩, _⟩ := hm.fl.ex
    exact hno fm ⟨es, clock, h1⟩ e2
theorem chg_own {w : World} {E : Int} {X : List Int} (hX : E ≠ 0 → X = []) {e : Ending} {w' : World} (h : ChgR w E X e w') : ∃ A n cap, e = .returned (.tuple #[.slice A n cap, .int .i64 E]) ∧ Own .u8 5 w' w.heap.size (.slice A n cap) X ∧ Below w.heap.size w w' := by
  obtain ⟨⟨v, he, h1, h2⟩, hb⟩ := h
  by_cases hE : E = 0
  · have ho := h1 hE
    obtain ⟨A, cap, rfl, _⟩ := ho.form rfl
    exact ⟨A, _, cap, he, ho, hb⟩
  · rw [h2 hE] at he
    refine ⟨none, 0, 0, he, ?_, hb⟩
    rw [hX hE]
    exact Own.nil _ _ _ _
theorem rwL_nil (l : List Int) (out : Bool) (a port : Int) (h : rwE l ≠ 0) : rwL l out a port = [] := by unfold rwL; rw [if_neg h]
/-- what a drawn region reads -/
structure OC (c : Cf) (gn pb fm g0 : Nat) (xv fv pv : Array Value) (W : World) : Prop where
  obj : Blk W gn 117 #[.int .i64 c.wk, .int .u32 c.ou, .int .i64 c.lo, .int .i64 c.hi, .int .i64 c.bk, .int .i64 c.rg, .map (some pb), .map (some fm)]
  bx : Blk W g0 57 xv
  bf : Blk W (g0 + 1) 32 fv
  bp : Blk W (g0 + 1 + 1) 107 pv
theorem OS.oc {w W : World} {c : Cf} {gn pb fm np nf : Nat} {L : List Bd} {xv fv pv av : Array Value} (h : OS w W c gn pb fm np nf L xv fv pv av) : OC c gn pb fm w.heap.size xv fv pv W := ⟨h.nm.obj, h.bx, h.bf, h.bp⟩
set_option maxRecDepth 100000 in
set_option maxHeartbeats 8000000 in
theorem out_old (c : Cf) (gn pb fm np nf np2 : Nat) (L L2 : List Bd) (b b2 : Bd) (ou : Bool) (xA : Option Addr) (xn xc : Nat) (ti po : Int) (f : Fl) (p : Pt) (l : List Int) (w : World) (hm : NatM w c gn pb fm np nf L) (hc : c.ok) (hou : 0 ≤ c.ou ∧ c.ou ≤ 4294967295) (hfr : f.rng) (hb : ofB f L = some b)
    (hk2 : atB c (keyB c b) L2 = some b2) (hpo : b2.po = b.po) (hpb : 1 ≤ b.po ∧ b.po ≤ 65535) (hnp : np2 ≤ np + 1)
    (ks : ∀ W, NatM W c gn pb fm np nf L → Calls Tryz.prog 49 #[.pointer (some ⟨gn, 0, none⟩), .int .i64 (keyB c b), .agg #[.bool ou, .slice xA xn xc, .int .i64 ti, .int .i64 po], p.val] W (SeenR W c gn pb fm np2 nf L2))
    (hr : Rd .u8 w w.heap.size xA xn l) (hlc : xn ≤ xc) (hcm : xc ≤ 9223372036854775807) (hl : xn ≤ 60000) :
    Calls Tryz.prog 47 #[.pointer (some ⟨gn, 0, none⟩), .agg #[.bool ou, .slice xA xn xc, .int .i64 ti, .int .i64 po], .agg f.cs, p.val] w (AnsR w c gn pb fm np nf L2 (rwE l) (rwL l true c.ou b.po)) := by
  have hpo0 : plOf c L f = some (keyB c b) := by unfold plOf; rw [hb]; rfl
  have hkr := keyB_rng hc b
  have hlt1 := hm.obj.lt
  have hlt2 := hm.pl.lt
  have hlt3 := hm.fl.lt
  have hlz : lookZ (atB c (keyB c b) L2) = .agg b2.cs := by rw [hk2]; rfl
  have hnil := rwL_nil l true c.ou b.po
  have kro := fun W (hr : Rd .u8 W w.heap.size xA xn l) (hB : w.heap.size ≤ W.heap.size) => RwOut_any l xA xn xc w.heap.size c.ou b.po W hr hB hlc hcm hl hou (by omega)
  generalize rwE l = E at *
  generalize rwL l true c.ou b.po = X at *
  generalize keyB c b = k at *
  obtain ⟨f0, f1, f2⟩ := f
  obtain ⟨pv0, hpv⟩ : ∃ pv0, p.val = .agg pv0 := ⟨_, rfl⟩
  rw [hpv] at ks ⊢
  have hps : (Tryz.prog.info? 107).map (·.size) = some pv0.size := by
    have : pv0.size = 15 := by
      obtain ⟨pr, sr, ds, fl, ki, co, er, ⟨isz, i1, i2, i3, i4, i5⟩, pat, ba⟩ := p
      simp only [Pt.val, Value.agg.injEq] at hpv
      rw [← hpv]; rfl
    rw [this]; exact pt_size
  obtain ⟨⟨y0, y1, y2⟩, y3, y4, y5⟩ := b2
  simp only [Bd.cs] at hlz hpo
  subst hpo
  have hw16 : IntKind.u16.wrap b.po = b.po := by simp [IntKind.wrap, IntKind.bits, IntKind.signed]; omega
  generalize b.po = y3 at *
  replace hps := Lib.hid hps
  simp only [Fl.cs]
  replace hpo0 := Lib.hid hpo0
  replace hlz := Lib.hid hlz
  replace hnil := Lib.hid hnil
  replace ks := Lib.hid ks
  replace kro := Lib.hid kro
  clear hb hk2 hpv
  go_enter Tryz.func47, Tryz.ntmps47
  go_upto_region 1 with fail
  have os : OS w ((((w.alloc (.cells #[.bool ou, .slice xA xn xc, .int .i64 ti, .int .i64 po] 57)).alloc (.cells #[.int .i64 f0, .int .u32 f1, .int .u16 f2] 32)).alloc (.cells pv0 107)).alloc (.cells #[.slice none 0 0, .int .i64 0] 55)) c gn pb fm np nf L #[.bool ou, .slice xA xn xc, .int .i64 ti, .int .i64 po] #[.int .i64 f0, .int .u32 f1, .int .u16 f2] pv0 #[.slice none 0 0, .int .i64 0] := by
    have e1 : (w.alloc (.cells #[.bool ou, .slice xA xn xc, .int .i64 ti, .int .i64 po] 57)).heap.size = w.heap.size + 1 := by simp
    have e2 : ((w.alloc (.cells #[.bool ou, .slice xA xn xc, .int .i64 ti, .int .i64 po] 57)).alloc (.cells #[.int .i64 f0, .int .u32 f1, .int .u16 f2] 32)).heap.size = w.heap.size + 1 + 1 := by simp
    have e3 : (((w.alloc (.cells #[.bool ou, .slice xA xn xc, .int .i64 ti, .int .i64 po] 57)).alloc (.cells #[.int .i64 f0, .int .u32 f1, .int .u16 f2] 32)).alloc (.cells pv0 107)).heap.size = w.heap.size + 1 + 1 + 1 := by simp
    have b1 := Blk.new w 57 #[.bool ou, .slice xA xn xc, .int .i64 ti, .int .i64 po]
    have b2 := Blk.new (w.alloc (.cells #[.bool ou, .slice xA xn xc, .int .i64 ti, .int .i64 po] 57)) 32 #[.int .i64 f0, .int .u32 f1, .int .u16 f2]
    have b3 := Blk.new ((w.alloc (.cells #[.bool ou, .slice xA xn xc, .int .i64 ti, .int .i64 po] 57)).alloc (.cells #[.int .i64 f0, .int .u32 f1, .int .u16 f2] 32)) 107 pv0
    have b4 := Blk.new (((w.alloc (.cells #[.bool ou, .slice xA xn xc, .int .i64 ti, .int .i64 po] 57)).alloc (.cells #[.int .i64 f0, .int .u32 f1, .int .u16 f2] 32)).alloc (.cells pv0 107)) 55 #[.slice none 0 0, .int .i64 0]
    rw [e1] at b2
    rw [e2] at b3
    rw [e3] at b4
    exact ⟨(((hm.alloc _).alloc _).alloc _).alloc _, ((b1.alloc _).alloc _).alloc _, (b2.alloc _).alloc _, b3.alloc _, b4, (((Upd.refl _ w).alloc _).alloc _).alloc _ |>.alloc _⟩
  generalize (((w.alloc (.cells #[.bool ou, .slice xA xn xc, .int .i64 ti, .int .i64 po] 57)).alloc (.cells #[.int .i64 f0, .int .u32 f1, .int .u16 f2] 32)).alloc (.cells pv0 107)).alloc (.cells #[.slice none 0 0, .int .i64 0] 55) = W at *
  have z2 : ∀ t : Tw (OC c gn pb fm w.heap.size #[.bool ou, .slice xA xn xc, .int .i64 ti, .int .i64 po] #[.int .i64 f0, .int .u32 f1, .int .u16 f2] pv0), t.w.cell? ⟨gn, 7, none⟩ = some (.map (some fm)) := fun t => t.h.obj.cell 7
  have z5 : ∀ w', (∃ t : Tw (OC c gn pb fm w.heap.size #[.bool ou, .slice xA xn xc, .int .i64 ti, .int .i64 po] #[.int .i64 f0, .int .u32 f1, .int .u16 f2] pv0), w' = t.w) → Blk w' (w.heap.size + 1) 32 #[.int .i64 f0, .int .u32 f1, .int .u16 f2] := fun w' ⟨t, ht⟩ => ht ▸ t.h.bf
  have zz : Nonempty (Tw (OC c gn pb fm w.heap.size #[.bool ou, .slice xA xn xc, .int .i64 ti, .int .i64 po] #[.int .i64 f0, .int .u32 f1, .int .u16 f2] pv0)) := ⟨⟨_, os.oc⟩⟩
  refine wp_region_plan (OC c gn pb fm w.heap.size #[.bool ou, .slice xA xn xc, .int .i64 ti, .int .i64 po] #[.int .i64 f0, .int .u32 f1, .int .u16 f2] pv0) [(0, true), (1, true), (2, true), (3, true), (4, true), (5, false), (6, true), (7, true), (8, true), (9, true), (10, true)] (by kernel_rfl) (by kernel_rfl) (by kernel_rfl) (by kernel_rfl) os.drew.oc ?_
  replace os := os.drew
  generalize W.drew = W1 at *
  refine wpPl_qs 5 _ _ _ (by kernel_rfl) (by kernel_rfl) (by simp) ?_
  unfold clsS
  simp only [List.take_succ_cons, List.take_zero, List.drop_succ_cons, List.drop_zero, List.filterMap_cons, List.filterMap_nil, List.getElem?_toArray, List.getElem?_cons_zero, List.getElem?_cons_succ]
  repeat (first
    | go_big_quiet_skip
    | (go_big_quiet_want; first | (refine quiet_ldRow rfl rfl z5 Tryz.underlying32 fl_size ?_; go_simp; go_big_quiet_on) | (go_big_quiet_op; go_big_quiet_on))
    | (refine id (?_ : wpQuiet _ _ _ _ (_ :: _) _); first | go_big_quiet_skip | (go_big_quiet_want; first | (refine quiet_ldRow rfl rfl z5 Tryz.underlying32 fl_size ?_; go_simp; go_big_quiet_on) | (go_big_quiet_op; go_big_quiet_on))))
  refine wpQuiet_nil ?_
  have hlook := os.nm.fl.look hfr
  rw [hpo0.out] at hlook
  refine wpPl_e _ (by rfl) (by kernel_rfl) (fun K hK => ?_)
  refine wp_look rfl rfl rfl hlook ?_
  simp only [lookF, Option.getD_some, Option.isSome_some, Option.getD_none, Option.isSome_none]
  go_simp
  refine hK _ _ os.oc ?_
  clear hK K hlook
  refine wpPl_qs 5 _ _ _ (by kernel_rfl) (by kernel_rfl) (by simp) ?_
  unfold clsS
  simp only [List.take_succ_cons, List.take_zero, List.drop_succ_cons, List.drop_zero, List.filterMap_cons, List.filterMap_nil, List.getElem?_toArray, List.getElem?_cons_zero, List.getElem?_cons_succ]
  repeat (first
    | go_big_quiet_skip
    | (go_big_quiet_want; go_big_quiet_op; go_big_quiet_on)
    | (refine id (?_ : wpQuiet _ _ _ _ (_ :: _) _); first | go_big_quiet_skip | (go_big_quiet_want; go_big_quiet_op; go_big_quiet_on)))
  refine wpQuiet_nil ?_
  clear z2 z5 zz
  unfold wpPl
  refine NoPanic.normal ?_
  have bx := os.bx
  have bp := os.bp
  go_wp2_with (first
    | (refine wpList_ldRow rfl rfl rfl bx Tryz.underlying57 ml_size ?_)
    | (refine wpList_ldRow rfl rfl rfl bp Tryz.underlying107 hps.out ?_))
  refine (ks.out _ os.nm).mono ?_
  rintro e W2 ⟨rfl, hm2, hu2⟩
  replace os := os.step hm2 (hu2.mono (fun _ _ h => .inl h))
  clear bx bp hm2 hu2 ks
  go_upto_region 4 with fail
  have z1 : ∀ t : Tw (OC c gn pb fm w.heap.size #[.bool ou, .slice xA xn xc, .int .i64 ti, .int .i64 po] #[.int .i64 f0, .int .u32 f1, .int .u16 f2] pv0), t.w.cell? ⟨w.heap.size, 1, none⟩ = some (.slice xA xn xc) := fun t => t.h.bx.cell 1
  have z2 : ∀ t : Tw (OC c gn pb fm w.heap.size #[.bool ou, .slice xA xn xc, .int .i64 ti, .int .i64 po] #[.int .i64 f0, .int .u32 f1, .int .u16 f2] pv0), t.w.cell? ⟨gn, 1, none⟩ = some (.int .u32 c.ou) := fun t => t.h.obj.cell 1
  have z3 : ∀ t : Tw (OC c gn pb fm w.heap.size #[.bool ou, .slice xA xn xc, .int .i64 ti, .int .i64 po] #[.int .i64 f0, .int .u32 f1, .int .u16 f2] pv0), t.w.cell? ⟨gn, 6, none⟩ = some (.map (some pb)) := fun t => t.h.obj.cell 6
  have zz : Nonempty (Tw (OC c gn pb fm w.heap.size #[.bool ou, .slice xA xn xc, .int .i64 ti, .int .i64 po] #[.int .i64 f0, .int .u32 f1, .int .u16 f2] pv0)) := ⟨⟨_, os.oc⟩⟩
  refine wp_region_plan (OC c gn pb fm w.heap.size #[.bool ou, .slice xA xn xc, .int .i64 ti, .int .i64 po] #[.int .i64 f0, .int .u32 f1, .int .u16 f2] pv0) [(0, true), (1, true), (2, true), (3, true), (4, true), (5, true), (6, true), (7, true), (8, true), (9, true), (10, true), (11, true), (12, false), (13, true), (14, true), (15, false), (16, true), (17, true), (18, false), (19, false)] (by kernel_rfl) (by kernel_rfl) (by kernel_rfl) (by kernel_rfl) os.drew.oc ?_
  replace os := os.drew
  generalize W2.drew = W3 at *
  refine wpPl_qs 12 _ _ _ (by kernel_rfl) (by kernel_rfl) (by simp) ?_
  unfold clsS
  simp only [List.take_succ_cons, List.take_zero, List.drop_succ_cons, List.drop_zero, List.filterMap_cons, List.filterMap_nil, List.getElem?_toArray, List.getElem?_cons_zero, List.getElem?_cons_succ]
  repeat (first
    | go_big_quiet_skip
    | (go_big_quiet_want; go_big_quiet_op; go_big_quiet_on)
    | (refine id (?_ : wpQuiet _ _ _ _ (_ :: _) _); first | go_big_quiet_skip | (go_big_quiet_want; go_big_quiet_op; go_big_quiet_on)))
  refine wpQuiet_nil ?_
  have hlook := os.nm.pl.look0 hkr
  rw [hlz.out] at hlook
  refine wpPl_e _ (by rfl) (by kernel_rfl) (fun K hK => ?_)
  refine wp_look rfl rfl rfl hlook ?_
  go_simp
  refine hK _ _ os.oc ?_
  clear hK K hlook
  have hfld : ∀ W, (Instr.field 63 (.agg #[.int .i64 y0, .int .u32 y1, .int .u16 y2, .int .i64 y3, .int .i64 y4, .int .i64 y5]) 1).run Tryz.prog W = .ok (.int .i64 y3) W := fun W => by kernel_rfl
  refine wpPl_qs 2 _ _ _ (by kernel_rfl) (by kernel_rfl) (by simp) ?_
  unfold clsS
  simp only [List.take_succ_cons, List.take_zero, List.drop_succ_cons, List.drop_zero, List.filterMap_cons, List.filterMap_nil, List.getElem?_toArray, List.getElem?_cons_zero, List.getElem?_cons_succ]
  repeat (first
    | go_big_quiet_skip
    | (go_big_quiet_want; go_big_quiet_op; go_big_quiet_on)
    | (refine id (?_ : wpQuiet _ _ _ _ (_ :: _) _); first | go_big_quiet_skip | (go_big_quiet_want; go_big_quiet_op; go_big_quiet_on)))
  refine wpQuiet_nil ?_
  have hrW := rd_step hr hm (Nat.le_refl _) os.up
  have hs3 : w.heap.size ≤ W3.heap.size := os.up.size
  refine wpPl_e _ (by rfl) (by kernel_rfl) (fun K hK => ?_)
  go_simp
  refine (kro.out _ hrW hs3).mono ?_
  intro e W4 hch
  obtain ⟨vA, vn, vc, rfl, own, hb4⟩ := chg_own hnil.out hch
  replace os := os.bel_ hb4
  replace own := Own.lower own hs3
  refine hK _ _ os.oc ?_
  clear hK K hch hb4 hrW
  refine wpPl_qs 2 _ _ _ (by kernel_rfl) (by kernel_rfl) (by simp) ?_
  unfold clsS
  simp only [List.take_succ_cons, List.take_zero, List.drop_succ_cons, List.drop_zero, List.filterMap_cons, List.filterMap_nil, List.getElem?_toArray, List.getElem?_cons_zero, List.getElem?_cons_succ]
  repeat (first
    | go_big_quiet_skip
    | (go_big_quiet_want; go_big_quiet_op; go_big_quiet_on)
    | (refine id (?_ : wpQuiet _ _ _ _ (_ :: _) _); first | go_big_quiet_skip | (go_big_quiet_want; go_big_quiet_op; go_big_quiet_on)))
  refine wpQuiet_nil ?_
  refine wpPl_e _ (by rfl) (by kernel_rfl) (fun K hK => ?_)
  go_simp
  refine (told_any vA vn vc E W4).mono ?_
  rintro e W5 ⟨rfl, hb5⟩
  replace os := os.bel_ hb5
  replace own := Own.below own hb5
  refine hK _ _ os.oc ?_
  clear hK K hb5
  refine wpPl_e _ (by rfl) (by kernel_rfl) (fun K hK => ?_)
  refine wp_stRow rfl rfl rfl rfl os.ba an_size rfl (by simp [Value.oneCell']) ?_
  replace own := Own.updne own os.ba (by decide) (Upd.row' W5 (w.heap.size + 1 + 1 + 1) #[.slice vA vn vc, .int .i64 E])
  replace os := os.ans hlt1 hlt2 hlt3 #[.slice vA vn vc, .int .i64 E]
  refine hK _ _ os.oc ?_
  clear hK K
  unfold wpPl
  refine NoPanic.normal ?_
  go_wp2_with fail
  exact bodyPost_ret (results_row rfl _ rfl os.ba Tryz.underlying55 an_size) rfl ⟨_, _, _, rfl, own, os.nm, hnp, by omega, os.up⟩
end Go.Proofs.YtbckoohljkmahaaGreat
