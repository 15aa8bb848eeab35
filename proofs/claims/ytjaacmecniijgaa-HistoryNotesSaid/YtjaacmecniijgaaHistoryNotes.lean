/- Every input of HistoryNotes answers true, and reads behind the call as it read before. No condition. -/
import Derived.Test.YtjaacmecniijgaaHnAll6
namespace Go.Proofs.Ytjaacmecniijgaa
set_option linter.unusedVariables false
set_option linter.unusedSimpArgs false
open Go.RowKit
/-- a frame of so many slots, by a function -/
def frm (v : Nat → Value) : List Value := (List.range 311).map v
set_option maxRecDepth 100000 in
theorem frm_lit (v : Nat → Value) : frm v = v 0 :: v 1 :: v 2 :: v 3 :: v 4 :: v 5 :: v 6 :: v 7 :: v 8 :: v 9 :: v 10 :: v 11 :: v 12 :: v 13 :: v 14 :: v 15 :: v 16 :: v 17 :: v 18 :: v 19 :: v 20 :: v 21 :: v 22 :: v 23 :: v 24 :: v 25 :: v 26 :: v 27 :: v 28 :: v 29 :: v 30 :: v 31 :: v 32 :: v 33 :: v 34 :: v 35 :: v 36 :: v 37 :: v 38 :: v 39 :: v 40 :: v 41 :: v 42 :: v 43 :: v 44 :: v 45 :: v 46 :: v 47 :: v 48 :: v 49 :: v 50 :: v 51 :: v 52 :: v 53 :: v 54 :: v 55 :: v 56 :: v 57 :: v 58 :: v 59 :: v 60 :: v 61 :: v 62 :: v 63 :: v 64 :: v 65 :: v 66 :: v 67 :: v 68 :: v 69 :: v 70 :: v 71 :: v 72 :: v 73 :: v 74 :: v 75 :: v 76 :: v 77 :: v 78 :: v 79 :: v 80 :: v 81 :: v 82 :: v 83 :: v 84 :: v 85 :: v 86 :: v 87 :: v 88 :: v 89 :: v 90 :: v 91 :: v 92 :: v 93 :: v 94 :: v 95 :: v 96 :: v 97 :: v 98 :: v 99 :: v 100 :: v 101 :: v 102 :: v 103 :: v 104 :: v 105 :: v 106 :: v 107 :: v 108 :: v 109 :: v 110 :: v 111 :: v 112 :: v 113 :: v 114 :: v 115 :: v 116 :: v 117 :: v 118 :: v 119 :: v 120 :: v 121 :: v 122 :: v 123 :: v 124 :: v 125 :: v 126 :: v 127 :: v 128 :: v 129 :: v 130 :: v 131 :: v 132 :: v 133 :: v 134 :: v 135 :: v 136 :: v 137 :: v 138 :: v 139 :: v 140 :: v 141 :: v 142 :: v 143 :: v 144 :: v 145 :: v 146 :: v 147 :: v 148 :: v 149 :: v 150 :: v 151 :: v 152 :: v 153 :: v 154 :: v 155 :: v 156 :: v 157 :: v 158 :: v 159 :: v 160 :: v 161 :: v 162 :: v 163 :: v 164 :: v 165 :: v 166 :: v 167 :: v 168 :: v 169 :: v 170 :: v 171 :: v 172 :: v 173 :: v 174 :: v 175 :: v 176 :: v 177 :: v 178 :: v 179 :: v 180 :: v 181 :: v 182 :: v 183 :: v 184 :: v 185 :: v 186 :: v 187 :: v 188 :: v 189 :: v 190 :: v 191 :: v 192 :: v 193 :: v 194 :: v 195 :: v 196 :: v 197 :: v 198 :: v 199 :: v 200 :: v 201 :: v 202 :: v 203 :: v 204 :: v 205 :: v 206 :: v 207 :: v 208 :: v 209 :: v 210 :: v 211 :: v 212 :: v 213 :: v 214 :: v 215 :: v 216 :: v 217 :: v 218 :: v 219 :: v 220 :: v 221 :: v 222 :: v 223 :: v 224 :: v 225 :: v 226 :: v 227 :: v 228 :: v 229 :: v 230 :: v 231 :: v 232 :: v 233 :: v 234 :: v 235 :: v 236 :: v 237 :: v 238 :: v 239 :: v 240 :: v 241 :: v 242 :: v 243 :: v 244 :: v 245 :: v 246 :: v 247 :: v 248 :: v 249 :: v 250 :: v 251 :: v 252 :: v 253 :: v 254 :: v 255 :: v 256 :: v 257 :: v 258 :: v 259 :: v 260 :: v 261 :: v 262 :: v 263 :: v 264 :: v 265 :: v 266 :: v 267 :: v 268 :: v 269 :: v 270 :: v 271 :: v 272 :: v 273 :: v 274 :: v 275 :: v 276 :: v 277 :: v 278 :: v 279 :: v 280 :: v 281 :: v 282 :: v 283 :: v 284 :: v 285 :: v 286 :: v 287 :: v 288 :: v 289 :: v 290 :: v 291 :: v 292 :: v 293 :: v 294 :: v 295 :: v 296 :: v 297 :: v 298 :: v 299 :: v 300 :: v 301 :: v 302 :: v 303 :: v 304 :: v 305 :: v 306 :: v 307 :: v 308 :: v 309 :: v 310 :: [] := by kernel_rfl
theorem frm_self {l : List Value} (h : l.length = 311) : l = frm (fun i => l.getD i undef) := by
  apply List.ext_getElem
  · simp [frm, h]
  · intro i h1 h2
    simp [frm, List.getD_eq_getElem?_getD, List.getElem?_eq_getElem h1]
theorem frm_meet {l : List Value} {d : List Deferred} {R : (Nat → Value) → Prop} (h : l.length = 311) (hR : R (fun i => l.getD i undef)) : ∃ v, (⟨l.toArray, d⟩ : Act) = ⟨(frm v).toArray, d⟩ ∧ R v := ⟨_, by rw [← frm_self h], hR⟩
structure Com (A : Option Addr) (n c gh : Nat) (v : Nat → Value) : Prop where
  v0 : v 0 = .slice A n c
  v3 : v 3 = .pointer (some ⟨gh, 0, none⟩)
theorem HaRd.bel {w w' : World} {A : Option Addr} {n : Nat} (h : HaRd w A n) (hb : Below w.heap.size w w') : HaRd w' A n := fun h0 => by
  obtain ⟨b, o, e, hlt, hi⟩ := h h0
  refine ⟨b, o, e, Nat.lt_of_lt_of_le hlt hb.size, fun i hin => ?_⟩
  obtain ⟨x, h1, ⟨l, h2⟩, h3⟩ := hi i hin
  exact ⟨x, h1, ⟨l, h2.bel hb⟩, fun j v hv => (hb.cell (p := ⟨b, o + i * 13 + j, none⟩) hlt).trans (h3 j v hv)⟩
theorem act_size : (Try.prog.info? 58).map (·.size) = some 13 := by kernel_rfl
theorem s15_size : (Try.prog.info? 56).map (·.size) = some 9 := by kernel_rfl
theorem info_evt : (Try.prog.info? 35).map (fun i => (i.zero, i.size, i.bytes)) = some (some (.agg #[.int .i64 0, .int .i64 0, .bool false, .bool false, .slice none 0 0, .int .i64 0, .int .i64 0, .slice none 0 0, .int .i64 0, .int .i64 0, .int .i64 0]), 11, 120) := by kernel_rfl
theorem Own.slr {w : World} {base g n c : Nat} {l : List Int} (h : Own .u8 5 w base (.slice (some ⟨g, 0, none⟩) n c) l) : SlR w ⟨some ⟨g, 0, none⟩, n, c⟩ l := SlO.rd (s := ⟨some ⟨g, 0, none⟩, n, c⟩) h
set_option maxRecDepth 100000 in
set_option maxHeartbeats 16000000 in
theorem HistoryNotes_walk (A : Option Addr) (n c : Nat) (w : World) (hr : HaRd w A n) (hnc : n ≤ c) (hcm : c ≤ 9223372036854775807) :
    Calls Try.prog 5 #[.slice A n c] w fun e w' => e = .returned (.bool true) ∧ Below w.heap.size w w' := by
  obtain ⟨i0, hi, hz0, hz1, hz2⟩ := info_parts info_u8_
  obtain ⟨i1, hi1, hu0, hu1, hu2⟩ := info_parts info_evt
  go_enter Try.func5, Try.ntmps5
  go_wp2_with fail
  refine (hnotes_any _).mono ?_
  rintro e w1 ⟨rfl, bel⟩
  go_wp2_with fail
  refine (none_any _).mono ?_
  rintro e w' ⟨rfl, rfl⟩
  go_wp2_with fail
  refine (nBegin_any _ _ _ _ _ _ _).mono ?_
  rintro e w2 ⟨rfl, b2⟩
  replace bel := bel_after bel b2
  clear b2
  go_wp2_with fail
  refine (none_any _).mono ?_
  rintro e w' ⟨rfl, rfl⟩
  go_wp2_with fail
  refine (nEnd_any _ _ _ _ _ _).mono ?_
  rintro e w3 ⟨rfl, b3⟩
  replace bel := bel_after bel b3
  clear b3
  go_wp2_with fail
  refine (none_any _).mono ?_
  rintro e w' ⟨rfl, rfl⟩
  go_wp2_with fail
  refine (nEnded_any _ _ _ _ _).mono ?_
  rintro e w' ⟨rfl, rfl⟩
  go_wp2_with fail
  refine (none_any _).mono ?_
  rintro e w' ⟨rfl, rfl⟩
  go_wp2_with fail
  refine (nNow_any _).mono ?_
  rintro e w' ⟨rfl, rfl⟩
  go_wp2_with fail
  refine (none_any _).mono ?_
  rintro e w' ⟨rfl, rfl⟩
  go_wp2_with fail
  refine (nAll_any _).mono ?_
  rintro e w' ⟨rfl, rfl⟩
  go_wp2_with fail
  refine (hNew_any _).mono ?_
  rintro e w1 ⟨rfl, hM, hb1⟩
  go_wp2_with fail
  replace hr := hr.bel bel
  have nt0 : NtM w3 w1 w3.heap.size w3.heap.size 0 (.slice none 0 0) (.slice none 0 0) 0 [] [] := ⟨⟨hM, OwnT.nil _ _ _ _ _, fun j x y hx => by simp at hx, hb1, Nat.le_refl _, hb1.size⟩, rfl, rfl, fun j x hx => by simp at hx, by omega⟩
  clear hM hb1
  generalize hgh : w3.heap.size = gh at *
  replace hgh := Lib.hid hgh
  refine wp_loop_ghost_k (fun gk a' wr => ∃ v : Nat → Value, a' = ⟨(frm v).toArray, []⟩ ∧ ∃ (k : Nat) (now : Int) (hv dv : Value) (m : Nat) (L D : List En), gk = n - k ∧ k ≤ n ∧ now ≤ k ∧ m ≤ k ∧ k ≤ 40 ∧ Com A n c gh v ∧ v 4 = dv ∧ v 5 = .int .i64 now ∧ v 6 = .int .i64 k ∧ NtM w3 wr gh gh now hv dv m L D) n ?_ ?_
  · refine frm_meet (by kernel_rfl) ?_
    exact ⟨0, 0, _, _, 0, [], [], rfl, Nat.zero_le _, by omega, by omega, by omega, ⟨rfl, rfl⟩, rfl, rfl, rfl, nt0⟩
  · clear nt0
    intro gk a' wr hrel _ _ _ _
    obtain ⟨v, rfl, k, now, hv, dv, m, L, D, hgk, hk, hnow, hm, hk40, cm, hv4, hv5, hv6, nt⟩ := hrel
    obtain ⟨Ad, cd, rfl, hmc, hcd⟩ := nt.nt.doc.form nt.len2
    have hn0 := nt.hnow
    replace hgk := Lib.hid hgk
    by_cases hlt : k < n ∧ k < 40
    · obtain ⟨hlt, hlt40⟩ := hlt
      obtain ⟨b, o, hA, hbl, hcl⟩ := hr (by omega)
      subst hA
      have hfr := frm_lit v
      rw [cm.v0, cm.v3, hv6, hv4, hv5] at hfr
      rw [hfr]
      clear hfr cm hv6
      clear hv4 hv5
      obtain ⟨⟨x0, x1, x2, x3, x4, x5, x6, ⟨xA, xn, xc⟩, x8, x9, x10, x11, x12⟩, hby, ⟨lb, hlb⟩, hcl⟩ := hcl k hlt
      simp only [Ha.cs] at hcl hby hlb
      have hgh1 := hgh.out
      have hc : ∀ j u, ([.int .i64 x0, .int .i64 x1, .bool x2, .int .i64 x3, .int .i64 x4, .int .i64 x5, .int .i64 x6, .slice xA xn xc, .int .i64 x8, .int .u8 x9, .int .i64 x10, .int .i64 x11, .int .i64 x12] : List Value)[j]? = some u → wr.cell? ⟨b, o + k * 13 + j, none⟩ = some u := fun j u hu => (nt.nt.bel.cell (p := ⟨b, o + k * 13 + j, none⟩) (by show b < gh; omega)).trans (hcl j u hu)
      replace hlb : SlR wr ⟨xA, xn, xc⟩ lb := ⟨(hlb.1.below (nt.nt.bel.mono (by omega))).more (by have := nt.nt.hsz; omega), hlb.2⟩
      clear hcl
      have hd : decide (k < n) = true := by simpa using hlt
      have hd2 : decide ((k : Int) < 40) = true := by simp; omega
      have k0 : (0 : Int) ≤ (k : Int) := by omega
      have ba := (Blk.new wr 58 #[.int .i64 0, .int .i64 0, .bool false, .int .i64 0, .int .i64 0, .int .i64 0, .int .i64 0, .slice none 0 0, .int .i64 0, .int .u8 0, .int .i64 0, .int .i64 0, .int .i64 0]).setRow #[.int .i64 x0, .int .i64 x1, .bool x2, .int .i64 x3, .int .i64 x4, .int .i64 x5, .int .i64 x6, .slice xA xn xc, .int .i64 x8, .int .u8 x9, .int .i64 x10, .int .i64 x11, .int .i64 x12]
      have belr : Below wr.heap.size wr ((wr.alloc (.cells #[.int .i64 0, .int .i64 0, .bool false, .int .i64 0, .int .i64 0, .int .i64 0, .int .i64 0, .slice none 0 0, .int .i64 0, .int .u8 0, .int .i64 0, .int .i64 0, .int .i64 0] 58)).setRow wr.heap.size #[.int .i64 x0, .int .i64 x1, .bool x2, .int .i64 x3, .int .i64 x4, .int .i64 x5, .int .i64 x6, .slice xA xn xc, .int .i64 x8, .int .u8 x9, .int .i64 x10, .int .i64 x11, .int .i64 x12]) := below_setRow (bel_alloc _ _) (Nat.le_refl _) #[.int .i64 x0, .int .i64 x1, .bool x2, .int .i64 x3, .int .i64 x4, .int .i64 x5, .int .i64 x6, .slice xA xn xc, .int .i64 x8, .int .u8 x9, .int .i64 x10, .int .i64 x11, .int .i64 x12]
      go_upto_region 10 with (first
        | (refine wpList_ldAt rfl rfl rfl hc Try.underlying58 act_size ?_)
        | (refine wpList_stRow rfl rfl rfl rfl rfl (Blk.new wr _ _) act_size rfl (by simp [Value.oneCell']) ?_; generalize (wr.alloc (.cells #[.int .i64 0, .int .i64 0, .bool false, .int .i64 0, .int .i64 0, .int .i64 0, .int .i64 0, .slice none 0 0, .int .i64 0, .int .u8 0, .int .i64 0, .int .i64 0, .int .i64 0] 58)).setRow wr.heap.size #[.int .i64 x0, .int .i64 x1, .bool x2, .int .i64 x3, .int .i64 x4, .int .i64 x5, .int .i64 x6, .slice xA xn xc, .int .i64 x8, .int .u8 x9, .int .i64 x10, .int .i64 x11, .int .i64 x12] = W1 at *))
      clear hc
      have nt1 := nt.nt.bel_ belr
      have hszr := belr.size
      replace hlb := hlb.bel belr
      have hs : ∀ j u, ([.bool x2, .int .i64 x3, .int .i64 x4, .int .i64 x5, .int .i64 x6, .slice xA xn xc, .int .i64 x8, .int .u8 x9, .int .i64 x10] : List Value)[j]? = some u → W1.cell? ⟨wr.heap.size, 2 + j, none⟩ = some u := fun j u hu => by
        rw [ba.cell, ← hu]
        match j with
        | 0 | 1 | 2 | 3 | 4 | 5 | 6 | 7 | 8 => rfl
        | j + 9 => simp at hu
      have ko := Frame15_any x2 x3 x4 x5 x6 x8 x9 x10 xA xn xc lb W1 hlb.1 hlb.2.1 (by have := hlb.2.2; unfold maxLen at this; exact this) hby
      replace ko := Lib.hid ko
      clear hlb hby belr
      generalize hga : wr.heap.size = ga at *
      have hghs : gh ≤ ga := by have := nt.nt.hsz; omega
      replace hga := Lib.hid hga
      go_wp2_with (refine wpList_ldAt rfl rfl rfl hs Try.underlying56 s15_size ?_)
      refine ko.out.mono ?_
      rintro e w2 ⟨F, ⟨hF1, hF2⟩, vf, rfl, own, hb2⟩
      clear ko hs
      replace nt1 := nt1.bel_ hb2
      replace ba := ba.bel hb2
      have hsz1 := hb2.size
      have hga1 := ba.lt
      obtain ⟨fn, hfn⟩ : ∃ fn, F.length = fn := ⟨_, rfl⟩
      obtain ⟨fb, fc, rfl, hfc1, hfc2, hfb1, hfb2⟩ := own.formG hfn (by omega)
      have hnb : ∀ (j : Nat) x y, L[j]? = some x → D[j]? = some y → Nb x.f fb ∧ Nb x.g fb ∧ Nb y.f fb ∧ Nb y.g fb := fun j x y hx hy => (nt.nt.al j x y hx hy).nb (by have := hga.out; have := (nt.nt.bel_ (Below.refl _ _)).hsz; omega)
      clear hb2
      obtain ⟨q, hq, hq5⟩ := modn x0 5 (by omega)
      have a0 := ba.cell 0
      go_upto_block 2 with fail
      clear a0
      replace hq := Lib.hid hq
      refine wp_cut (fun a' wx => ∃ v : Nat → Value, a' = ⟨(frm v).toArray, []⟩ ∧ Com (some ⟨b, o, none⟩) n c gh v ∧ v 6 = .int .i64 k ∧ ∃ (now : Int) (hv dv : Value) (m : Nat) (L D : List En), now ≤ k + 1 ∧ m ≤ k + 1 ∧ v 4 = dv ∧ v 5 = .int .i64 now ∧ NtM w3 wx gh gh now hv dv m L D) ?_ ?_
      rotate_left
      · intro _ _ _ _
        go_upto_if 70 with fail
        refine wp_cut (fun a' wx => ∃ v : Nat → Value, a' = ⟨(frm v).toArray, []⟩ ∧ Com (some ⟨b, o, none⟩) n c gh v ∧ v 6 = .int .i64 k ∧ v 4 = .slice Ad m cd ∧ v 5 = .int .i64 now ∧ v 7 = .pointer (some ⟨ga, 0, none⟩) ∧ v 8 = .slice (some ⟨fb, 0, none⟩) fn fc ∧ v 69 = .int .i64 q ∧ v 70 = .bool (decide (q < 2)) ∧ w2 = wx) ?_ ?_
        rotate_left
        · intro _ _ _ _
          have h5 : q = 0 ∨ q = 1 ∨ q = 2 ∨ q = 3 ∨ q = 4 := by omega
          clear hq hq5
          rcases h5 with rfl | rfl | rfl | rfl | rfl
          all_goals
            go_wp2_with fail
            refine Met.intro ?_
            go_step
            refine frm_meet (by kernel_rfl) ?_
            exact ⟨⟨rfl, rfl⟩, rfl, rfl, rfl, rfl, rfl, rfl, rfl, rfl⟩
        · intro a' wx hcut
          obtain ⟨v, rfl, cm, hv6, hv4, hv5, hv7, hv8, hv69, hv70, rfl⟩ := hcut
          by_cases hq2 : q < 2
          · rw [decide_eq_true hq2] at hv70
            have hfr := frm_lit v
            rw [cm.v0, cm.v3, hv6, hv4, hv5, hv7, hv8, hv69, hv70] at hfr
            rw [hfr]
            clear hfr cm hv6
            clear hv4 hv5 hv7 hv8 hv69 hv70
            have kb := hBegin_any x2 (some ⟨fb, 0, none⟩) fn fc x10 x12 F gh gh now hv L w2 nt1.his nt1.hsz (by rw [nt.len]; omega) ⟨hn0, by omega⟩ own.slr (by omega)
            rw [nt.len] at kb
            replace kb := Lib.hid kb
            have c2 := ba.cell 2
            have c10 := ba.cell 10
            have c12 := ba.cell 12
            have m0 : (0 : Int) ≤ (m : Int) := by omega
            go_wp2_with fail
            refine kb.out.mono ?_
            rintro e w4 ⟨hv', s', t', rfl, hM, hs', ht', up⟩
            clear c2 c10 c12 kb
            have hfb3 : fb < w2.heap.size := hfb2
            have nt2 := nt1.stepH hM up
            have own2 : SlO w4 W1.heap.size ⟨some ⟨fb, 0, none⟩, fn, fc⟩ F := nt1.slH up _ F own
            replace ba := ba.upd up (fun h => by
              rcases h with h | h
              · exact ba.ne_ nt1.his.obj (by decide) h
              · exact nt1.his.row.notBlk ba (by decide) h)
            have hsz4 := up.size
            clear hM own
            go_upto_region 18 with fail
            have z2 : ∀ t : Tw (fun w' => Blk w' ga 58 #[.int .i64 x0, .int .i64 x1, .bool x2, .int .i64 x3, .int .i64 x4, .int .i64 x5, .int .i64 x6, .slice xA xn xc, .int .i64 x8, .int .u8 x9, .int .i64 x10, .int .i64 x11, .int .i64 x12]), t.w.cell? ⟨ga, 2, none⟩ = some (.bool x2) := fun t => t.h.cell 2
            have z10 : ∀ t : Tw (fun w' => Blk w' ga 58 #[.int .i64 x0, .int .i64 x1, .bool x2, .int .i64 x3, .int .i64 x4, .int .i64 x5, .int .i64 x6, .slice xA xn xc, .int .i64 x8, .int .u8 x9, .int .i64 x10, .int .i64 x11, .int .i64 x12]), t.w.cell? ⟨ga, 10, none⟩ = some (.int .i64 x10) := fun t => t.h.cell 10
            have z12 : ∀ t : Tw (fun w' => Blk w' ga 58 #[.int .i64 x0, .int .i64 x1, .bool x2, .int .i64 x3, .int .i64 x4, .int .i64 x5, .int .i64 x6, .slice xA xn xc, .int .i64 x8, .int .u8 x9, .int .i64 x10, .int .i64 x11, .int .i64 x12]), t.w.cell? ⟨ga, 12, none⟩ = some (.int .i64 x12) := fun t => t.h.cell 12
            have zz : Nonempty (Tw (fun w' => Blk w' ga 58 #[.int .i64 x0, .int .i64 x1, .bool x2, .int .i64 x3, .int .i64 x4, .int .i64 x5, .int .i64 x6, .slice xA xn xc, .int .i64 x8, .int .u8 x9, .int .i64 x10, .int .i64 x11, .int .i64 x12])) := ⟨⟨_, ba⟩⟩
            refine wp_region_plan (fun w' => Blk w' ga 58 #[.int .i64 x0, .int .i64 x1, .bool x2, .int .i64 x3, .int .i64 x4, .int .i64 x5, .int .i64 x6, .slice xA xn xc, .int .i64 x8, .int .u8 x9, .int .i64 x10, .int .i64 x11, .int .i64 x12]) [(0, true), (1, true), (2, true), (3, true), (4, true), (6, true), (8, true), (9, true), (10, true), (11, true), (12, true), (5, false), (7, false), (13, true), (14, true), (15, false), (16, false), (17, true)] (by kernel_rfl) (by kernel_rfl) (by kernel_rfl) (by kernel_rfl) ba.drew ?_
            replace nt2 := nt2.drew
            replace own2 := SlO.bel own2 (Below.refl _ _).drew
            replace hs' := SlO.bel hs' (Below.refl _ _).drew
            replace ht' := SlO.bel ht' (Below.refl _ _).drew
            replace ba := ba.drew
            rw [show w4.heap.size = w4.drew.heap.size from rfl] at hsz4
            generalize w4.drew = w5 at *
            refine wpPl_qs 11 _ _ _ (by kernel_rfl) (by kernel_rfl) (by simp) ?_
            unfold clsS
            simp only [List.take_succ_cons, List.take_zero, List.drop_succ_cons, List.drop_zero, List.filterMap_cons, List.filterMap_nil, List.getElem?_toArray, List.getElem?_cons_zero, List.getElem?_cons_succ]
            repeat (first
              | go_big_quiet_skip
              | (go_big_quiet_want; go_big_quiet_op; go_big_quiet_on)
              | (refine id (?_ : wpQuiet _ _ _ _ (_ :: _) _); first | go_big_quiet_skip | (go_big_quiet_want; go_big_quiet_op; go_big_quiet_on)))
            refine wpQuiet_nil ?_
            have hown := Own.new .u8 w5 5 w5.heap.size (Nat.le_refl _) [] (by simp) #[] rfl 0 rfl (by simp)
            have hrF := own2.rd.bel (bel_alloc w5 (.cells #[] 5))
            refine wpPl_e _ (by rfl) (by kernel_rfl) (fun K hK => ?_)
            go_simp
            refine hK _ _ (ba.alloc _) ?_
            clear hK K
            refine wpPl_e _ (by rfl) (by kernel_rfl) (fun K hK => ?_)
            refine wp_appN _ (.tmp 96) (.tmp 97) 24 rfl .u8 w5.heap.size 5 i0 (.int .u8 0) 1 Try.underlying24 hi hz0 hz1 hz2 rfl (.slice (some ⟨w5.heap.size, 0, none⟩) 0 0) rfl [] hown _ _ _ _ rfl F hrF.1 (by simp; omega) (by decide) (by simp) ?_
            intro v6 w6 own6 hg6 _
            rw [List.nil_append] at own6
            obtain ⟨A6, c6, rfl, h61, h62, _⟩ := own6.form hfn
            have hb6 : Below w5.heap.size w5 w6 := (bel_alloc w5 (.cells #[] 5)).grown hg6 (by simp) (fun k h => by simp [Value.ownBlock] at h; omega)
            go_simp
            replace nt2 := nt2.bel_ hb6
            replace own2 := SlO.bel own2 hb6
            replace hs' := SlO.bel hs' hb6
            replace ht' := SlO.bel ht' hb6
            replace ba := ba.bel hb6
            replace own6 : SlO w6 w5.heap.size ⟨A6, fn, c6⟩ F := own6
            have hsz6 := hb6.size
            refine hK _ _ ba ?_
            clear hK K hg6 hown hrF hb6
            refine wpPl_qs 2 _ _ _ (by kernel_rfl) (by kernel_rfl) (by simp) ?_
            unfold clsS
            simp only [List.take_succ_cons, List.take_zero, List.drop_succ_cons, List.drop_zero, List.filterMap_cons, List.filterMap_nil, List.getElem?_toArray, List.getElem?_cons_zero, List.getElem?_cons_succ]
            repeat (first
              | go_big_quiet_skip
              | (go_big_quiet_want; go_big_quiet_op; go_big_quiet_on)
              | (refine id (?_ : wpQuiet _ _ _ _ (_ :: _) _); first | go_big_quiet_skip | (go_big_quiet_want; go_big_quiet_op; go_big_quiet_on)))
            refine wpQuiet_nil ?_
            have hy := RdT.new (cs := En.cs) (sz := 11) En.cs_len w6 35 [⟨now + 1, -1, false, x2, ⟨A6, fn, c6⟩, x10, x12, ⟨none, 0, 0⟩, 0, 0, 0⟩] #[.int .i64 (now + 1), .int .i64 (-1), .bool false, .bool x2, .slice A6 fn c6, .int .i64 x10, .int .i64 x12, .slice none 0 0, .int .i64 0, .int .i64 0, .int .i64 0] rfl 1 rfl
            have hal := bel_alloc w6 (.cells #[.int .i64 (now + 1), .int .i64 (-1), .bool false, .bool x2, .slice A6 fn c6, .int .i64 x10, .int .i64 x12, .slice none 0 0, .int .i64 0, .int .i64 0, .int .i64 0] 35)
            replace nt2 := nt2.bel_ hal
            replace own2 := SlO.bel own2 hal
            replace hs' := SlO.bel hs' hal
            replace ht' := SlO.bel ht' hal
            replace own6 := SlO.bel own6 hal
            replace ba := ba.bel hal
            have hsz7 := hal.size
            refine wpPl_e _ (by rfl) (by kernel_rfl) (fun K hK => ?_)
            go_simp
            refine hK _ _ ba ?_
            clear hK K hal
            generalize w6.alloc (.cells #[.int .i64 (now + 1), .int .i64 (-1), .bool false, .bool x2, .slice A6 fn c6, .int .i64 x10, .int .i64 x12, .slice none 0 0, .int .i64 0, .int .i64 0, .int .i64 0] 35) = w7 at *
            refine wpPl_e _ (by rfl) (by kernel_rfl) (fun K hK => ?_)
            refine wp_appT En.cs_len En.cs_one (by decide) _ (.tmp 91) (.tmp 106) 22 rfl gh 35 i1 (.agg #[.int .i64 0, .int .i64 0, .bool false, .bool false, .slice none 0 0, .int .i64 0, .int .i64 0, .slice none 0 0, .int .i64 0, .int .i64 0, .int .i64 0]) 120 Try.underlying22 hi1 hu0 hu1 hu2 rfl _ rfl D nt2.doc _ _ 1 1 rfl [⟨now + 1, -1, false, x2, ⟨A6, fn, c6⟩, x10, x12, ⟨none, 0, 0⟩, 0, 0, 0⟩] hy (by rw [nt.len2]; omega) (by decide) nt2.hsz ?_
            intro v8 w8 own8 hg8 hv8
            have hu8 : Upd (fun k => (Value.slice Ad m cd).ownBlock = some k) w7 w8 := Upd.of_grown hg8 (fun g e => e)
            go_simp
            have nt3 := nt2.stepD own8 hu8
            replace own2 := nt2.slD hu8 _ _ own2
            replace hs' := nt2.slD hu8 _ _ hs'
            replace ht' := nt2.slD hu8 _ _ ht'
            replace own6 := nt2.slD hu8 _ _ own6
            replace ba := ba.upd hu8 (fun e => nt2.doc.notBlk ba (by decide) e)
            refine hK _ _ ba ?_
            clear hK K hg8 hv8 hu8 own8 nt2 hy
            refine wpPl_qs 1 _ _ _ (by kernel_rfl) (by kernel_rfl) (by simp) ?_
            unfold clsS
            simp only [List.take_succ_cons, List.take_zero, List.drop_succ_cons, List.drop_zero, List.filterMap_cons, List.filterMap_nil, List.getElem?_toArray, List.getElem?_cons_zero, List.getElem?_cons_succ]
            repeat (first
              | go_big_quiet_skip
              | (go_big_quiet_want; go_big_quiet_op; go_big_quiet_on)
              | (refine id (?_ : wpQuiet _ _ _ _ (_ :: _) _); first | go_big_quiet_skip | (go_big_quiet_want; go_big_quiet_op; go_big_quiet_on)))
            refine wpQuiet_nil ?_
            unfold wpPl
            refine NoPanic.normal ?_
            replace own2 : Own .u8 5 w8 W1.heap.size (.slice (some ⟨fb, 0, none⟩) fn fc) F := own2
            have f0 : (0 : Int) < (fn : Int) := by omega
            have f1 : 0 < fn := by omega
            obtain ⟨hcf, hff, hif⟩ := own2.at_ hfn f1
            obtain ⟨fcs, hfblk⟩ := Own.blk_ own2 (x := fb) rfl
            go_wp2_with fail
            refine Met.intro ?_
            go_step
            refine frm_meet (by kernel_rfl) ?_
            have hle : L.length = D.length := nt.len.trans nt.len2.symm
            have nt4 := nt3.push hle (EtM.mk' (x := ⟨now + 1, -1, false, x2, s', x10, x12, t', 0, 0, 0⟩) (s := ⟨A6, fn, c6⟩) (t := ⟨none, 0, 0⟩) (by omega) (by simp) (SlO.lower hs' (by omega)) (SlO.lower own6 (by omega)) (SlO.lower ht' (by omega)) SlO.zero)
            have hnb2 := nb_push (x := ⟨now + 1, -1, false, x2, s', x10, x12, t', 0, 0, 0⟩) (y := ⟨now + 1, -1, false, x2, ⟨A6, fn, c6⟩, x10, x12, ⟨none, 0, 0⟩, 0, 0, 0⟩) hnb hle ⟨Nb.new hs' hfb3, Nb.new ht' hfb3, Nb.new own6 (by omega), by simp [Nb, Value.ownBlock]⟩
            exact ⟨⟨rfl, rfl⟩, rfl, now + 1, hv', v8, m + 1, _, _, by omega, by omega, rfl, rfl, nt4.flip hfblk (by omega) hnb2 0 _, by rw [List.length_append, nt.len]; rfl, by rw [List.length_append, nt.len2]; rfl, rt_push nt.rt (by omega) ⟨by show 1 ≤ now + 1; omega, Int.le_refl _, .inl ⟨rfl, rfl⟩⟩, by omega⟩
          · rw [decide_eq_false hq2] at hv70
            have hfr := frm_lit v
            rw [cm.v0, cm.v3, hv6, hv4, hv5, hv7, hv8, hv69, hv70] at hfr
            rw [hfr]
            clear hfr cm hv6
            clear hv4 hv5 hv7 hv8 hv69 hv70
            go_upto_if 113 with fail
            refine wp_cut (fun a' wx => ∃ v : Nat → Value, a' = ⟨(frm v).toArray, []⟩ ∧ Com (some ⟨b, o, none⟩) n c gh v ∧ v 6 = .int .i64 k ∧ v 4 = .slice Ad m cd ∧ v 5 = .int .i64 now ∧ v 7 = .pointer (some ⟨ga, 0, none⟩) ∧ v 8 = .slice (some ⟨fb, 0, none⟩) fn fc ∧ v 69 = .int .i64 q ∧ v 113 = .bool (decide (q < 4)) ∧ w2 = wx) ?_ ?_
            rotate_left
            · intro _ _ _ _
              have h5 : q = 2 ∨ q = 3 ∨ q = 4 := by omega
              clear hq hq5 hq2
              rcases h5 with rfl | rfl | rfl
              all_goals
                go_wp2_with fail
                refine Met.intro ?_
                go_step
                refine frm_meet (by kernel_rfl) ?_
                exact ⟨⟨rfl, rfl⟩, rfl, rfl, rfl, rfl, rfl, rfl, rfl, rfl⟩
            · intro a' wx hcut
              obtain ⟨v, rfl, cm, hv6, hv4, hv5, hv7, hv8, hv69, hv113, rfl⟩ := hcut
              have m0 : (0 : Int) ≤ (m : Int) := by omega
              by_cases hq4 : q < 4
              · rw [decide_eq_true hq4] at hv113
                have hfr := frm_lit v
                rw [cm.v0, cm.v3, hv6, hv4, hv5, hv7, hv8, hv69, hv113] at hfr
                rw [hfr]
                clear hfr cm hv6
                clear hv4 hv5 hv7 hv8 hv69 hv113 hq hq5 hq2 hq4
                have a1 := ba.cell 1
                have a12 := ba.cell 12
                go_upto_region 23 with fail
                refine wp_cut (fun a' wx => ∃ v : Nat → Value, a' = ⟨(frm v).toArray, []⟩ ∧ Com (some ⟨b, o, none⟩) n c gh v ∧ v 6 = .int .i64 k ∧ v 4 = .slice Ad m cd ∧ v 5 = .int .i64 now ∧ v 7 = .pointer (some ⟨ga, 0, none⟩) ∧ v 8 = .slice (some ⟨fb, 0, none⟩) fn fc ∧ v 10 = .int .i64 x1 ∧ ∃ B : Bool, (B = true → 0 < m) ∧ v 126 = .bool B ∧ w2 = wx) ?_ ?_
                rotate_left
                · intro _ _ _ _
                  rcases Nat.eq_zero_or_pos m with hm0 | hm0
                  · have e1 : decide (0 < m) = false := by simp; omega
                    have e2 : decide ((0 : Int) < (m : Int)) = false := by simp; omega
                    go_wp2_with fail
                    refine Met.intro ?_
                    go_step
                    refine frm_meet (by kernel_rfl) ?_
                    exact ⟨⟨rfl, rfl⟩, rfl, rfl, rfl, rfl, rfl, rfl, false, (fun h => by cases h), rfl, rfl⟩
                  · have e1 : decide (0 < m) = true := by simp; omega
                    have e2 : decide ((0 : Int) < (m : Int)) = true := by simp; omega
                    obtain ⟨T, hT⟩ : ∃ T, (x12.tmod 4 != 0) = T := ⟨_, rfl⟩
                    cases T with
                    | true =>
                      go_wp2_with fail
                      refine Met.intro ?_
                      go_step
                      refine frm_meet (by kernel_rfl) ?_
                      exact ⟨⟨rfl, rfl⟩, rfl, rfl, rfl, rfl, rfl, rfl, _, (fun _ => hm0), rfl, rfl⟩
                    | false =>
                      go_wp2_with fail
                      refine Met.intro ?_
                      go_step
                      refine frm_meet (by kernel_rfl) ?_
                      exact ⟨⟨rfl, rfl⟩, rfl, rfl, rfl, rfl, rfl, rfl, _, (fun _ => hm0), rfl, rfl⟩
                intro a' wx hcut
                obtain ⟨v, rfl, cm, hv6, hv4, hv5, hv7, hv8, hv10, B, hB, hv126, rfl⟩ := hcut
                have hfr := frm_lit v
                rw [cm.v0, cm.v3, hv6, hv4, hv5, hv7, hv8, hv10, hv126] at hfr
                rw [hfr]
                clear hfr cm hv6
                clear hv4 hv5 hv7 hv8 hv10 hv126 a12
                go_upto_if 126 with fail
                refine wp_cut (fun a' wx => ∃ v : Nat → Value, a' = ⟨(frm v).toArray, []⟩ ∧ Com (some ⟨b, o, none⟩) n c gh v ∧ v 6 = .int .i64 k ∧ v 4 = .slice Ad m cd ∧ v 5 = .int .i64 now ∧ v 7 = .pointer (some ⟨ga, 0, none⟩) ∧ v 8 = .slice (some ⟨fb, 0, none⟩) fn fc ∧ ∃ kk : Int, v 10 = .int .i64 kk ∧ w2 = wx) ?_ ?_
                rotate_left
                · intro _ _ _ _
                  cases B with
                  | true =>
                    have hm0 := hB rfl
                    clear hB
                    obtain ⟨q', hq', hq'm⟩ := modn x1 m (by omega)
                    go_wp2_with fail
                    refine Met.intro ?_
                    go_step
                    refine frm_meet (by kernel_rfl) ?_
                    exact ⟨⟨rfl, rfl⟩, rfl, rfl, rfl, rfl, rfl, _, rfl, rfl⟩
                  | false =>
                    clear hB
                    go_wp2_with fail
                    refine Met.intro ?_
                    go_step
                    refine frm_meet (by kernel_rfl) ?_
                    exact ⟨⟨rfl, rfl⟩, rfl, rfl, rfl, rfl, rfl, _, rfl, rfl⟩
                · clear a1 hB
                  intro a' wx hcut
                  obtain ⟨v, rfl, cm, hv6, hv4, hv5, hv7, hv8, kk, hv10, rfl⟩ := hcut
                  have hfr := frm_lit v
                  rw [cm.v0, cm.v3, hv6, hv4, hv5, hv7, hv8, hv10] at hfr
                  rw [hfr]
                  clear hfr cm hv6
                  clear hv4 hv5 hv7 hv8 hv10
                  have a11 := ba.cell 11
                  by_cases hfine : ∃ (j : Nat) (x : En), kk = j ∧ L[j]? = some x ∧ x.ends = false ∧ x.e = -1
                  · obtain ⟨j, x, rfl, hx, hx1, hx2⟩ := hfine
                    have hj : j < m := by have := (List.getElem?_eq_some_iff.1 hx).1; rw [nt.len] at this; exact this
                    obtain ⟨g, cd', he, _, _, _, _⟩ := nt1.doc.formG nt.len2 (by omega)
                    simp only [Value.slice.injEq] at he
                    obtain ⟨rfl, _, rfl⟩ := he
                    have hjD : j < D.length := by rw [nt.len2]; exact hj
                    obtain ⟨y, hy⟩ : ∃ y, D[j]? = some y := ⟨_, List.getElem?_eq_getElem hjD⟩
                    obtain ⟨F0, G0, sy, ty, hF0, _, hye, sl1, sl2, _, _⟩ := (nt1.al j x y hx hy).get
                    have hnbj := hnb j x y hx hy
                    have hrtj := nt.rt j x hx
                    obtain ⟨po, kE, kD⟩ := end_way x11 F x (by omega) (fun z hz => inr_u8 (own.rng z hz))
                    have ke := kE j (some ⟨fb, 0, none⟩) fn fc gh gh W1.heap.size now hv L w2 nt1.his nt1.hsz (by rw [nt.len]; omega) ⟨hn0, by omega⟩ own hx hx1 hx2
                    have c1 : y.e = -1 := by rw [hye]; exact hx2
                    have c2 : y.ends = false := by rw [hye]; exact hx1
                    have c3 : y.out = x.out := by rw [hye]
                    have c4 : y.port = x.port := by rw [hye]
                    replace ke := Lib.hid ke
                    replace kD := Lib.hid kD
                    replace hx := Lib.hid hx
                    replace hy := Lib.hid hy
                    replace hye := Lib.hid hye
                    replace c1 := Lib.hid c1
                    replace c2 := Lib.hid c2
                    replace c3 := Lib.hid c3
                    replace c4 := Lib.hid c4
                    replace hx1 := Lib.hid hx1
                    replace hx2 := Lib.hid hx2
                    clear kE
                    go_wp2_with fail
                    refine ke.out.mono ?_
                    rintro e w4 ⟨t', rfl, hM, ht', up⟩
                    clear ke a11
                    have nt2 := nt1.stepH hM up
                    have own2 : SlO w4 W1.heap.size ⟨some ⟨fb, 0, none⟩, fn, fc⟩ F := nt1.slH up _ F own
                    replace sl1 := nt1.slH up _ _ sl1
                    replace sl2 := nt1.slH up _ _ sl2
                    replace ba := ba.upd up (fun h => by
                      rcases h with h | h
                      · exact ba.ne_ nt1.his.obj (by decide) h
                      · exact nt1.his.row.notBlk ba (by decide) h)
                    have hsz4 := up.size
                    clear hM own nt1 up
                    have i0 : (0 : Int) ≤ (j : Int) := by omega
                    have i1 : (j : Int) < (m : Int) := by omega
                    go_upto_region 26 with fail
                    refine wp_cut (fun a' wx => ∃ v : Nat → Value, a' = ⟨(frm v).toArray, []⟩ ∧ Com (some ⟨b, o, none⟩) n c gh v ∧ v 6 = .int .i64 k ∧ v 4 = .slice (some ⟨g, 0, none⟩) m cd ∧ v 5 = .int .i64 now ∧ v 7 = .pointer (some ⟨ga, 0, none⟩) ∧ v 8 = .slice (some ⟨fb, 0, none⟩) fn fc ∧ v 10 = .int .i64 j ∧ v 11 = .int .i64 0 ∧ v 12 = .bool true ∧ w4 = wx) ?_ ?_
                    rotate_left
                    · intro _ _ _ _
                      have d1 := nt2.doc.at_ En.cs_len hy.out (f := 1) rfl
                      have d2 := nt2.doc.at_ En.cs_len hy.out (f := 2) rfl
                      rw [c1.out] at d1
                      rw [c2.out] at d2
                      go_wp2_with fail
                      all_goals
                        refine Met.intro ?_
                        go_step
                        refine frm_meet (by kernel_rfl) ?_
                        exact ⟨⟨rfl, rfl⟩, rfl, rfl, rfl, rfl, rfl, rfl, rfl, rfl, rfl⟩
                    intro a' wx hcut
                    obtain ⟨v, rfl, cm, hv6, hv4, hv5, hv7, hv8, hv10, hv11, hv12, rfl⟩ := hcut
                    have hfr := frm_lit v
                    rw [cm.v0, cm.v3, hv6, hv4, hv5, hv7, hv8, hv10, hv11, hv12] at hfr
                    rw [hfr]
                    clear hfr cm hv6
                    clear hv4 hv5 hv7 hv8 hv10 hv11 hv12
                    go_upto_region 31 with fail
                    have z11 : ∀ t : Tw (fun w' => Blk w' ga 58 #[.int .i64 x0, .int .i64 x1, .bool x2, .int .i64 x3, .int .i64 x4, .int .i64 x5, .int .i64 x6, .slice xA xn xc, .int .i64 x8, .int .u8 x9, .int .i64 x10, .int .i64 x11, .int .i64 x12]), t.w.cell? ⟨ga, 11, none⟩ = some (.int .i64 x11) := fun t => t.h.cell 11
                    have zz : Nonempty (Tw (fun w' => Blk w' ga 58 #[.int .i64 x0, .int .i64 x1, .bool x2, .int .i64 x3, .int .i64 x4, .int .i64 x5, .int .i64 x6, .slice xA xn xc, .int .i64 x8, .int .u8 x9, .int .i64 x10, .int .i64 x11, .int .i64 x12])) := ⟨⟨_, ba⟩⟩
                    refine wp_region_plan (fun w' => Blk w' ga 58 #[.int .i64 x0, .int .i64 x1, .bool x2, .int .i64 x3, .int .i64 x4, .int .i64 x5, .int .i64 x6, .slice xA xn xc, .int .i64 x8, .int .u8 x9, .int .i64 x10, .int .i64 x11, .int .i64 x12]) [(0, true), (1, true), (2, true), (3, true), (4, true), (6, true), (7, true), (8, true), (9, true), (5, false), (10, false), (11, true), (12, false)] (by kernel_rfl) (by kernel_rfl) (by kernel_rfl) (by kernel_rfl) ba.drew ?_
                    replace nt2 := nt2.drew
                    replace own2 := SlO.bel own2 (Below.refl _ _).drew
                    replace sl1 := SlO.bel sl1 (Below.refl _ _).drew
                    replace sl2 := SlO.bel sl2 (Below.refl _ _).drew
                    replace ht' := SlO.bel ht' (Below.refl _ _).drew
                    replace ba := ba.drew
                    rw [show w4.heap.size = w4.drew.heap.size from rfl] at hsz4
                    generalize w4.drew = w5 at *
                    have hyc : w5.rangeAt g (j * 11) (En.cs y) := fun f u hu => nt2.doc.at_ En.cs_len hy.out hu
                    have kd := kD.out y (now + 1) (some ⟨fb, 0, none⟩) fn fc w5 c3.out c4.out own2.rd
                    clear kD
                    replace kd := Lib.hid kd
                    refine wpPl_qs 9 _ _ _ (by kernel_rfl) (by kernel_rfl) (by simp) ?_
                    unfold clsS
                    simp only [List.take_succ_cons, List.take_zero, List.drop_succ_cons, List.drop_zero, List.filterMap_cons, List.filterMap_nil, List.getElem?_toArray, List.getElem?_cons_zero, List.getElem?_cons_succ]
                    repeat (first
                      | go_big_quiet_skip
                      | (go_big_quiet_want; go_big_quiet_op; go_big_quiet_on)
                      | (refine id (?_ : wpQuiet _ _ _ _ (_ :: _) _); first | go_big_quiet_skip | (go_big_quiet_want; go_big_quiet_op; go_big_quiet_on)))
                    refine wpQuiet_nil ?_
                    refine wpPl_e _ (by rfl) (by kernel_rfl) (fun K hK => ?_)
                    refine wp_load_mid 35 _ rfl g (j * 11) rfl (En.cs y) _ hyc Try.underlying35 rfl evt_size ?_
                    clear hyc
                    refine hK _ _ ba ?_
                    clear hK K
                    refine wpPl_e _ (by rfl) (by kernel_rfl) (fun K hK => ?_)
                    go_simp
                    refine kd.out.mono ?_
                    rintro e w6 ⟨t2, rfl, ht2, hb6⟩
                    clear kd
                    replace nt2 := nt2.bel_ hb6
                    replace own2 := SlO.bel own2 hb6
                    replace sl1 := SlO.bel sl1 hb6
                    replace sl2 := SlO.bel sl2 hb6
                    replace ht' := SlO.bel ht' hb6
                    replace ba := ba.bel hb6
                    have hsz6 := hb6.size
                    refine hK _ _ ba ?_
                    clear hK K hb6
                    refine wpPl_qs 1 _ _ _ (by kernel_rfl) (by kernel_rfl) (by simp) ?_
                    unfold clsS
                    simp only [List.take_succ_cons, List.take_zero, List.drop_succ_cons, List.drop_zero, List.filterMap_cons, List.filterMap_nil, List.getElem?_toArray, List.getElem?_cons_zero, List.getElem?_cons_succ]
                    repeat (first
                      | go_big_quiet_skip
                      | (go_big_quiet_want; go_big_quiet_op; go_big_quiet_on)
                      | (refine id (?_ : wpQuiet _ _ _ _ (_ :: _) _); first | go_big_quiet_skip | (go_big_quiet_want; go_big_quiet_op; go_big_quiet_on)))
                    refine wpQuiet_nil ?_
                    have hth : w6.there g (j * 11) 11 := fun jj hjj => ⟨by
                      have h1 : jj < y.cs.length := by rw [En.cs_len]; exact hjj
                      rw [nt2.doc.at_ En.cs_len hy.out (List.getElem?_eq_getElem h1)]; rfl, nt2.doc.frozen nt.len2 _⟩
                    have hds := OwnT.setAt En.cs_len nt2.doc hy.out (x' := { endE y (now + 1) x11 t2 with port := po })
                    have hus : Upd (fun k => (Value.slice (some ⟨g, 0, none⟩) m cd).ownBlock = some k) w6 (w6.setCells g (j * 11) (En.cs { endE y (now + 1) x11 t2 with port := po })) := (setCells_upd g _ _ w6).mono (fun k _ e => by rw [e]; rfl)
                    have hone : (En.cs { endE y (now + 1) x11 t2 with port := po }).toArray.all (·.oneCell') = true := all_oneCell_toArray (En.cs_one _)
                    have hst : ∀ (K : Act → World → Prop) (Q : Exit → Act → World → Prop) (op : Oper) (a : Act), (∃ x' y', op.dst = none ∧ op.op = .store 35 x' y' ∧ a.eval x' = .pointer (some ⟨g, j * 11, none⟩) ∧ a.eval y' = .agg (En.cs { endE y (now + 1) x11 t2 with port := po }).toArray) → K a (w6.setCells g (j * 11) (En.cs { endE y (now + 1) x11 t2 with port := po })) → op.wp Try.prog a w6 K Q :=
                      fun K Q op a ⟨x', y', g0, g2, g3, g4⟩ h => wp_store_mid 35 x' y' g2 g (j * 11) _ g3 g4 hth evt_size hone (by rw [g0]; exact h)
                    have nt3 := nt2.stepD hds hus
                    replace own2 := nt2.slD hus _ _ own2
                    replace sl1 := nt2.slD hus _ _ sl1
                    replace sl2 := nt2.slD hus _ _ sl2
                    replace ht' := nt2.slD hus _ _ ht'
                    replace ht2 := nt2.slD hus _ _ ht2
                    replace ba := ba.upd hus (fun e => nt2.doc.notBlk ba (by decide) e)
                    refine wpPl_e _ (by rfl) (by kernel_rfl) (fun K hK => ?_)
                    refine hst _ _ _ _ ⟨_, _, rfl, rfl, rfl, rfl⟩ ?_
                    clear hst hth hone hus hds
                    generalize w6.setCells g (j * 11) (En.cs { endE y (now + 1) x11 t2 with port := po }) = w7 at *
                    refine hK _ _ ba ?_
                    clear hK K z11 zz
                    unfold wpPl
                    refine NoPanic.normal ?_
                    replace own2 : Own .u8 5 w7 W1.heap.size (.slice (some ⟨fb, 0, none⟩) fn fc) F := own2
                    have f0 : (0 : Int) < (fn : Int) := by omega
                    have f1 : 0 < fn := by omega
                    obtain ⟨hcf, hff, hif⟩ := own2.at_ hfn f1
                    obtain ⟨fcs, hfblk⟩ := Own.blk_ own2 (x := fb) rfl
                    have hyy : ({ endE y (now + 1) x11 t2 with port := po } : En) = { ({ endE x (now + 1) x11 t' with port := po } : En) with f := sy, g := t2 } := by rw [hye.out]; rfl
                    rw [hyy] at nt3
                    clear hyy
                    have hnb4 : Nb sy fb := by have := hnbj.2.2.1; rw [hye.out] at this; exact this
                    clear c1 c2 c3 c4
                    go_wp2_with fail
                    refine Met.intro ?_
                    go_step
                    refine frm_meet (by kernel_rfl) ?_
                    have nt4 := nt3.put (EtM.mk' (x := { endE x (now + 1) x11 t' with port := po }) (s := sy) (t := t2) hF0 (by omega) sl1 sl2 (SlO.lower ht' (by omega)) (SlO.lower ht2 (by omega)))
                    have hnb2 := nb_put (i := j) (x := { endE x (now + 1) x11 t' with port := po }) (y := { ({ endE x (now + 1) x11 t' with port := po } : En) with f := sy, g := t2 }) hnb ⟨hnbj.1, Nb.new ht' hfb2, hnb4, Nb.new ht2 (by omega)⟩
                    exact ⟨⟨rfl, rfl⟩, rfl, now + 1, hv, _, m, _, _, by omega, by omega, rfl, rfl, nt4.flip hfblk (by omega) hnb2 0 _, by rw [List.length_set]; exact nt.len, by rw [List.length_set]; exact nt.len2, rt_put nt.rt (by omega) ⟨hrtj.1, by show x.b ≤ now + 1; have := hrtj.2.1; omega, .inr (by show x.b < now + 1; have := hrtj.2.1; omega)⟩, by omega⟩
                  · have hno : kk < 0 ∨ (m : Int) ≤ kk ∨ ∃ (j : Nat) (x : En), kk = j ∧ L[j]? = some x ∧ (x.ends = true ∨ x.ends = false ∧ (x.e != -1) = true) := by
                      rcases Int.lt_or_le kk 0 with h | h
                      · exact .inl h
                      · rcases Int.lt_or_le kk m with h2 | h2
                        · obtain ⟨j, rfl⟩ := Int.eq_ofNat_of_zero_le h
                          have hj : j < L.length := by rw [nt.len]; omega
                          refine .inr (.inr ⟨j, _, rfl, List.getElem?_eq_getElem hj, ?_⟩)
                          cases hx : L[j].ends with
                          | true => exact .inl rfl
                          | false =>
                            refine .inr ⟨rfl, ?_⟩
                            by_cases he : L[j].e = -1
                            · exact absurd ⟨j, _, rfl, List.getElem?_eq_getElem hj, hx, he⟩ hfine
                            · simpa using he
                        · exact .inr (.inl h2)
                    clear hfine
                    have ke := hEnd_no kk (some ⟨fb, 0, none⟩) fn fc x11 gh gh now hv L w2 nt1.his (by rw [nt.len]; omega) (by rw [nt.len]; exact hno)
                    replace ke := Lib.hid ke
                    go_wp2_with fail
                    refine ke.out.mono ?_
                    rintro e w4 ⟨rfl, hb4⟩
                    clear ke a11
                    replace nt1 := nt1.bel_ hb4
                    replace own := Own.below own hb4
                    clear hb4 ba
                    go_upto_region 26 with fail
                    refine wp_cut (fun a' wx => ∃ v : Nat → Value, a' = ⟨(frm v).toArray, []⟩ ∧ Com (some ⟨b, o, none⟩) n c gh v ∧ v 6 = .int .i64 k ∧ v 4 = .slice Ad m cd ∧ v 5 = .int .i64 now ∧ v 8 = .slice (some ⟨fb, 0, none⟩) fn fc ∧ v 11 = .int .i64 1 ∧ v 12 = .bool false ∧ w4 = wx) ?_ ?_
                    rotate_left
                    · intro _ _ _ _
                      rcases hno with h | h | ⟨j, x, rfl, hx, h⟩
                      · have e1 : decide (0 ≤ kk) = false := by simp; omega
                        go_wp2_with fail
                        refine Met.intro ?_
                        go_step
                        refine frm_meet (by kernel_rfl) ?_
                        exact ⟨⟨rfl, rfl⟩, rfl, rfl, rfl, rfl, rfl, rfl, rfl⟩
                      · have e0 : 0 ≤ kk := by omega
                        have e1 : decide (kk < (m : Int)) = false := by simp; omega
                        go_wp2_with fail
                        refine Met.intro ?_
                        go_step
                        refine frm_meet (by kernel_rfl) ?_
                        exact ⟨⟨rfl, rfl⟩, rfl, rfl, rfl, rfl, rfl, rfl, rfl⟩
                      · have hj : j < m := by have := (List.getElem?_eq_some_iff.1 hx).1; rw [nt.len] at this; exact this
                        obtain ⟨g, cd', he, _, _, _, _⟩ := nt1.doc.formG nt.len2 (by omega)
                        simp only [Value.slice.injEq] at he
                        obtain ⟨rfl, _, rfl⟩ := he
                        have hjD : j < D.length := by rw [nt.len2]; exact hj
                        obtain ⟨_, _, sy, ty, _, _, hy, _⟩ := (nt.nt.al j x _ hx (List.getElem?_eq_getElem hjD)).get
                        have c1 := nt1.doc.at_ En.cs_len (List.getElem?_eq_getElem hjD) (f := 1) rfl
                        have c2 := nt1.doc.at_ En.cs_len (List.getElem?_eq_getElem hjD) (f := 2) rfl
                        rw [hy] at c1 c2
                        simp only at c1 c2
                        clear hy
                        rcases h with h | ⟨h, h'⟩
                        · rw [h] at c2
                          replace h := Lib.hid h
                          go_wp2_with fail
                          all_goals
                            refine Met.intro ?_
                            go_step
                            refine frm_meet (by kernel_rfl) ?_
                            exact ⟨⟨rfl, rfl⟩, rfl, rfl, rfl, rfl, rfl, rfl, rfl⟩
                        · rw [h] at c2
                          replace h := Lib.hid h
                          have h2 : (x.e == -1) = false := by simpa using h'
                          generalize x.e = xe at *
                          clear h'
                          go_wp2_with fail
                          all_goals
                            refine Met.intro ?_
                            go_step
                            refine frm_meet (by kernel_rfl) ?_
                            exact ⟨⟨rfl, rfl⟩, rfl, rfl, rfl, rfl, rfl, rfl, rfl⟩
                    · intro a' wx hcut
                      obtain ⟨v, rfl, cm, hv6, hv4, hv5, hv8, hv11, hv12, rfl⟩ := hcut
                      have hfr := frm_lit v
                      rw [cm.v0, cm.v3, hv6, hv4, hv5, hv8, hv11, hv12] at hfr
                      rw [hfr]
                      clear hfr cm hv6
                      clear hv4 hv5 hv8 hv11 hv12 hno
                      have f0 : (0 : Int) < (fn : Int) := by omega
                      have f1 : 0 < fn := by omega
                      obtain ⟨hcf, hff, hif⟩ := own.at_ hfn f1
                      obtain ⟨fcs, hfblk⟩ := Own.blk_ own (x := fb) rfl
                      go_wp2_with fail
                      refine Met.intro ?_
                      go_step
                      refine frm_meet (by kernel_rfl) ?_
                      exact ⟨⟨rfl, rfl⟩, rfl, now, hv, _, m, L, D, by omega, by omega, rfl, rfl, nt1.flip hfblk (by omega) hnb 0 _, nt.len, nt.len2, nt.rt, hn0⟩
              · rw [decide_eq_false hq4] at hv113
                have hq44 : q = 4 := by omega
                have hfr := frm_lit v
                rw [cm.v0, cm.v3, hv6, hv4, hv5, hv7, hv8, hv69, hv113] at hfr
                rw [hfr]
                clear hfr cm hv6
                clear hv4 hv5 hv7 hv8 hv69 hv113 hq hq5 hq2 hq4 own hnb
                subst hq44
                have a1 := ba.cell 1
                have a12 := ba.cell 12
                go_upto_region 35 with fail
                refine wp_cut (fun a' wx => ∃ v : Nat → Value, a' = ⟨(frm v).toArray, []⟩ ∧ Com (some ⟨b, o, none⟩) n c gh v ∧ v 6 = .int .i64 k ∧ v 4 = .slice Ad m cd ∧ v 5 = .int .i64 now ∧ v 7 = .pointer (some ⟨ga, 0, none⟩) ∧ v 13 = .int .i64 x1 ∧ ∃ B : Bool, (B = true → 0 < now) ∧ v 219 = .bool B ∧ w2 = wx) ?_ ?_
                rotate_left
                · intro _ _ _ _
                  rcases Int.lt_or_le 0 now with hm0 | hm0
                  · have e1 : decide (0 < now) = true := by simpa using hm0
                    obtain ⟨T, hT⟩ : ∃ T, (x12.tmod 4 != 0) = T := ⟨_, rfl⟩
                    cases T with
                    | true =>
                      go_wp2_with fail
                      refine Met.intro ?_
                      go_step
                      refine frm_meet (by kernel_rfl) ?_
                      exact ⟨⟨rfl, rfl⟩, rfl, rfl, rfl, rfl, rfl, _, (fun _ => hm0), rfl, rfl⟩
                    | false =>
                      go_wp2_with fail
                      refine Met.intro ?_
                      go_step
                      refine frm_meet (by kernel_rfl) ?_
                      exact ⟨⟨rfl, rfl⟩, rfl, rfl, rfl, rfl, rfl, _, (fun _ => hm0), rfl, rfl⟩
                  · have e1 : decide (0 < now) = false := by simpa using hm0
                    go_wp2_with fail
                    refine Met.intro ?_
                    go_step
                    refine frm_meet (by kernel_rfl) ?_
                    exact ⟨⟨rfl, rfl⟩, rfl, rfl, rfl, rfl, rfl, false, (fun h => by cases h), rfl, rfl⟩
                intro a' wx hcut
                obtain ⟨v, rfl, cm, hv6, hv4, hv5, hv7, hv13, B, hB, hv219, rfl⟩ := hcut
                have hfr := frm_lit v
                rw [cm.v0, cm.v3, hv6, hv4, hv5, hv7, hv13, hv219] at hfr
                rw [hfr]
                clear hfr cm hv6
                clear hv4 hv5 hv7 hv13 hv219 a12
                go_upto_if 219 with fail
                refine wp_cut (fun a' wx => ∃ v : Nat → Value, a' = ⟨(frm v).toArray, []⟩ ∧ Com (some ⟨b, o, none⟩) n c gh v ∧ v 6 = .int .i64 k ∧ v 4 = .slice Ad m cd ∧ v 5 = .int .i64 now ∧ v 7 = .pointer (some ⟨ga, 0, none⟩) ∧ ∃ kk : Int, v 13 = .int .i64 kk ∧ w2 = wx) ?_ ?_
                rotate_left
                · intro _ _ _ _
                  cases B with
                  | true =>
                    have hm0 := hB rfl
                    clear hB
                    obtain ⟨q', hq', hq'm⟩ := modn x1 now hm0
                    go_wp2_with fail
                    refine Met.intro ?_
                    go_step
                    refine frm_meet (by kernel_rfl) ?_
                    exact ⟨⟨rfl, rfl⟩, rfl, rfl, rfl, rfl, _, rfl, rfl⟩
                  | false =>
                    clear hB
                    go_wp2_with fail
                    refine Met.intro ?_
                    go_step
                    refine frm_meet (by kernel_rfl) ?_
                    exact ⟨⟨rfl, rfl⟩, rfl, rfl, rfl, rfl, _, rfl, rfl⟩
                clear a1 hB
                intro a' wx hcut
                obtain ⟨v, rfl, cm, hv6, hv4, hv5, hv7, kk, hv13, rfl⟩ := hcut
                have hfr := frm_lit v
                rw [cm.v0, cm.v3, hv6, hv4, hv5, hv7, hv13] at hfr
                rw [hfr]
                clear hfr cm hv6
                clear hv4 hv5 hv7 hv13
                have a3 := ba.cell 3
                have a10 := ba.cell 10
                have a12 := ba.cell 12
                by_cases hno : kk < 1 ∨ now < kk
                · have ke := hEnded_no kk x10 x3 x12 gh gh now hv L w2 nt1.his hno
                  replace ke := Lib.hid ke
                  go_wp2_with fail
                  refine ke.out.mono ?_
                  rintro e w' ⟨rfl, rfl⟩
                  clear ke a3 a10 a12
                  rcases hno with h | h
                  · have e1 : decide (kk < 1) = true := by simpa using h
                    go_wp2_with fail
                    refine Met.intro ?_
                    go_step
                    refine frm_meet (by kernel_rfl) ?_
                    exact ⟨⟨rfl, rfl⟩, rfl, now, hv, _, m, L, D, by omega, by omega, rfl, rfl, nt1, nt.len, nt.len2, nt.rt, hn0⟩
                  · have e0 : 1 ≤ kk := by omega
                    have e1 : decide (now < kk) = true := by simpa using h
                    go_wp2_with fail
                    refine Met.intro ?_
                    go_step
                    refine frm_meet (by kernel_rfl) ?_
                    exact ⟨⟨rfl, rfl⟩, rfl, now, hv, _, m, L, D, by omega, by omega, rfl, rfl, nt1, nt.len, nt.len2, nt.rt, hn0⟩
                · have e0 : 1 ≤ kk := by omega
                  have e1 : kk ≤ now := by omega
                  clear hno
                  have ke := hEnded_any kk x10 x3 x12 gh gh now hv L w2 nt1.his nt1.hsz (by rw [nt.len]; omega) e0 e1 (by omega)
                  unfold EdR at ke
                  rw [nt.len] at ke
                  replace ke := Lib.hid ke
                  go_wp2_with fail
                  refine ke.out.mono ?_
                  rintro e w4 ⟨hv', s', t', rfl, hM, hs', ht', up⟩
                  clear ke a3 a10 a12
                  have nt2 := nt1.stepH hM up
                  replace ba := ba.upd up (fun h => by
                    rcases h with h | h
                    · exact ba.ne_ nt1.his.obj (by decide) h
                    · exact nt1.his.row.notBlk ba (by decide) h)
                  have hsz4 := up.size
                  clear hM nt1 up
                  have a3 := ba.cell 3
                  have a10 := ba.cell 10
                  have a12 := ba.cell 12
                  have d1 : decide (kk < 1) = false := by simpa using e0
                  have d2 : decide (now < kk) = false := by simpa using e1
                  have hy := RdT.new (cs := En.cs) (sz := 11) En.cs_len w4 35 [⟨kk, now + 1, true, false, ⟨none, 0, 0⟩, x10, 0, ⟨none, 0, 0⟩, 0, x3, x12⟩] #[.int .i64 kk, .int .i64 (now + 1), .bool true, .bool false, .slice none 0 0, .int .i64 x10, .int .i64 0, .slice none 0 0, .int .i64 0, .int .i64 x3, .int .i64 x12] rfl 1 rfl
                  have hal := bel_alloc w4 (.cells #[.int .i64 kk, .int .i64 (now + 1), .bool true, .bool false, .slice none 0 0, .int .i64 x10, .int .i64 0, .slice none 0 0, .int .i64 0, .int .i64 x3, .int .i64 x12] 35)
                  replace nt2 := nt2.bel_ hal
                  replace hs' := SlO.bel hs' hal
                  replace ht' := SlO.bel ht' hal
                  clear hal
                  go_wp2_with (at_builtin; generalize w4.alloc (.cells #[.int .i64 kk, .int .i64 (now + 1), .bool true, .bool false, .slice none 0 0, .int .i64 x10, .int .i64 0, .slice none 0 0, .int .i64 0, .int .i64 x3, .int .i64 x12] 35) = w5 at *; refine wpList_appT En.cs_len En.cs_one (by decide) _ rfl (.tmp 254) (.tmp 267) 22 rfl gh 35 i1 (.agg #[.int .i64 0, .int .i64 0, .bool false, .bool false, .slice none 0 0, .int .i64 0, .int .i64 0, .slice none 0 0, .int .i64 0, .int .i64 0, .int .i64 0]) 120 Try.underlying22 hi1 hu0 hu1 hu2 rfl _ rfl D nt2.doc _ _ 1 1 rfl [⟨kk, now + 1, true, false, ⟨none, 0, 0⟩, x10, 0, ⟨none, 0, 0⟩, 0, x3, x12⟩] hy (by rw [nt.len2]; omega) (by decide) nt2.hsz ?_; intro v8 w8 own8 hg8 hv8)
                  have hu8 : Upd (fun k => (Value.slice Ad m cd).ownBlock = some k) w5 w8 := Upd.of_grown hg8 (fun g e => e)
                  have nt3 := nt2.stepD own8 hu8
                  replace hs' := nt2.slD hu8 _ _ hs'
                  replace ht' := nt2.slD hu8 _ _ ht'
                  refine Met.intro ?_
                  go_step
                  refine frm_meet (by kernel_rfl) ?_
                  have hle : L.length = D.length := nt.len.trans nt.len2.symm
                  have nt4 := nt3.push hle (EtM.mk' (x := ⟨kk, now + 1, true, false, s', x10, 0, t', 0, x3, x12⟩) (s := ⟨none, 0, 0⟩) (t := ⟨none, 0, 0⟩) (by simp) (by simp) (SlO.lower hs' (by omega)) SlO.zero (SlO.lower ht' (by omega)) SlO.zero)
                  exact ⟨⟨rfl, rfl⟩, rfl, now + 1, hv', v8, m + 1, _, _, by omega, by omega, rfl, rfl, nt4, by rw [List.length_append, nt.len]; rfl, by rw [List.length_append, nt.len2]; rfl, rt_push nt.rt (by omega) ⟨e0, by show kk ≤ now + 1; omega, .inr (by show kk < now + 1; omega)⟩, by omega⟩
      · intro a' wr2 hcut
        obtain ⟨v, rfl, cm, hv6, now', hv', dv', m', L', D', hnow', hm', hv4, hv5, nt'⟩ := hcut
        obtain ⟨Ad2, cd2, rfl, hmc2, hcd2⟩ := nt'.nt.doc.form nt'.len2
        have hfr := frm_lit v
        rw [cm.v0, cm.v3, hv6, hv4, hv5] at hfr
        rw [hfr]
        clear hfr cm hv6
        clear hv4 hv5 own hnb ba nt1 hq hq5 nt
        obtain ⟨F', G', hF', hG', hall⟩ := nt'.all
        have ka := hAll_any gh gh now' hv' L' F' G' wr2 nt'.nt.his (by rw [nt'.len]; omega) (fun j x hx => by
          have hjD : j < D'.length := by rw [nt'.len2, ← nt'.len]; exact (List.getElem?_eq_some_iff.1 hx).1
          obtain ⟨s, t, _, h1, _, h3, _⟩ := hall j x _ hx (List.getElem?_eq_getElem hjD)
          exact ⟨h1.rd, h3.rd⟩) hF' hG'
        replace ka := Lib.hid ka
        go_wp2_with fail
        refine ka.out.mono ?_
        rintro e w5 ⟨vx, lx, rfl, ownx, ⟨hlx, hens⟩, hb5⟩
        clear ka
        have hlm : lx.length = m' := by rw [hlx, nt'.len]
        obtain ⟨Ax, cx, rfl, hx1, hx2⟩ := ownx.form hlm
        have hal : AlL L' lx L'.length := ⟨hlx, fun j x hj hx => by obtain ⟨s, t, h1, _⟩ := hens j x hj hx; exact ⟨_, h1, s, t, rfl⟩⟩
        have hr2 : rightB lx = true := by rw [hal.right]; exact nt'.right
        have hw2 : widthL lx = widthL D' := by rw [hal.width, nt'.alike.width]
        have nt5 := nt'.nt.bel_ hb5
        have rdx := ownx.rd En.cs_len rfl hlm
        have rdD := nt5.doc.rd En.cs_len rfl nt'.len2
        have k1 := hNow_any gh gh now' hv' L' w5 nt5.his
        have k2 := fun W (hb : Below w5.heap.size w5 W) => hRight_any lx W.heap.size Ax m' cx W ((rdx.below hb).more hb.size) (Nat.le_refl _) (by omega) hx1 hx2
        have k3 := fun W (hb : Below w5.heap.size w5 W) => hWidth_any lx W.heap.size Ax m' cx W ((rdx.below hb).more hb.size) (Nat.le_refl _) (by omega) hx1 hx2
        have k4 := fun W (hb : Below w5.heap.size w5 W) => rWidth_any D' W.heap.size Ad2 m' cd2 W ((rdD.below hb).more hb.size) (Nat.le_refl _) (by omega) hmc2 hcd2
        rw [hr2] at k2
        rw [hw2] at k3
        clear hr2 hw2 hal
        generalize widthL D' = wd at k3 k4
        replace k1 := Lib.hid k1
        replace k2 := Lib.hid k2
        replace k3 := Lib.hid k3
        replace k4 := Lib.hid k4
        replace hlm := Lib.hid hlm
        replace hlx := Lib.hid hlx
        replace hens := Lib.hid hens
        replace hall := Lib.hid hall
        unfold maxLen at hx2 hcd2
        go_wp2_with fail
        refine k1.out.mono ?_
        rintro e w' ⟨rfl, rfl⟩
        go_wp2_with fail
        refine (k2.out _ (Below.refl _ _)).mono ?_
        rintro e w6 ⟨rfl, hb6⟩
        go_wp2_with fail
        refine (k3.out _ hb6).mono ?_
        rintro e w7 ⟨rfl, hb7⟩
        replace hb6 := bel_after hb6 hb7
        clear hb7
        go_wp2_with fail
        refine (k4.out _ hb6).mono ?_
        rintro e w8 ⟨rfl, hb8⟩
        replace hb6 := bel_after hb6 hb8
        clear hb8 k1 k2 k3 k4
        go_wp2_with fail
        refine wp_loop_ghost_k (fun gk a' wr => ∃ v : Nat → Value, a' = ⟨(frm v).toArray, []⟩ ∧ ∃ j : Nat, gk = m' - j ∧ j ≤ m' ∧ Com (some ⟨b, o, none⟩) n c gh v ∧ v 4 = .slice Ad2 m' cd2 ∧ v 5 = .int .i64 now' ∧ v 6 = .int .i64 k ∧ v 15 = .slice Ax m' cx ∧ v 16 = .int .i64 j ∧ Below w5.heap.size w5 wr) m' ?_ ?_
        · refine frm_meet (by kernel_rfl) ?_
          exact ⟨0, rfl, Nat.zero_le _, ⟨rfl, rfl⟩, rfl, rfl, rfl, rfl, rfl, hb6⟩
        · clear hb6
          intro gk2 a' wr hrel _ _ _ _
          obtain ⟨v, rfl, j, hgk2, hj, cm, hv4, hv5, hv6, hv15, hv16, belw⟩ := hrel
          replace hgk2 := Lib.hid hgk2
          have hfr := frm_lit v
          rw [cm.v0, cm.v3, hv6, hv4, hv5, hv15, hv16] at hfr
          rw [hfr]
          clear hfr cm hv6
          clear hv4 hv5 hv15 hv16
          have i0 : (0 : Int) ≤ (j : Int) := by omega
          rcases Nat.lt_or_ge j m' with hjm | hjm
          · have d1 : decide ((j : Int) < (m' : Int)) = true := by simpa using hjm
            have d2 : decide (j < m') = true := by simpa using hjm
            have i1 : (j : Int) < (m' : Int) := by omega
            obtain ⟨x, hx⟩ : ∃ x, L'[j]? = some x := ⟨_, List.getElem?_eq_getElem (by rw [nt'.len]; exact hjm)⟩
            obtain ⟨y, hy⟩ : ∃ y, D'[j]? = some y := ⟨_, List.getElem?_eq_getElem (by rw [nt'.len2]; exact hjm)⟩
            obtain ⟨s1, t1, hx1', e1, e2⟩ := hens.out j x (by rw [nt'.len]; exact hjm) hx
            obtain ⟨s2, t2, hye, _, g1, _, g2⟩ := hall.out j x y hx hy
            subst hye
            obtain ⟨gx, ox, rfl, hgx, hcx⟩ := rdx.cel (by omega)
            obtain ⟨gd, od, rfl, hgd, hcd⟩ := rdD.cel (by omega)
            have y0 : ∀ w', (∃ t : Tw (Up wr), w' = t.w) → ∀ f u, ([.int .i64 { x with f := s1, g := t1 }.b, .int .i64 { x with f := s1, g := t1 }.e, .bool { x with f := s1, g := t1 }.ends, .bool { x with f := s1, g := t1 }.out, .slice { x with f := s1, g := t1 }.f.A { x with f := s1, g := t1 }.f.n { x with f := s1, g := t1 }.f.c, .int .i64 { x with f := s1, g := t1 }.tick, .int .i64 { x with f := s1, g := t1 }.port, .slice { x with f := s1, g := t1 }.g.A { x with f := s1, g := t1 }.g.n { x with f := s1, g := t1 }.g.c, .int .i64 { x with f := s1, g := t1 }.err, .int .i64 { x with f := s1, g := t1 }.proto, .int .i64 { x with f := s1, g := t1 }.pt] : List Value)[f]? = some u → w'.cell? ⟨gx, ox + j * 11 + f, none⟩ = some u := fun w' ⟨t, ht⟩ f u hu => ht ▸ ((bel_after belw t.h).cell (p := ⟨gx, ox + j * 11 + f, none⟩) hgx).trans (hcx j _ hx1' f u hu)
            have y1 : ∀ w', (∃ t : Tw (Up wr), w' = t.w) → ∀ f u, ([.int .i64 { x with f := s2, g := t2 }.b, .int .i64 { x with f := s2, g := t2 }.e, .bool { x with f := s2, g := t2 }.ends, .bool { x with f := s2, g := t2 }.out, .slice { x with f := s2, g := t2 }.f.A { x with f := s2, g := t2 }.f.n { x with f := s2, g := t2 }.f.c, .int .i64 { x with f := s2, g := t2 }.tick, .int .i64 { x with f := s2, g := t2 }.port, .slice { x with f := s2, g := t2 }.g.A { x with f := s2, g := t2 }.g.n { x with f := s2, g := t2 }.g.c, .int .i64 { x with f := s2, g := t2 }.err, .int .i64 { x with f := s2, g := t2 }.proto, .int .i64 { x with f := s2, g := t2 }.pt] : List Value)[f]? = some u → w'.cell? ⟨gd, od + j * 11 + f, none⟩ = some u := fun w' ⟨t, ht⟩ f u hu => ht ▸ ((bel_after belw t.h).cell (p := ⟨gd, od + j * 11 + f, none⟩) hgd).trans (hcd j _ hy f u hu)
            have kF := fun t : Tw (Up wr) => From_any { x with f := s1, g := t1 } t.w
            have kS := fun t : Tw (Up wr) => pSame_any { x with f := s1, g := t1 } s2 t2 (F' j) (G' j) t.w (e1.rd.bel (bel_after belw t.h)) ((g1.rd.bel hb5).bel (bel_after belw t.h)) (e2.rd.bel (bel_after belw t.h)) ((g2.rd.bel hb5).bel (bel_after belw t.h))
            have zz := Up.one wr
            clear hx hy hx1' e1 e2 g1 g2 hcx hcd
            replace y0 := Lib.hid y0
            replace y1 := Lib.hid y1
            replace kF := Lib.hid kF
            replace kS := Lib.hid kS
            go_upto_region 51 with fail
            refine region_tw (Up wr) (by kernel_rfl) (by kernel_rfl) (Up.rfl_ wr).drew ?_
            unfold clsS
            repeat (first
              | go_big_quiet_skip
              | (go_big_quiet_want; go_big_quiet_op; first | go_big_quiet_on | go_big_quiet_call (fail)))
            go_big_quiet_want
            refine quiet_ldAt rfl rfl y0.out Try.underlying31 en_size ?_
            go_simp
            go_big_quiet_on
            repeat (first
              | go_big_quiet_skip
              | (go_big_quiet_want; go_big_quiet_op; first | go_big_quiet_on | go_big_quiet_call (exact q_tw (Nat.le_refl _) (kF.out _))))
            go_big_quiet_want
            refine quiet_ldAt rfl rfl y1.out Try.underlying35 evt_size ?_
            go_simp
            go_big_quiet_on
            repeat (first
              | go_big_quiet_skip
              | (go_big_quiet_want; go_big_quiet_op; first | go_big_quiet_on | go_big_quiet_call (exact q_tw (Nat.le_refl _) (kS.out _))))
            refine wpQuiet_nil ?_
            intro tq
            have belq := bel_after belw tq.h
            clear y0 y1 kF kS zz
            go_wp2_with fail
            refine Handed.intro (m' - (j + 1)) (by have := hgk2.out; omega) ?_
            go_step
            refine frm_meet (by kernel_rfl) ?_
            exact ⟨j + 1, rfl, by omega, ⟨rfl, rfl⟩, rfl, rfl, rfl, rfl, rfl, belq⟩
          · have d1 : decide ((j : Int) < (m' : Int)) = false := by simp; omega
            have d2 : decide (j < m') = false := by simp; omega
            go_wp2_with fail
            refine Handed.intro (n - (k + 1)) (by have := hgk.out; omega) ?_
            go_step
            refine frm_meet (by kernel_rfl) ?_
            have nt6 := nt5.bel_ belw
            exact ⟨k + 1, now', hv', _, m', L', D', rfl, by omega, by omega, by omega, by omega, ⟨rfl, rfl⟩, rfl, rfl, rfl, nt6, nt'.len, nt'.len2, nt'.rt, nt'.hnow⟩
    · have hfr := frm_lit v
      rw [cm.v0, cm.v3, hv6, hv4, hv5] at hfr
      rw [hfr]
      clear hfr cm hv6
      clear hv4 hv5
      have hbz : Below w.heap.size w wr := bel_after bel (by rw [hgh.out]; exact nt.nt.bel)
      rcases Nat.lt_or_ge k n with h1 | h1
      · have hd : decide (k < n) = true := by simpa using h1
        have hd2 : decide ((k : Int) < 40) = false := by simp; omega
        go_wp2_with fail
        go_ret
        exact ⟨rfl, hbz⟩
      · have hd : decide (k < n) = false := by simpa using h1
        have hd3 : decide ((k : Int) < (n : Int)) = false := by simp; omega
        go_wp2_with fail
        go_ret
        exact ⟨rfl, hbz⟩
theorem arr13 {ys : List Value} {x0 x1 x2 x3 x4 x5 x6 x7 x8 x9 x10 x11 x12 : Value} (h0 : ys[0]? = some x0) (h1 : ys[1]? = some x1) (h2 : ys[2]? = some x2) (h3 : ys[3]? = some x3) (h4 : ys[4]? = some x4) (h5 : ys[5]? = some x5) (h6 : ys[6]? = some x6) (h7 : ys[7]? = some x7) (h8 : ys[8]? = some x8) (h9 : ys[9]? = some x9) (h10 : ys[10]? = some x10) (h11 : ys[11]? = some x11) (h12 : ys[12]? = some x12) :
    ∀ (j : Nat) v, ([x0, x1, x2, x3, x4, x5, x6, x7, x8, x9, x10, x11, x12] : List Value)[j]? = some v → ys[j]? = some v := fun j v hv => by
  match j with
  | 0 => rw [h0]; exact hv
  | 1 => rw [h1]; exact hv
  | 2 => rw [h2]; exact hv
  | 3 => rw [h3]; exact hv
  | 4 => rw [h4]; exact hv
  | 5 => rw [h5]; exact hv
  | 6 => rw [h6]; exact hv
  | 7 => rw [h7]; exact hv
  | 8 => rw [h8]; exact hv
  | 9 => rw [h9]; exact hv
  | 10 => rw [h10]; exact hv
  | 11 => rw [h11]; exact hv
  | 12 => rw [h12]; exact hv
  | j + 13 => simp at hv
set_option maxRecDepth 100000 in
theorem HistoryNotes_args (W : World) (args : Array Value) (hs : args.size = Try.f5.params.size) (hA : ∀ (j : Nat) t v, Try.f5.params[j]? = some t → args[j]? = some v → Arg Try.prog W t v) :
    Calls Try.prog 5 args W fun e W' => e = .returned (.bool true) ∧ Below W.heap.size W W' := by
  obtain ⟨v0, rfl⟩ := args1 hs
  obtain ⟨A, len, cap, m, rfl, h1, h2, h3⟩ := arg_slice Try.underlying47 (hA 0 47 v0 rfl rfl)
  have hC : Try.prog.cellsOf 58 = 13 := by kernel_rfl
  have hCi : Try.prog.cellsOf 3 = 1 := by kernel_rfl
  have hCl : Try.prog.cellsOf 4 = 1 := by kernel_rfl
  have hCb : Try.prog.cellsOf 5 = 1 := by kernel_rfl
  have hCs : Try.prog.cellsOf 24 = 1 := by kernel_rfl
  have hCt : Try.prog.cellsOf 56 = 9 := by kernel_rfl
  rw [hC] at h3
  have h4 := slice_rows (by omega) h3
  unfold maxLen at h2
  have hrd : HaRd W A len := by
    intro hp
    obtain ⟨b, o, rfl, hb, hi⟩ := h4 hp
    refine ⟨b, o, rfl, hb, fun i hil => ?_⟩
    obtain ⟨ys, hc, hl, hr⟩ := hi i hil
    obtain ⟨m', _, hf⟩ := rdg_struct Try.underlying58 hr
    obtain ⟨x0, e0, _⟩ := fld_int (i := 0) hf rfl Try.underlying3 hCi
    obtain ⟨x1, e1, _⟩ := fld_int (i := 1) hf rfl Try.underlying3 hCi
    obtain ⟨m2, _, hf2⟩ := rdg_struct Try.underlying56 (hf 2 _ rfl)
    obtain ⟨x11, e11, _⟩ := fld_int (i := 3) hf rfl Try.underlying3 hCi
    obtain ⟨x12, e12, _⟩ := fld_int (i := 4) hf rfl Try.underlying3 hCi
    obtain ⟨y0, u0⟩ := fld_bool (i := 0) hf2 rfl Try.underlying4 hCl
    obtain ⟨y1, u1, _⟩ := fld_int (i := 1) hf2 rfl Try.underlying3 hCi
    obtain ⟨y2, u2, _⟩ := fld_int (i := 2) hf2 rfl Try.underlying3 hCi
    obtain ⟨y3, u3, _⟩ := fld_int (i := 3) hf2 rfl Try.underlying3 hCi
    obtain ⟨y4, u4, _⟩ := fld_int (i := 4) hf2 rfl Try.underlying3 hCi
    obtain ⟨sA, sn, sc, sl, u5, g1, g2, g3⟩ := fld_ints (i := 5) hf2 rfl Try.underlying24 Try.underlying5 hCb hCs
    obtain ⟨y6, u6, _⟩ := fld_int (i := 6) hf2 rfl Try.underlying3 hCi
    obtain ⟨y7, u7, r7⟩ := fld_int (i := 7) hf2 rfl Try.underlying5 hCb
    obtain ⟨y8, u8, _⟩ := fld_int (i := 8) hf2 rfl Try.underlying3 hCi
    clear hf hf2 hr h3 h4 hi hA
    simp [List.getElem?_take, List.getElem?_drop, hCt] at u0 u1 u2 u3 u4 u5 u6 u7 u8
    refine ⟨⟨x0, x1, y0, y1, y2, y3, y4, ⟨sA, sn, sc⟩, y6, y7, y8, x11, x12⟩, inr_u8 r7, ⟨sl, g3, g1, g2⟩, fun j v hj => ?_⟩
    have hj13 : j < 13 := by
      rcases Nat.lt_or_ge j 13 with h | h
      · exact h
      · rw [List.getElem?_eq_none (by simp [Ha.cs]; omega)] at hj; cases hj
    exact (hc j (by omega)).trans (arr13 e0 e1 u0 u1 u2 u3 u4 u5 u6 u7 u8 e11 e12 j v hj)
  exact HistoryNotes_walk A len cap W hrd h1 (by omega)

set_option maxRecDepth 100000 in
theorem HistoryNotes_lifted (os : Os) (started : os.Started) (H : Type) (enc : TypeId × Value → H) :
    ReturnsInHanded {} Try.checked os 5 .any (Rows.historyNotesSpec.pre6 enc Try.prog Try.f5 Rows.historyNotesRow.domain false) (Rows.historyNotesSpec.post enc Try.prog Try.f5 false true false false) :=
  law_lifted os started H enc (by kernel_rfl) Try.func5 rfl rfl (fun H ds h => by match ds, h with | [_], _ => exact ⟨rfl, rfl, rfl⟩) (by kernel_rfl)
    (ChangeSpec.witness6 (enc := enc) (C := Try.checked) false ⟨#[], #[.slice none 0 0], []⟩ 8 (by kernel_rfl) (by kernel_rfl) (by kernel_rfl) (by kernel_rfl))
    HistoryNotes_args

/-- the statement -/
theorem historyNotes_holds : Rows.HistoryNotesSaid :=
  OpenClaim.holds_of_wide 5 Try.f5 rfl rfl rfl rfl rfl rfl rfl ⟨rfl, rfl, rfl, rfl, rfl⟩ rfl rfl rfl rfl rfl (by kernel_rfl) Try.func5 (by kernel_rfl)
    (of_decide_eq_true (by kernel_rfl)) (by unfold Func.isWrapper; first | (rw [if_pos (by decide +kernel)]; kernel_rfl) | (rw [if_neg (by decide +kernel)]; exact ⟨rfl, rfl⟩))
    (fun os started H enc _ => HistoryNotes_lifted os started H enc)

end Go.Proofs.Ytjaacmecniijgaa
