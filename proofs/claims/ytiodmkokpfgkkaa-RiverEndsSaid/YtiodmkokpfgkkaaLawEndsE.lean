/- The law RiverEnds: what is asked of the river itself. Conditions: what the frame holds. -/
import Derived.Test.YtiodmkokpfgkkaaLawEndsD
namespace Go.Proofs.Ytiodmkokpfgkkaa
open Go.RowKit Go.Hav Go.Shelf Go.Sq
attribute [local go_sem] Oper.semAt_some
section
variable {fa la : Option Addr} {fl fc ll lc : Nat} {r : IRiv} {b3 b12 b14 : Nat}
set_option maxRecDepth 100000 in
set_option maxHeartbeats 6400000 in
theorem ends3 (hok : okR r = true) {w0 w : World} (hB : Below w0.heap.size w0 w) (h3 : Blk w b3 27 #[.int .i64 r.depth.lo, .int .i64 r.depth.hi, .int .i64 r.fall.lo, .int .i64 r.fall.hi, .int .i64 r.days, .slice fa fl fc, .slice la ll lc]) (hP : RvIn w w.heap.size fa fl la ll r) (at_ which : Nat) (hat : at_ ≤ 255) (hwh : which ≤ 255) (c0 c4 c5 c6 c7 c8 c9 c10 c11 c12 c13 c14 c15 c16 c17 c18 c19 c20 c21 c22 c23 c24 c25 c26 c27 c28 c29 c30 c31 c32 c33 c34 c35 c36 c37 c38 c39 c40 c41 c42 c43 c44 c45 c46 c47 c48 c49 c50 c51 c52 c53 c54 c55 c56 c57 c58 c59 c60 c61 c62 c63 c64 c65 c66 c67 c68 c69 c70 c71 c72 c73 c74 c75 c76 c77 c78 c79 c80 c81 c82 c83 c84 c85 c86 c87 c88 c89 c90 c91 c92 c93 c94 c95 c96 c97 c98 c99 c100 c101 c102 c103 c104 c105 c106 c107 c108 c109 c110 c111 c112 c113 c114 c115 c116 c117 c118 c119 c120 c121 c122 c123 c124 c125 c126 c127 c128 c129 c130 c131 c132 c133 c134 c135 c136 c137 c138 c139 c140 c141 c142 c143 c144 c145 c146 c147 c148 c149 c150 c151 c152 c153 c154 c155 c156 c157 c158 c159 c160 c161 c162 c163 c164 c165 c166 c167 c168 c169 c170 c171 c172 c173 c174 c175 c176 c177 c178 c179 c180 c181 c182 c183 c184 c185 c186 c187 c188 c189 c190 c191 c192 c193 c194 c195 c196 c197 c198 c199 c200 c201 c202 c203 c204 c205 c206 c207 c208 c209 c210 c211 c212 c213 c214 c215 c216 c217 c218 c219 c220 c221 c222 c223 c224 c225 c226 c227 c228 c229 c230 c231 c232 c233 c234 c235 c236 c237 c238 c239 c240 c241 c242 c243 c244 c245 c246 c247 c248 c249 c250 c251 c252 c253 c254 c255 c256 c257 c258 c259 c260 c261 c262 c263 c264 c265 c266 c267 c268 c269 c270 c271 c272 c273 c274 c275 c276 c277 c278 c279 c280 c281 c282 c283 c284 c285 c286 c287 c288 c289 c290 c291 c292 c293 c294 c295 c296 c297 c298 c299 c300 c301 c302 c303 c304 c305 c306 c307 c308 c309 c310 c311 c312 c313 c314 c315 c316 c317 c318 c319 c320 c321 c322 c323 c324 c325 c326 c327 c328 c329 c330 c331 c332 c333 c334 c335 c336 c337 c338 c339 c340 c341 c342 c343 c344 c345 c346 c347 c348 c349 c350 c351 c352 c353 c354 c355 c356 c357 c358 c359 : Value) :
  Code.wp Try.prog (endsK 3) (bodyPost Try.prog Try.f7 (LawTrueT w0)) ⟨(c0::(.int .u8 at_)::(.int .u8 which)::(.pointer (some ⟨b3, 0, none⟩))::c4::c5::c6::c7::c8::c9::c10::c11::c12::c13::c14::c15::c16::c17::c18::c19::c20::c21::c22::c23::c24::c25::c26::c27::c28::c29::c30::c31::c32::c33::c34::c35::c36::c37::c38::c39::c40::c41::c42::c43::c44::c45::c46::c47::c48::c49::c50::c51::c52::c53::c54::c55::c56::c57::c58::c59::c60::c61::c62::c63::c64::c65::c66::c67::c68::c69::c70::c71::c72::c73::c74::c75::c76::c77::c78::c79::c80::c81::c82::c83::c84::c85::c86::c87::c88::c89::c90::c91::c92::c93::c94::c95::c96::c97::c98::c99::c100::c101::c102::c103::c104::c105::c106::c107::c108::c109::c110::c111::c112::c113::c114::c115::c116::c117::c118::c119::c120::c121::c122::c123::c124::c125::c126::c127::c128::c129::c130::c131::c132::c133::c134::c135::c136::c137::c138::c139::c140::c141::c142::c143::c144::c145::c146::c147::c148::c149::c150::c151::c152::c153::c154::c155::c156::c157::c158::c159::c160::c161::c162::c163::c164::c165::c166::c167::c168::c169::c170::c171::c172::c173::c174::c175::c176::c177::c178::c179::c180::c181::c182::c183::c184::c185::c186::c187::c188::c189::c190::c191::c192::c193::c194::c195::c196::c197::c198::c199::c200::c201::c202::c203::c204::c205::c206::c207::c208::c209::c210::c211::c212::c213::c214::c215::c216::c217::c218::c219::c220::c221::c222::c223::c224::c225::c226::c227::c228::c229::c230::c231::c232::c233::c234::c235::c236::c237::c238::c239::c240::c241::c242::c243::c244::c245::c246::c247::c248::c249::c250::c251::c252::c253::c254::c255::c256::c257::c258::c259::c260::c261::c262::c263::c264::c265::c266::c267::c268::c269::c270::c271::c272::c273::c274::c275::c276::c277::c278::c279::c280::c281::c282::c283::c284::c285::c286::c287::c288::c289::c290::c291::c292::c293::c294::c295::c296::c297::c298::c299::c300::c301::c302::c303::c304::c305::c306::c307::c308::c309::c310::c311::c312::c313::c314::c315::c316::c317::c318::c319::c320::c321::c322::c323::c324::c325::c326::c327::c328::c329::c330::c331::c332::c333::c334::c335::c336::c337::c338::c339::c340::c341::c342::c343::c344::c345::c346::c347::c348::c349::c350::c351::c352::c353::c354::c355::c356::c357::c358::c359::[]).toArray, []⟩ w := by
 obtain ⟨hdy, hdy1, hdy2⟩ := days_nat hok
 obtain ⟨d, hde⟩ : ∃ d, d = at_ % (r.nat.days + 1) := ⟨_, rfl⟩
 have hd : d ≤ r.nat.days := by have := Nat.mod_lt at_ (show 0 < r.nat.days + 1 by omega); omega
 have tm : (at_ : Int).tmod (r.days + 1) = (d : Int) := by
  have e : ((r.nat.days + 1 : Nat) : Int) = (r.nat.days : Int) + 1 := by omega
  rw [hde, hdy, Int.tmod_eq_emod_of_nonneg (by omega), ← e]
  exact (Int.natCast_emod _ _).symm
 have hnz : ((r.days + 1 : Int) == 0) = false := beq_eq_false_iff_ne.2 (by omega)
 have hr1 : 1 ≤ r.days := by omega
 have hr2 : r.days ≤ 10 := by omega
 obtain ⟨lo, hi, flo, fhi, cv, E, G, d0, d1, d2, hE⟩ := ends_vals hok hd
 have D0 := Lib.hid d0
 have D1 := Lib.hid d1
 have D2 := Lib.hid d2
 have D3 := Lib.hid (depth_no hok)
 have D4 : Hid (Value.tuple #[.int .i64 (freshV r (fl : Int)), .int .i64 (freshE r (fl : Int))] = .tuple #[.int .i64 0, .int .i64 2]) := by rw [← hP.efl]; exact fresh_no hok
 have D5 := Lib.hid (bears_no hok)
 have D6 := Lib.hid (until_no hok)
 have D7 := Lib.hid (days_no hok)
 have HE := Lib.hid hE
 have HOK := Lib.hid hok
 have HBW := Lib.hid hB
 have HDL := Lib.hid hd
 obtain ⟨w0', hw0⟩ : ∃ x, x = w := ⟨_, rfl⟩
 have HP0 := Lib.hid hP
 have HX0 : Hid (Blk w b3 27 #[.int .i64 r.depth.lo, .int .i64 r.depth.hi, .int .i64 r.fall.lo, .int .i64 r.fall.hi, .int .i64 r.days, .slice fa fl fc, .slice la ll lc]) := h3
 have HB0 : Hid (Below w.heap.size w w) := Below.refl _ _
 clear hde d0 d1 d2 hE hok hB h3 hP hd hw0 hdy hdy1 hdy2
 conv => arg 2; whnf
 conv => arg 2; arg 2; arg 2; arg 2; arg 2; arg 2; arg 2; arg 2; arg 2; arg 2; arg 2; arg 2; change endsK 14
 have HX := HX0
 have x0 := HX.out.cell 0
 have x1 := HX.out.cell 1
 have x2 := HX.out.cell 2
 have x3 := HX.out.cell 3
 have x4 := HX.out.cell 4
 have x5 := HX.out.cell 5
 have x6 := HX.out.cell 6
 have xl := HX.out.lt
 simp at x0 x1 x2 x3 x4 x5 x6
 go_wp2_with fail
 refine (PDepth_any (fa := fa) (fl := fl) (fc := fc) (la := la) (ll := ll) (lc := lc) (r := r) (w := w) (d : Int) (by exact HP0.out)).mono ?_
 rw [D0.out]
 rintro e v1 ⟨rfl, hb⟩
 obtain ⟨V1, hV1⟩ : ∃ W, W = v1.alloc (.cells #[.int .i64 (lo : Nat), .int .i64 (hi : Nat)] 23) := ⟨_, rfl⟩
 obtain ⟨b12, hb12⟩ : ∃ g, g = v1.heap.size := ⟨_, rfl⟩
 obtain ⟨w1, hw1⟩ : ∃ x, x = V1 := ⟨_, rfl⟩
 have HA : Below w.heap.size w w1 := by rw [hw1, hV1]; exact hb.alloc hb.size _
 have HN121 : Hid (Blk w1 b12 23 #[.int .i64 (lo : Nat), .int .i64 (hi : Nat)]) := by rw [hw1, hV1, hb12]; exact Blk.new v1 23 _
 have HB1 : Hid (Below w.heap.size w w1) := HB0.out.trans (HA.mono HB0.out.size)
 have HP1 := Lib.hid (HP0.out.grow HA)
 have HX1 : Hid (Blk w1 b3 27 #[.int .i64 r.depth.lo, .int .i64 r.depth.hi, .int .i64 r.fall.lo, .int .i64 r.fall.hi, .int .i64 r.days, .slice fa fl fc, .slice la ll lc]) := HX0.out.below HA HX0.out.lt
 clear hb HA x0 x1 x2 x3 x4 x5 x6 xl HX
 go_upto_region 9 with (fail)
 rw [← hV1, ← hb12, ← hw1]
 clear hV1 hb12 hw1
 have HX := HX1
 have x0 := HX.out.cell 0
 have x1 := HX.out.cell 1
 have x2 := HX.out.cell 2
 have x3 := HX.out.cell 3
 have x4 := HX.out.cell 4
 have x5 := HX.out.cell 5
 have x6 := HX.out.cell 6
 have xl := HX.out.lt
 simp at x0 x1 x2 x3 x4 x5 x6
 go_wp2_with fail
 refine (PFall_any (fa := fa) (fl := fl) (fc := fc) (la := la) (ll := ll) (lc := lc) (r := r) (w := w1) (by exact HP1.out)).mono ?_
 rw [D1.out]
 rintro e v2 ⟨rfl, hb⟩
 obtain ⟨V2, hV2⟩ : ∃ W, W = v2.alloc (.cells #[.int .i64 (flo : Nat), .int .i64 (fhi : Nat)] 23) := ⟨_, rfl⟩
 obtain ⟨b14, hb14⟩ : ∃ g, g = v2.heap.size := ⟨_, rfl⟩
 obtain ⟨w2, hw2⟩ : ∃ x, x = V2 := ⟨_, rfl⟩
 have HA : Below w1.heap.size w1 w2 := by rw [hw2, hV2]; exact hb.alloc hb.size _
 have HN142 : Hid (Blk w2 b14 23 #[.int .i64 (flo : Nat), .int .i64 (fhi : Nat)]) := by rw [hw2, hV2, hb14]; exact Blk.new v2 23 _
 have HB2 : Hid (Below w.heap.size w w2) := HB1.out.trans (HA.mono HB1.out.size)
 have HP2 := Lib.hid (HP1.out.grow HA)
 have HX2 : Hid (Blk w2 b3 27 #[.int .i64 r.depth.lo, .int .i64 r.depth.hi, .int .i64 r.fall.lo, .int .i64 r.fall.hi, .int .i64 r.days, .slice fa fl fc, .slice la ll lc]) := HX1.out.below HA HX1.out.lt
 have HN122 := Lib.hid (HN121.out.below HA HN121.out.lt)
 clear hb HA x0 x1 x2 x3 x4 x5 x6 xl HX
 go_upto_region 10 with (fail)
 rw [← hV2, ← hb14, ← hw2]
 clear hV2 hb14 hw2
 have HX := HX2
 have x0 := HX.out.cell 0
 have x1 := HX.out.cell 1
 have x2 := HX.out.cell 2
 have x3 := HX.out.cell 3
 have x4 := HX.out.cell 4
 have x5 := HX.out.cell 5
 have x6 := HX.out.cell 6
 have xl := HX.out.lt
 simp at x0 x1 x2 x3 x4 x5 x6
 go_wp2_with fail
 refine (PClash_any (fa := fa) (fl := fl) (fc := fc) (la := la) (ll := ll) (lc := lc) (r := r) (w := w2) (by exact HP2.out)).mono ?_
 rw [D2.out]
 rintro e v3 ⟨rfl, hb⟩
 obtain ⟨w3, hw3⟩ : ∃ x, x = v3 := ⟨_, rfl⟩
 have HA : Below w2.heap.size w2 w3 := by rw [hw3]; exact hb
 have HB3 : Hid (Below w.heap.size w w3) := HB2.out.trans (HA.mono HB2.out.size)
 have HP3 := Lib.hid (HP2.out.grow HA)
 have HX3 : Hid (Blk w3 b3 27 #[.int .i64 r.depth.lo, .int .i64 r.depth.hi, .int .i64 r.fall.lo, .int .i64 r.fall.hi, .int .i64 r.days, .slice fa fl fc, .slice la ll lc]) := HX2.out.below HA HX2.out.lt
 have HN123 := Lib.hid (HN122.out.below HA HN122.out.lt)
 have HN143 := Lib.hid (HN142.out.below HA HN142.out.lt)
 clear hb HA x0 x1 x2 x3 x4 x5 x6 xl HX
 rw [← hw3]
 clear hw3
 have HX := HX3
 have x0 := HX.out.cell 0
 have x1 := HX.out.cell 1
 have x2 := HX.out.cell 2
 have x3 := HX.out.cell 3
 have x4 := HX.out.cell 4
 have x5 := HX.out.cell 5
 have x6 := HX.out.cell 6
 have xl := HX.out.lt
 simp at x0 x1 x2 x3 x4 x5 x6
 go_wp2_with fail
 refine (PDepth_any (fa := fa) (fl := fl) (fc := fc) (la := la) (ll := ll) (lc := lc) (r := r) (w := w3) (r.days + 1) (by exact HP3.out)).mono ?_
 rw [D3.out]
 rintro e v4 ⟨rfl, hb⟩
 obtain ⟨V4, hV4⟩ : ∃ W, W = v4.alloc (.cells #[.int .i64 0, .int .i64 0] 23) := ⟨_, rfl⟩
 obtain ⟨b18, hb18⟩ : ∃ g, g = v4.heap.size := ⟨_, rfl⟩
 obtain ⟨w4, hw4⟩ : ∃ x, x = V4 := ⟨_, rfl⟩
 have HA : Below w3.heap.size w3 w4 := by rw [hw4, hV4]; exact hb.alloc hb.size _
 have HN184 : Hid (Blk w4 b18 23 #[.int .i64 0, .int .i64 0]) := by rw [hw4, hV4, hb18]; exact Blk.new v4 23 _
 have HB4 : Hid (Below w.heap.size w w4) := HB3.out.trans (HA.mono HB3.out.size)
 have HP4 := Lib.hid (HP3.out.grow HA)
 have HX4 : Hid (Blk w4 b3 27 #[.int .i64 r.depth.lo, .int .i64 r.depth.hi, .int .i64 r.fall.lo, .int .i64 r.fall.hi, .int .i64 r.days, .slice fa fl fc, .slice la ll lc]) := HX3.out.below HA HX3.out.lt
 have HN124 := Lib.hid (HN123.out.below HA HN123.out.lt)
 have HN144 := Lib.hid (HN143.out.below HA HN143.out.lt)
 clear hb HA x0 x1 x2 x3 x4 x5 x6 xl HX
 go_upto_region 12 with (fail)
 rw [← hV4, ← hb18, ← hw4]
 clear hV4 hb18 hw4
 have HX := HX4
 have x0 := HX.out.cell 0
 have x1 := HX.out.cell 1
 have x2 := HX.out.cell 2
 have x3 := HX.out.cell 3
 have x4 := HX.out.cell 4
 have x5 := HX.out.cell 5
 have x6 := HX.out.cell 6
 have xl := HX.out.lt
 simp at x0 x1 x2 x3 x4 x5 x6
 go_wp2_with fail
 refine (PFresh_any (fa := fa) (fl := fl) (fc := fc) (la := la) (ll := ll) (lc := lc) (r := r) (w := w4) (fl : Int) (by exact HP4.out)).mono ?_
 rw [D4.out]
 rintro e v5 ⟨rfl, hb⟩
 obtain ⟨w5, hw5⟩ : ∃ x, x = v5 := ⟨_, rfl⟩
 have HA : Below w4.heap.size w4 w5 := by rw [hw5]; exact hb
 have HB5 : Hid (Below w.heap.size w w5) := HB4.out.trans (HA.mono HB4.out.size)
 have HP5 := Lib.hid (HP4.out.grow HA)
 have HX5 : Hid (Blk w5 b3 27 #[.int .i64 r.depth.lo, .int .i64 r.depth.hi, .int .i64 r.fall.lo, .int .i64 r.fall.hi, .int .i64 r.days, .slice fa fl fc, .slice la ll lc]) := HX4.out.below HA HX4.out.lt
 have HN125 := Lib.hid (HN124.out.below HA HN124.out.lt)
 have HN145 := Lib.hid (HN144.out.below HA HN144.out.lt)
 clear hb HA x0 x1 x2 x3 x4 x5 x6 xl HX
 rw [← hw5]
 clear hw5
 have HX := HX5
 have x0 := HX.out.cell 0
 have x1 := HX.out.cell 1
 have x2 := HX.out.cell 2
 have x3 := HX.out.cell 3
 have x4 := HX.out.cell 4
 have x5 := HX.out.cell 5
 have x6 := HX.out.cell 6
 have xl := HX.out.lt
 simp at x0 x1 x2 x3 x4 x5 x6
 go_wp2_with fail
 refine (PBears_any (fa := fa) (fl := fl) (fc := fc) (la := la) (ll := ll) (lc := lc) (r := r) (w := w5) (-1) 0 (by exact HP5.out)).mono ?_
 rw [D5.out]
 rintro e v6 ⟨rfl, hb⟩
 obtain ⟨w6, hw6⟩ : ∃ x, x = v6 := ⟨_, rfl⟩
 have HA : Below w5.heap.size w5 w6 := by rw [hw6]; exact hb
 have HB6 : Hid (Below w.heap.size w w6) := HB5.out.trans (HA.mono HB5.out.size)
 have HP6 := Lib.hid (HP5.out.grow HA)
 have HX6 : Hid (Blk w6 b3 27 #[.int .i64 r.depth.lo, .int .i64 r.depth.hi, .int .i64 r.fall.lo, .int .i64 r.fall.hi, .int .i64 r.days, .slice fa fl fc, .slice la ll lc]) := HX5.out.below HA HX5.out.lt
 have HN126 := Lib.hid (HN125.out.below HA HN125.out.lt)
 have HN146 := Lib.hid (HN145.out.below HA HN145.out.lt)
 clear hb HA x0 x1 x2 x3 x4 x5 x6 xl HX
 rw [← hw6]
 clear hw6
 have HX := HX6
 have x0 := HX.out.cell 0
 have x1 := HX.out.cell 1
 have x2 := HX.out.cell 2
 have x3 := HX.out.cell 3
 have x4 := HX.out.cell 4
 have x5 := HX.out.cell 5
 have x6 := HX.out.cell 6
 have xl := HX.out.lt
 simp at x0 x1 x2 x3 x4 x5 x6
 go_wp2_with fail
 refine (PUntil_any (fa := fa) (fl := fl) (fc := fc) (la := la) (ll := ll) (lc := lc) (r := r) (w := w6) 201 (by exact HP6.out)).mono ?_
 rw [D6.out]
 rintro e v7 ⟨rfl, hb⟩
 obtain ⟨w7, hw7⟩ : ∃ x, x = v7 := ⟨_, rfl⟩
 have HA : Below w6.heap.size w6 w7 := by rw [hw7]; exact hb
 have HB7 : Hid (Below w.heap.size w w7) := HB6.out.trans (HA.mono HB6.out.size)
 have HP7 := Lib.hid (HP6.out.grow HA)
 have HX7 : Hid (Blk w7 b3 27 #[.int .i64 r.depth.lo, .int .i64 r.depth.hi, .int .i64 r.fall.lo, .int .i64 r.fall.hi, .int .i64 r.days, .slice fa fl fc, .slice la ll lc]) := HX6.out.below HA HX6.out.lt
 have HN127 := Lib.hid (HN126.out.below HA HN126.out.lt)
 have HN147 := Lib.hid (HN146.out.below HA HN146.out.lt)
 clear hb HA x0 x1 x2 x3 x4 x5 x6 xl HX
 rw [← hw7]
 clear hw7
 have HX := HX7
 have x0 := HX.out.cell 0
 have x1 := HX.out.cell 1
 have x2 := HX.out.cell 2
 have x3 := HX.out.cell 3
 have x4 := HX.out.cell 4
 have x5 := HX.out.cell 5
 have x6 := HX.out.cell 6
 have xl := HX.out.lt
 simp at x0 x1 x2 x3 x4 x5 x6
 go_wp2_with fail
 refine (PDays_any (fa := fa) (fl := fl) (fc := fc) (la := la) (ll := ll) (lc := lc) (r := r) (w := w7) (-1) (by exact HP7.out)).mono ?_
 rw [D7.out]
 rintro e v8 ⟨rfl, hb⟩
 obtain ⟨w8, hw8⟩ : ∃ x, x = v8 := ⟨_, rfl⟩
 have HA : Below w7.heap.size w7 w8 := by rw [hw8]; exact hb
 have HB8 : Hid (Below w.heap.size w w8) := HB7.out.trans (HA.mono HB7.out.size)
 have HP8 := Lib.hid (HP7.out.grow HA)
 have HX8 : Hid (Blk w8 b3 27 #[.int .i64 r.depth.lo, .int .i64 r.depth.hi, .int .i64 r.fall.lo, .int .i64 r.fall.hi, .int .i64 r.days, .slice fa fl fc, .slice la ll lc]) := HX7.out.below HA HX7.out.lt
 have HN128 := Lib.hid (HN127.out.below HA HN127.out.lt)
 have HN148 := Lib.hid (HN147.out.below HA HN147.out.lt)
 clear hb HA x0 x1 x2 x3 x4 x5 x6 xl HX
 rw [← hw8]
 clear hw8
 have HX := HX8
 have x0 := HX.out.cell 0
 have x1 := HX.out.cell 1
 have x2 := HX.out.cell 2
 have x3 := HX.out.cell 3
 have x4 := HX.out.cell 4
 have x5 := HX.out.cell 5
 have x6 := HX.out.cell 6
 have xl := HX.out.lt
 simp at x0 x1 x2 x3 x4 x5 x6
 rcases HE.out with ⟨rfl, rfl, ht, e1, e2, e3, e4⟩ | ⟨rfl, rfl, rfl, rfl, rfl, rfl⟩
 ·have HFIN : Hid (∀ (c0 c1 c4 c5 c6 c7 c8 c9 c10 c13 c15 c16 c17 c18 c19 c20 c21 c22 c23 c24 c25 c26 c27 c28 c29 c30 c31 c32 c33 c34 c35 c36 c37 c38 c39 c40 c41 c42 c43 c44 c45 c46 c47 c48 c49 c50 c51 c52 c53 c54 c55 c56 c57 c58 c59 c60 c61 c62 c63 c64 c65 c66 c67 c68 c69 c70 c71 c72 c73 c74 c75 c76 c77 c78 c79 c80 c81 c82 c83 c84 c85 c86 c87 c88 c89 c90 c91 c92 c93 c94 c95 c96 c97 c98 c99 c100 c101 c102 c103 c104 c105 c106 c107 c108 c109 c110 c111 c112 c113 c114 c115 c116 c117 c118 c119 c120 c121 c122 c123 c124 c125 c126 c127 c128 c129 c130 c131 c132 c133 c134 c135 c136 c137 c138 c139 c140 c141 c142 c143 c144 c145 c146 c147 c148 c149 c150 c151 c152 c153 c154 c155 c156 c157 c158 c159 c160 c161 c162 c163 c164 c165 c166 c167 c168 c169 c170 c171 c172 c173 c174 c175 c176 c177 c178 c179 c180 c181 c182 c183 c184 c185 c186 c187 c188 c189 c190 c191 c192 c193 c194 c195 c196 c197 c198 c199 c200 c201 c202 c203 c204 c205 c206 c207 c208 c209 c210 c211 c212 c213 c214 c215 c216 c217 c218 c219 c220 c221 c222 c223 c224 c225 c226 c227 c228 c229 c230 c231 c232 c233 c234 c235 c236 c237 c238 c239 c240 c241 c242 c243 c244 c245 c246 c247 c248 c249 c250 c251 c252 c253 c254 c255 c256 c257 c258 c259 c260 c261 c262 c263 c264 c265 c266 c267 c268 c269 c270 c271 c272 c273 c274 c275 c276 c277 c278 c279 c280 c281 c282 c283 c284 c285 c286 c287 c288 c289 c290 c291 c292 c293 c294 c295 c296 c297 c298 c299 c300 c301 c302 c303 c304 c305 c306 c307 c308 c309 c310 c311 c312 c313 c314 c315 c316 c317 c318 c319 c320 c321 c322 c323 c324 c325 c326 c327 c328 c329 c330 c331 c332 c333 c334 c335 c336 c337 c338 c339 c340 c341 c342 c343 c344 c345 c346 c347 c348 c349 c350 c351 c352 c353 c354 c355 c356 c357 c358 c359 : Value), Code.wp Try.prog (endsK 14) (bodyPost Try.prog Try.f7 (LawTrueT w0)) ⟨(c0::c1::(.int .u8 which)::(.pointer (some ⟨b3, 0, none⟩))::c4::c5::c6::c7::c8::c9::c10::(.int .i64 d)::(.pointer (some ⟨b12, 0, none⟩))::c13::(.pointer (some ⟨b14, 0, none⟩))::c15::c16::c17::c18::c19::c20::c21::c22::c23::c24::c25::c26::c27::c28::c29::c30::c31::c32::c33::c34::c35::c36::c37::c38::c39::c40::c41::c42::c43::c44::c45::c46::c47::c48::c49::c50::c51::c52::c53::c54::c55::c56::c57::c58::c59::c60::c61::c62::c63::c64::c65::c66::c67::c68::c69::c70::c71::c72::c73::c74::c75::c76::c77::c78::c79::c80::c81::c82::c83::c84::c85::c86::c87::c88::c89::c90::c91::c92::c93::c94::c95::c96::c97::c98::c99::c100::c101::c102::c103::c104::c105::c106::c107::c108::c109::c110::c111::c112::c113::c114::c115::c116::c117::c118::c119::c120::c121::c122::c123::c124::c125::c126::c127::c128::c129::c130::c131::c132::c133::c134::c135::c136::c137::c138::c139::c140::c141::c142::c143::c144::c145::c146::c147::c148::c149::c150::c151::c152::c153::c154::c155::c156::c157::c158::c159::c160::c161::c162::c163::c164::c165::c166::c167::c168::c169::c170::c171::c172::c173::c174::c175::c176::c177::c178::c179::c180::c181::c182::c183::c184::c185::c186::c187::c188::c189::c190::c191::c192::c193::c194::c195::c196::c197::c198::c199::c200::c201::c202::c203::c204::c205::c206::c207::c208::c209::c210::c211::c212::c213::c214::c215::c216::c217::c218::c219::c220::c221::c222::c223::c224::c225::c226::c227::c228::c229::c230::c231::c232::c233::c234::c235::c236::c237::c238::c239::c240::c241::c242::c243::c244::c245::c246::c247::c248::c249::c250::c251::c252::c253::c254::c255::c256::c257::c258::c259::c260::c261::c262::c263::c264::c265::c266::c267::c268::c269::c270::c271::c272::c273::c274::c275::c276::c277::c278::c279::c280::c281::c282::c283::c284::c285::c286::c287::c288::c289::c290::c291::c292::c293::c294::c295::c296::c297::c298::c299::c300::c301::c302::c303::c304::c305::c306::c307::c308::c309::c310::c311::c312::c313::c314::c315::c316::c317::c318::c319::c320::c321::c322::c323::c324::c325::c326::c327::c328::c329::c330::c331::c332::c333::c334::c335::c336::c337::c338::c339::c340::c341::c342::c343::c344::c345::c346::c347::c348::c349::c350::c351::c352::c353::c354::c355::c356::c357::c358::c359::[]).toArray, []⟩ w8) :=
   ends14 HOK.out ht HX8.out HP8.out (by rw [← e3, ← e4]; exact HN148.out) which d (fun w9 h9 => ends15 HOK.out ht (HX8.out.below h9 HX8.out.lt) (HP8.out.grow h9) which d hwh (fun w10 h10 => ends16 HOK.out ht HDL.out (HBW.out.trans ((HB8.out.trans ((h9.trans (h10.mono h9.size)).mono HB8.out.size)).mono HBW.out.size)) ((HX8.out.below h9 HX8.out.lt).below h10 (HX8.out.below h9 HX8.out.lt).lt) ((HP8.out.grow h9).grow h10) (by
    rw [← e1, ← e2]
    have h := HN128.out.below h9 HN128.out.lt
    exact h.below h10 h.lt)))
  clear ht e1 e2 e3 e4 HE
  go_wp2
  exact HFIN.out _ _ _ _ _ _ _ _ _ _ _ _ _ _ _ _ _ _ _ _ _ _ _ _ _ _ _ _ _ _ _ _ _ _ _ _ _ _ _ _ _ _ _ _ _ _ _ _ _ _ _ _ _ _ _ _ _ _ _ _ _ _ _ _ _ _ _ _ _ _ _ _ _ _ _ _ _ _ _ _ _ _ _ _ _ _ _ _ _ _ _ _ _ _ _ _ _ _ _ _ _ _ _ _ _ _ _ _ _ _ _ _ _ _ _ _ _ _ _ _ _ _ _ _ _ _ _ _ _ _ _ _ _ _ _ _ _ _ _ _ _ _ _ _ _ _ _ _ _ _ _ _ _ _ _ _ _ _ _ _ _ _ _ _ _ _ _ _ _ _ _ _ _ _ _ _ _ _ _ _ _ _ _ _ _ _ _ _ _ _ _ _ _ _ _ _ _ _ _ _ _ _ _ _ _ _ _ _ _ _ _ _ _ _ _ _ _ _ _ _ _ _ _ _ _ _ _ _ _ _ _ _ _ _ _ _ _ _ _ _ _ _ _ _ _ _ _ _ _ _ _ _ _ _ _ _ _ _ _ _ _ _ _ _ _ _ _ _ _ _ _ _ _ _ _ _ _ _ _ _ _ _ _ _ _ _ _ _ _ _ _ _ _ _ _ _ _ _ _ _ _ _ _ _ _ _ _ _ _ _ _ _ _ _ _ _ _ _ _ _ _ _ _ _ _ _ _ _ _ _ _ _ _ _ _ _ _ _ _ _ _ _ _ _ _ _ _ _ _ _ _ _ _ _ _
 ·have y0 := HN128.out.cell 0
  have y1 := HN128.out.cell 1
  have yl := HN128.out.lt
  have z0 := HN148.out.cell 0
  have z1 := HN148.out.cell 1
  have zl := HN148.out.lt
  simp at y0 y1 z0 z1
  go_wp2_with fail
  refine (alive_any _).mono ?_
  rintro e wz ⟨rfl, hbz⟩
  have HBz : Hid (Below w0.heap.size w0 wz) := HBW.out.trans ((HB8.out.trans (hbz.mono HB8.out.size)).mono HBW.out.size)
  clear hbz
  go_wp2
  go_ret
  exact ⟨rfl, HBz.out⟩
end
end Go.Proofs.Ytiodmkokpfgkkaa
