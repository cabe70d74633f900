/- The law RiverTrue, the loop of the days. Conditions: what the frame holds. -/
import Derived.Test.YtiodmkokpfgkkaaLawTrueA
import Derived.Test.YtiodmkokpfgkkaaHavText
namespace Go.Proofs.Ytiodmkokpfgkkaa
open Go.RowKit Go.Hav Go.Shelf Go.Sq
attribute [local go_sem] Oper.semAt_some
section
variable {fa lA pA : Option Addr} {fl fc ll lp pc : Nat} {r : IRiv} {b7 : Nat} {t : Tr} {lk : List ILk}
theorem until_is {n : Nat} {UN UE : Int} (hU : Value.tuple #[.int .i64 UN, .int .i64 UE] = if untilP (lR r lk).nat n = 0 then .tuple #[.int .i64 0, .int .i64 4] else .tuple #[.int .i64 ((untilP (lR r lk).nat n - 1 : Nat) : Int), .int .i64 0]) : (UE = 4 ∧ untilP (lR r lk).nat n = 0) ∨ (UE = 0 ∧ 0 < untilP (lR r lk).nat n ∧ UN = ((untilP (lR r lk).nat n - 1 : Nat) : Int)) := by
 split at hU
 ·rename_i h
  obtain ⟨_, h2⟩ : UN = 0 ∧ UE = 4 := by simpa using hU
  exact .inl ⟨h2, h⟩
 ·rename_i h
  obtain ⟨h1, h2⟩ : UN = ((untilP (lR r lk).nat n - 1 : Nat) : Int) ∧ UE = 0 := by simpa using hU
  exact .inr ⟨h2, by omega, h1⟩
theorem last_is {n : Nat} {LN LE : Int} (hL : Value.tuple #[.int .i64 LN, .int .i64 LE] = if lastP (lR r lk).nat n = 0 then .tuple #[.int .i64 0, .int .i64 4] else .tuple #[.int .i64 ((lastP (lR r lk).nat n - 1 : Nat) : Int), .int .i64 0]) : (LE = 4 ∧ lastP (lR r lk).nat n = 0) ∨ (LE = 0 ∧ 0 < lastP (lR r lk).nat n ∧ LN = ((lastP (lR r lk).nat n - 1 : Nat) : Int)) := by
 split at hL
 ·rename_i h
  obtain ⟨_, h2⟩ : LN = 0 ∧ LE = 4 := by simpa using hL
  exact .inl ⟨h2, h⟩
 ·rename_i h
  obtain ⟨h1, h2⟩ : LN = ((lastP (lR r lk).nat n - 1 : Nat) : Int) ∧ LE = 0 := by simpa using hL
  exact .inr ⟨h2, by omega, h1⟩
set_option maxRecDepth 100000 in
set_option maxHeartbeats 6400000 in
theorem true11 (hok : okR r = true) (hTI : TrueIn r t lk) {n : Nat} (hn : n < 130) {w0 w : World} (hB : Below w0.heap.size w0 w) (h7 : Blk w b7 27 #[.int .i64 r.depth.lo, .int .i64 r.depth.hi, .int .i64 r.fall.lo, .int .i64 r.fall.hi, .int .i64 r.days, .slice fa fl fc, .slice lA ll lp]) (hP : RvIn w w.heap.size fa fl lA ll (lR r lk)) (hD : RowN nV 3 w pA ((List.range (r.nat.days + 1)).map t.at_))
  {UN UE LN LE : Int} (hU : Value.tuple #[.int .i64 UN, .int .i64 UE] = if untilP (lR r lk).nat n = 0 then .tuple #[.int .i64 0, .int .i64 4] else .tuple #[.int .i64 ((untilP (lR r lk).nat n - 1 : Nat) : Int), .int .i64 0]) (hL : Value.tuple #[.int .i64 LN, .int .i64 LE] = if lastP (lR r lk).nat n = 0 then .tuple #[.int .i64 0, .int .i64 4] else .tuple #[.int .i64 ((lastP (lR r lk).nat n - 1 : Nat) : Int), .int .i64 0]) (c0 c1 c2 c3 c4 c5 c6 c8 c9 c12 c13 c14 c15 c18 c23 c24 c25 c26 c27 c28 c29 c30 c31 c32 c33 c34 c35 c36 c37 c38 c39 c40 c41 c42 c43 c44 c45 c46 c47 c48 c49 c50 c51 c52 c53 c54 c55 c56 c57 c58 c59 c60 c61 c62 c63 c64 c65 c66 c67 c68 c69 c70 c71 c72 c73 c74 c75 c76 c77 c78 c79 c80 c81 c82 c83 c84 c85 c86 c87 c88 c89 c90 c91 c92 c93 c94 c95 c96 c97 c98 c99 c100 c101 c102 c103 c104 c105 c106 c107 c108 c109 c110 c111 c112 c113 c114 c115 c116 c117 c118 c119 c120 c121 c122 c123 c124 c125 c126 c127 c128 c129 c130 c131 c132 c133 c134 c135 c136 c137 c138 c139 c140 c141 c142 c143 c144 c145 c146 c147 c148 c149 c150 c151 c152 c153 c154 c155 c156 c157 c158 c159 c160 c161 c162 c163 c164 c165 c166 c167 c168 c169 c170 c171 c172 c173 c174 c175 c176 c177 c178 c179 c180 c181 c182 c183 c184 c185 c186 c187 c188 c189 c190 c191 c192 c193 c194 c195 c196 c197 c198 c199 c200 c201 c202 c203 c204 c205 c206 c207 c208 c209 c210 c211 c212 c213 c214 c215 c216 c217 c218 c219 c220 c221 c222 c223 c224 c225 c226 c227 c228 c229 c230 c231 c232 c233 c234 c235 c236 c237 c238 c239 c240 c241 c242 c243 c244 c245 c246 c247 c248 : Value) :
  Code.wp Try.prog (trueK 11) (bodyPost Try.prog Try.f6 (LawTrueT w0)) ⟨(c0::c1::c2::c3::c4::c5::c6::(.pointer (some ⟨b7, 0, none⟩))::c8::c9::(.slice pA (r.nat.days + 1) pc)::(.int .i64 n)::c12::c13::c14::c15::(.int .i64 (surelyP (lR r lk).nat n : Nat))::(.int .i64 (perhapsP (lR r lk).nat n : Nat))::c18::(.int .i64 UN)::(.int .i64 UE)::(.int .i64 LN)::(.int .i64 LE)::c23::c24::c25::c26::c27::c28::c29::c30::c31::c32::c33::c34::c35::c36::c37::c38::c39::c40::c41::c42::c43::c44::c45::c46::c47::c48::c49::c50::c51::c52::c53::c54::c55::c56::c57::c58::c59::c60::c61::c62::c63::c64::c65::c66::c67::c68::c69::c70::c71::c72::c73::c74::c75::c76::c77::c78::c79::c80::c81::c82::c83::c84::c85::c86::c87::c88::c89::c90::c91::c92::c93::c94::c95::c96::c97::c98::c99::c100::c101::c102::c103::c104::c105::c106::c107::c108::c109::c110::c111::c112::c113::c114::c115::c116::c117::c118::c119::c120::c121::c122::c123::c124::c125::c126::c127::c128::c129::c130::c131::c132::c133::c134::c135::c136::c137::c138::c139::c140::c141::c142::c143::c144::c145::c146::c147::c148::c149::c150::c151::c152::c153::c154::c155::c156::c157::c158::c159::c160::c161::c162::c163::c164::c165::c166::c167::c168::c169::c170::c171::c172::c173::c174::c175::c176::c177::c178::c179::c180::c181::c182::c183::c184::c185::c186::c187::c188::c189::c190::c191::c192::c193::c194::c195::c196::c197::c198::c199::c200::c201::c202::c203::c204::c205::c206::c207::c208::c209::c210::c211::c212::c213::c214::c215::c216::c217::c218::c219::c220::c221::c222::c223::c224::c225::c226::c227::c228::c229::c230::c231::c232::c233::c234::c235::c236::c237::c238::c239::c240::c241::c242::c243::c244::c245::c246::c247::c248::[]).toArray, []⟩ w := by
 have HOK := Lib.hid (hTI.ok_ hok)
 have HNE := Lib.hid (hTI.ne hok)
 have HIN := Lib.hid (hTI.in_ hok)
 have HBO := Lib.hid (hTI.boat hok n)
 have HUI := Lib.hid (until_is hU)
 have HLI := Lib.hid (last_is hL)
 have HAT := Lib.hid (hTI.at_le hok)
 have H7 := Lib.hid h7
 have HP := Lib.hid hP
 have HD := Lib.hid hD
 have HB := Lib.hid hB
 have hn2 : n ≤ 200 := by omega
 have hdy := (days_nat hok).2.2
 obtain ⟨SS, hSS⟩ : ∃ S, surelyP (lR r lk).nat n = S := ⟨_, rfl⟩
 obtain ⟨PP, hPP⟩ : ∃ S, perhapsP (lR r lk).nat n = S := ⟨_, rfl⟩
 have HSP : Hid (surelyP (lR r lk).nat n = SS ∧ perhapsP (lR r lk).nat n = PP) := ⟨hSS, hPP⟩
 have hSl : SS < 2048 := by
  rw [← hSS, surely_lo]
  have := setN_lt (loB (lR r lk).nat n) ((lR r lk).nat.days + 1)
  have := Nat.pow_le_pow_right (n := 2) (by omega) (show (lR r lk).nat.days + 1 ≤ 11 by show r.nat.days + 1 ≤ 11; omega)
  omega
 have hPl : PP < 2048 := by
  rw [← hPP, perhaps_hi HNE.out]
  have := setN_lt (hiB (lR r lk).nat n) ((lR r lk).nat.days + 1)
  have := Nat.pow_le_pow_right (n := 2) (by omega) (show (lR r lk).nat.days + 1 ≤ 11 by show r.nat.days + 1 ≤ 11; omega)
  omega
 rw [hSS, hPP]
 conv => arg 2; whnf
 conv => arg 2; arg 2; change trueK 12
 clear hok hTI hU hL h7 hP hD hB hSS hPP
 go_wp2
 go_loopw [146] (fun i wr => ∃ d : Nat, d ≤ r.nat.days + 1 ∧ i = .int .i64 d ∧ Hid (Below w.heap.size w wr)) (fun i _ => r.nat.days + 1 - (intOf i).toNat)
 case atStart => exact ⟨0, by omega, rfl, Below.refl _ _⟩
 case round =>
  obtain ⟨d, hd, rfl, HBR⟩ := hrel
  by_cases hlt : d < r.nat.days + 1
  ·have HXR : Hid (Blk wr b7 27 #[.int .i64 r.depth.lo, .int .i64 r.depth.hi, .int .i64 r.fall.lo, .int .i64 r.fall.hi, .int .i64 r.days, .slice fa fl fc, .slice lA ll lp]) := H7.out.below HBR.out H7.out.lt
   have HPR := Lib.hid (HP.out.grow HBR.out)
   have HDP := Lib.hid (depth_fine HOK.out HNE.out (show d ≤ (lR r lk).nat.days by show d ≤ r.nat.days; omega))
   have HBE := Lib.hid (bears_fine HOK.out HNE.out hn2 (show d ≤ (lR r lk).nat.days by show d ≤ r.nat.days; omega))
   obtain ⟨dep, hdep⟩ : ∃ x, t.at_ d = x := ⟨_, rfl⟩
   have hin := HIN.out d
   have hbo := HBO.out d (by omega)
   obtain ⟨lo, hlo⟩ : ∃ lo, (depthP (lR r lk).nat d).1 = lo := ⟨_, rfl⟩
   obtain ⟨hi, hhi⟩ : ∃ hi, (depthP (lR r lk).nat d).2 = hi := ⟨_, rfl⟩
   obtain ⟨be, hbe⟩ : ∃ be, bearsP (lR r lk).nat n d = be := ⟨_, rfl⟩
   rw [hlo, hhi] at HDP
   rw [hlo, hhi, hdep] at hin
   rw [hbe] at HBE
   rw [hbe, hdep, HSP.out.1, HSP.out.2] at hbo
   obtain ⟨pb, po, rfl, hpb, hpc⟩ := (HD.out.below HBR.out).at_ (k := d) (x := dep) (by rw [List.getElem?_map, List.getElem?_range (by omega), ← hdep]; rfl)
   have hpi : (d : Int) < ((r.nat.days + 1 : Nat) : Int) := by omega
   have hpi2 : (d : Int) < (r.nat.days : Int) + 1 := by omega
   have hd120 : dep ≤ 120 := by rw [← hdep]; exact HAT.out d
   obtain ⟨vS, hvS⟩ : ∃ v : Int, bits BinOp.and IntKind.i64 ((SS : Int) / 2 ^ d) 1 = v := ⟨_, rfl⟩
   obtain ⟨vP, hvP⟩ : ∃ v : Int, bits BinOp.and IntKind.i64 ((PP : Int) / 2 ^ d) 1 = v := ⟨_, rfl⟩
   have hvS2 : vS = if SS.testBit d then 1 else 0 := by rw [← hvS]; rw [and_one _ (.inr rfl) SS d (by omega)]
   have hvP2 : vP = if PP.testBit d then 1 else 0 := by rw [← hvP]; rw [and_one _ (.inr rfl) PP d (by omega)]
   have hd64 : (d : Int) < 64 := by omega
   have HUL : Hid (((UE = 4 ∧ untilP (lR r lk).nat n = 0) ∨ (UE = 0 ∧ 0 < untilP (lR r lk).nat n ∧ UN = ((untilP (lR r lk).nat n - 1 : Nat) : Int))) ∧ ((LE = 4 ∧ lastP (lR r lk).nat n = 0) ∨ (LE = 0 ∧ 0 < lastP (lR r lk).nat n ∧ LN = ((lastP (lR r lk).nat n - 1 : Nat) : Int)))) := ⟨HUI.out, HLI.out⟩
   clear hlo hhi hbe hdep
   have x0 := HXR.out.cell 0
   have x1 := HXR.out.cell 1
   have x2 := HXR.out.cell 2
   have x3 := HXR.out.cell 3
   have x4 := HXR.out.cell 4
   have x5 := HXR.out.cell 5
   have x6 := HXR.out.cell 6
   have xl := HXR.out.lt
   simp at x0 x1 x2 x3 x4 x5 x6
   have HIN2 := Lib.hid hin
   have HBO2 := Lib.hid hbo
   have HV2 := Lib.hid (And.intro hvS2 hvP2)
   have HVE := Lib.hid (And.intro hvS hvP)
   clear hin hbo hvS2 hvP2 hvS hvP
   go_wp2_with fail
   refine (PDepth_any (fa := fa) (fl := fl) (fc := fc) (la := lA) (ll := ll) (lc := lp) (r := lR r lk) (w := wr) (d : Int) (by exact HPR.out)).mono ?_
   rw [HDP.out]
   rintro e v1 ⟨rfl, hb⟩
   obtain ⟨V1, hV1⟩ : ∃ V, V = v1.alloc (.cells #[.int .i64 lo, .int .i64 hi] 23) := ⟨_, rfl⟩
   have HB1 : Hid (Below wr.heap.size wr V1) := by rw [hV1]; exact hb.alloc hb.size _
   have HY : Hid (Blk V1 v1.heap.size 23 #[.int .i64 lo, .int .i64 hi]) := by rw [hV1]; exact Blk.new v1 23 _
   have HP1 := Lib.hid (HPR.out.grow HB1.out)
   have HX1 : Hid (Blk V1 b7 27 #[.int .i64 r.depth.lo, .int .i64 r.depth.hi, .int .i64 r.fall.lo, .int .i64 r.fall.hi, .int .i64 r.days, .slice fa fl fc, .slice lA ll lp]) := HXR.out.below HB1.out HXR.out.lt
   clear hb x0 x1 x2 x3 x4 x5 x6 xl
   have x0 := HX1.out.cell 0
   have x1 := HX1.out.cell 1
   have x2 := HX1.out.cell 2
   have x3 := HX1.out.cell 3
   have x4 := HX1.out.cell 4
   have x5 := HX1.out.cell 5
   have x6 := HX1.out.cell 6
   have xl := HX1.out.lt
   simp at x0 x1 x2 x3 x4 x5 x6
   go_upto_region 23 with (fail)
   rw [← hV1]
   clear hV1
   go_wp2_with fail
   refine (PBears_any (fa := fa) (fl := fl) (fc := fc) (la := lA) (ll := ll) (lc := lp) (r := lR r lk) (w := V1) (n : Int) (d : Int) (by exact HP1.out)).mono ?_
   rw [HBE.out]
   rintro e v2 ⟨rfl, hb⟩
   have HY2 : Hid (Blk v2 v1.heap.size 23 #[.int .i64 lo, .int .i64 hi]) := HY.out.below hb HY.out.lt
   have HB2 : Hid (Below w.heap.size w v2) := HBR.out.trans ((HB1.out.trans (hb.mono HB1.out.size)).mono HBR.out.size)
   clear hb x0 x1 x2 x3 x4 x5 x6 xl
   have y0 := HY2.out.cell 0
   have y1 := HY2.out.cell 1
   have yl := HY2.out.lt
   simp at y0 y1
   obtain ⟨hi1, hi2⟩ := HIN2.out
   obtain ⟨b1, b2, b3, b4, b5, b6⟩ := HBO2.out
   obtain ⟨hv1, hv2⟩ := HV2.out
   obtain ⟨ve1, ve2⟩ := HVE.out
   have li1 : (lo : Int) ≤ (dep : Int) := by omega
   have li2 : (dep : Int) ≤ (hi : Int) := by omega
   obtain ⟨hB, hhB⟩ : ∃ b, (UE == 0) = b := ⟨_, rfl⟩
   obtain ⟨uB, huB⟩ : ∃ b, decide ((d : Int) ≤ UN) = b := ⟨_, rfl⟩
   by_cases c1 : n ≤ dep
   ·have c2 : (n : Int) ≤ (dep : Int) := by omega
    have zf : ((be : Int) == 0) = false := by simp; exact fun e => b2 e c1
    have pf : (vP == 0) = false := by
     rw [hv2]
     cases hp : PP.testBit d
     ·exact absurd c1 (b4 hp)
     ·rfl
    have lz : LE = 0 ∧ ¬ LN < (d : Int) := by
     rcases HUL.out.2 with ⟨e1, e2⟩ | ⟨e1, e2, e3⟩
     ·exact absurd c1 (b6 (by omega))
     ·refine ⟨e1, ?_⟩
      have : ¬ lastP (lR r lk).nat n ≤ d := fun h => b6 h c1
      omega
    obtain ⟨rfl, lg⟩ := lz
    have lgd : decide (LN < (d : Int)) = false := decide_eq_false lg
    obtain ⟨aB, haB⟩ : ∃ b, ((be : Int) == 2) = b := ⟨_, rfl⟩
    obtain ⟨sB, hsB⟩ : ∃ b, (vS == 1) = b := ⟨_, rfl⟩
    obtain ⟨xB, hxB⟩ : ∃ b, (hB && uB) = b := ⟨_, rfl⟩
    clear b1 b2 b3 b4 b5 b6 hv1 hv2
    go_upto_region 25 with (fail)
    refine wp_region_text [(0, false), (1, false), (2, false), (3, false), (4, false), (5, false), (6, false), (7, false), (8, false), (9, false), (10, false), (11, false), (12, false), (13, false), (14, false), (15, false), (16, false), (17, false), (18, false), (19, false), (20, false), (21, false), (22, false), (23, false), (24, false), (25, false), (26, false), (27, false), (28, false), (29, false), (30, false), (31, false), (32, false), (33, false), (34, false), (35, false), (36, false), (37, false), (38, false), (39, false), (40, false), (41, false), (42, false), (43, false), (44, false), (45, false), (46, false), (47, false), (48, false), (49, false), (50, false), (51, false), (52, false), (53, false), (54, false), (55, false), (56, false), (57, false), (58, false), (59, false), (60, false), (61, false), (62, false), (63, false), (64, false), (65, false), (66, false), (67, false), (68, false), (69, false), (70, false), (71, false), (72, false), (73, false), (74, false), (75, false), (76, false), (77, false), (78, false), (79, false)] (by kernel_rfl) ?_
    iterate 5 (apply hav_same (by simp only [List.getElem?_toArray]; rfl) (by kernel_rfl); (focus (intro wv hgv _; have hcv : ∀ b o, b < _ → wv.cell? ⟨b, o, none⟩ = _ := fun b o hb => Below.cell hgv (p := ⟨b, o, none⟩) hb; (try go_simp); try rfl; done)); simp only [Act.put, List.setIfInBounds_toArray, List.set_cons_succ, List.set_cons_zero])
    (apply hav_call (by simp only [List.getElem?_toArray]; rfl) (by kernel_rfl); (focus (intro wv; go_simp; try exact ⟨rfl, rfl⟩; done)); (focus (intro wv hgv _; exact inside_any _ _ _ (by omega) (by omega) wv; done)); simp only [Act.put, List.setIfInBounds_toArray, List.set_cons_succ, List.set_cons_zero])
    iterate 10 (apply hav_same (by simp only [List.getElem?_toArray]; rfl) (by kernel_rfl); (focus (intro wv hgv _; have hcv : ∀ b o, b < _ → wv.cell? ⟨b, o, none⟩ = _ := fun b o hb => Below.cell hgv (p := ⟨b, o, none⟩) hb; (try go_simp); try rfl; done)); simp only [Act.put, List.setIfInBounds_toArray, List.set_cons_succ, List.set_cons_zero])
    (refine hav_either (V := .bool true) aB (by simp only [List.getElem?_toArray]; rfl) (by cases aB <;> rfl) (fun hb wv hgv _ => by subst hb; rfl) ?_; simp only [Act.put, List.setIfInBounds_toArray, List.set_cons_succ, List.set_cons_zero])
    (refine hav_either (V := .bool false) aB (by simp only [List.getElem?_toArray]; rfl) (by cases aB <;> rfl) (fun hb wv hgv _ => by subst hb; rfl) ?_; simp only [Act.put, List.setIfInBounds_toArray, List.set_cons_succ, List.set_cons_zero])
    (refine hav_same (V := .bool false) (by simp only [List.getElem?_toArray]; rfl) (by rfl) (fun wv hgv _ => by cases aB <;> rfl) ?_; simp only [Act.put, List.setIfInBounds_toArray, List.set_cons_succ, List.set_cons_zero])
    iterate 5 (apply hav_same (by simp only [List.getElem?_toArray]; rfl) (by kernel_rfl); (focus (intro wv hgv _; have hcv : ∀ b o, b < _ → wv.cell? ⟨b, o, none⟩ = _ := fun b o hb => Below.cell hgv (p := ⟨b, o, none⟩) hb; (try go_simp); try rfl; done)); simp only [Act.put, List.setIfInBounds_toArray, List.set_cons_succ, List.set_cons_zero])
    (refine hav_skip (by simp only [List.getElem?_toArray]; rfl) (by rfl) ?_; simp only [Act.put, List.setIfInBounds_toArray, List.set_cons_succ, List.set_cons_zero])
    iterate 9 (apply hav_same (by simp only [List.getElem?_toArray]; rfl) (by kernel_rfl); (focus (intro wv hgv _; have hcv : ∀ b o, b < _ → wv.cell? ⟨b, o, none⟩ = _ := fun b o hb => Below.cell hgv (p := ⟨b, o, none⟩) hb; (try go_simp); try rfl; done)); simp only [Act.put, List.setIfInBounds_toArray, List.set_cons_succ, List.set_cons_zero])
    (refine hav_either (V := .bool true) sB (by simp only [List.getElem?_toArray]; rfl) (by cases sB <;> rfl) (fun hb wv hgv _ => by subst hb; rfl) ?_; simp only [Act.put, List.setIfInBounds_toArray, List.set_cons_succ, List.set_cons_zero])
    (refine hav_either (V := .bool false) sB (by simp only [List.getElem?_toArray]; rfl) (by cases sB <;> rfl) (fun hb wv hgv _ => by subst hb; rfl) ?_; simp only [Act.put, List.setIfInBounds_toArray, List.set_cons_succ, List.set_cons_zero])
    (refine hav_same (V := .bool false) (by simp only [List.getElem?_toArray]; rfl) (by rfl) (fun wv hgv _ => by cases sB <;> rfl) ?_; simp only [Act.put, List.setIfInBounds_toArray, List.set_cons_succ, List.set_cons_zero])
    iterate 8 (apply hav_same (by simp only [List.getElem?_toArray]; rfl) (by kernel_rfl); (focus (intro wv hgv _; have hcv : ∀ b o, b < _ → wv.cell? ⟨b, o, none⟩ = _ := fun b o hb => Below.cell hgv (p := ⟨b, o, none⟩) hb; (try go_simp); try rfl; done)); simp only [Act.put, List.setIfInBounds_toArray, List.set_cons_succ, List.set_cons_zero])
    (refine hav_skip (by simp only [List.getElem?_toArray]; rfl) (by rfl) ?_; simp only [Act.put, List.setIfInBounds_toArray, List.set_cons_succ, List.set_cons_zero])
    iterate 6 (apply hav_same (by simp only [List.getElem?_toArray]; rfl) (by kernel_rfl); (focus (intro wv hgv _; have hcv : ∀ b o, b < _ → wv.cell? ⟨b, o, none⟩ = _ := fun b o hb => Below.cell hgv (p := ⟨b, o, none⟩) hb; (try go_simp); try rfl; done)); simp only [Act.put, List.setIfInBounds_toArray, List.set_cons_succ, List.set_cons_zero])
    (refine hav_either (V := .int .i64 (d : Nat)) hB (by simp only [List.getElem?_toArray]; rfl) (by cases hB <;> rfl) (fun hb wv hgv _ => by subst hb; rfl) ?_; simp only [Act.put, List.setIfInBounds_toArray, List.set_cons_succ, List.set_cons_zero])
    (refine hav_either (V := .int .i64 UN) hB (by simp only [List.getElem?_toArray]; rfl) (by cases hB <;> rfl) (fun hb wv hgv _ => by subst hb; rfl) ?_; simp only [Act.put, List.setIfInBounds_toArray, List.set_cons_succ, List.set_cons_zero])
    (refine hav_either (V := .bool uB) hB (by simp only [List.getElem?_toArray]; rfl) (by cases hB <;> rfl) (fun hb wv hgv _ => by subst hb; rw [← huB]; rfl) ?_; simp only [Act.put, List.setIfInBounds_toArray, List.set_cons_succ, List.set_cons_zero])
    (refine hav_same (V := .bool xB) (by simp only [List.getElem?_toArray]; rfl) (by rfl) (fun wv hgv _ => by rw [← hxB]; cases hB <;> rfl) ?_; simp only [Act.put, List.setIfInBounds_toArray, List.set_cons_succ, List.set_cons_zero])
    (apply hav_same (by simp only [List.getElem?_toArray]; rfl) (by kernel_rfl); (focus (intro wv hgv _; have hcv : ∀ b o, b < _ → wv.cell? ⟨b, o, none⟩ = _ := fun b o hb => Below.cell hgv (p := ⟨b, o, none⟩) hb; (try go_simp); try rfl; done)); simp only [Act.put, List.setIfInBounds_toArray, List.set_cons_succ, List.set_cons_zero])
    (refine hav_either (V := .bool true) xB (by simp only [List.getElem?_toArray]; rfl) (by cases xB <;> rfl) (fun hb wv hgv _ => by subst hb; rfl) ?_; simp only [Act.put, List.setIfInBounds_toArray, List.set_cons_succ, List.set_cons_zero])
    (refine hav_either (V := .bool false) xB (by simp only [List.getElem?_toArray]; rfl) (by cases xB <;> rfl) (fun hb wv hgv _ => by subst hb; rfl) ?_; simp only [Act.put, List.setIfInBounds_toArray, List.set_cons_succ, List.set_cons_zero])
    (refine hav_same (V := .bool false) (by simp only [List.getElem?_toArray]; rfl) (by rfl) (fun wv hgv _ => by cases xB <;> rfl) ?_; simp only [Act.put, List.setIfInBounds_toArray, List.set_cons_succ, List.set_cons_zero])
    iterate 10 (apply hav_same (by simp only [List.getElem?_toArray]; rfl) (by kernel_rfl); (focus (intro wv hgv _; have hcv : ∀ b o, b < _ → wv.cell? ⟨b, o, none⟩ = _ := fun b o hb => Below.cell hgv (p := ⟨b, o, none⟩) hb; (try go_simp); try rfl; done)); simp only [Act.put, List.setIfInBounds_toArray, List.set_cons_succ, List.set_cons_zero])
    (refine hav_skip (by simp only [List.getElem?_toArray]; rfl) (by rfl) ?_; simp only [Act.put, List.setIfInBounds_toArray, List.set_cons_succ, List.set_cons_zero])
    iterate 6 (apply hav_same (by simp only [List.getElem?_toArray]; rfl) (by kernel_rfl); (focus (intro wv hgv _; have hcv : ∀ b o, b < _ → wv.cell? ⟨b, o, none⟩ = _ := fun b o hb => Below.cell hgv (p := ⟨b, o, none⟩) hb; (try go_simp); try rfl; done)); simp only [Act.put, List.setIfInBounds_toArray, List.set_cons_succ, List.set_cons_zero])
    (refine hav_skip (by simp only [List.getElem?_toArray]; rfl) (by rfl) ?_; simp only [Act.put, List.setIfInBounds_toArray, List.set_cons_succ, List.set_cons_zero])
    iterate 2 (apply hav_same (by simp only [List.getElem?_toArray]; rfl) (by kernel_rfl); (focus (intro wv hgv _; have hcv : ∀ b o, b < _ → wv.cell? ⟨b, o, none⟩ = _ := fun b o hb => Below.cell hgv (p := ⟨b, o, none⟩) hb; (try go_simp); try rfl; done)); simp only [Act.put, List.setIfInBounds_toArray, List.set_cons_succ, List.set_cons_zero])
    refine hav_end (fun wz hgz _ => ?_)
    simp only [List.filterMap]
    have HZ : Hid (Below w.heap.size w wz) := HB2.out.trans (hgz.mono HB2.out.size)
    clear hgz
    go_wp2
    go_roundw
    case rel => exact ⟨d + 1, by omega, by go_num, HZ⟩
    case measure => simp [intOf]; omega
   ·have c2 : ¬ (n : Int) ≤ (dep : Int) := by omega
    have af : ((be : Int) == 2) = false := by simp; exact fun e => c1 (b1 (by omega))
    have sf : (vS == 1) = false := by
     rw [hv1]
     cases hp : SS.testBit d
     ·rfl
     ·exact absurd (b3 hp) c1
    have hxB : (hB && uB) = false := by
     rw [← hhB, ← huB]
     rcases HUL.out.1 with ⟨e1, e2⟩ | ⟨e1, e2, e3⟩
     ·rw [e1]; rfl
     ·have : ¬ d < untilP (lR r lk).nat n := fun h => c1 (b5 h)
      rw [decide_eq_false (by omega), Bool.and_false]
    obtain ⟨zB, hzB⟩ : ∃ b, ((be : Int) == 0) = b := ⟨_, rfl⟩
    obtain ⟨pB, hpB⟩ : ∃ b, (vP == 0) = b := ⟨_, rfl⟩
    obtain ⟨lB, hlB⟩ : ∃ b, (LE == 0) = b := ⟨_, rfl⟩
    obtain ⟨gB, hgB⟩ : ∃ b, decide (LN < (d : Int)) = b := ⟨_, rfl⟩
    obtain ⟨yB, hyB⟩ : ∃ b, (lB && gB) = b := ⟨_, rfl⟩
    obtain ⟨nB, hnB⟩ : ∃ b, (LE != 0) = b := ⟨_, rfl⟩
    clear b1 b2 b3 b4 b5 b6 hv1 hv2
    go_upto_region 25 with (fail)
    refine wp_region_text [(0, false), (1, false), (2, false), (3, false), (4, false), (5, false), (6, false), (7, false), (8, false), (9, false), (10, false), (11, false), (12, false), (13, false), (14, false), (15, false), (16, false), (17, false), (18, false), (19, false), (20, false), (21, false), (22, false), (23, false), (24, false), (25, false), (26, false), (27, false), (28, false), (29, false), (30, false), (31, false), (32, false), (33, false), (34, false), (35, false), (36, false), (37, false), (38, false), (39, false), (40, false), (41, false), (42, false), (43, false), (44, false), (45, false), (46, false), (47, false), (48, false), (49, false), (50, false), (51, false), (52, false), (53, false), (54, false), (55, false), (56, false), (57, false), (58, false), (59, false), (60, false), (61, false), (62, false), (63, false), (64, false), (65, false), (66, false), (67, false), (68, false), (69, false), (70, false), (71, false), (72, false), (73, false), (74, false), (75, false), (76, false), (77, false), (78, false), (79, false)] (by kernel_rfl) ?_
    iterate 5 (apply hav_same (by simp only [List.getElem?_toArray]; rfl) (by kernel_rfl); (focus (intro wv hgv _; have hcv : ∀ b o, b < _ → wv.cell? ⟨b, o, none⟩ = _ := fun b o hb => Below.cell hgv (p := ⟨b, o, none⟩) hb; (try go_simp); try rfl; done)); simp only [Act.put, List.setIfInBounds_toArray, List.set_cons_succ, List.set_cons_zero])
    (apply hav_call (by simp only [List.getElem?_toArray]; rfl) (by kernel_rfl); (focus (intro wv; go_simp; try exact ⟨rfl, rfl⟩; done)); (focus (intro wv hgv _; exact inside_any _ _ _ (by omega) (by omega) wv; done)); simp only [Act.put, List.setIfInBounds_toArray, List.set_cons_succ, List.set_cons_zero])
    iterate 10 (apply hav_same (by simp only [List.getElem?_toArray]; rfl) (by kernel_rfl); (focus (intro wv hgv _; have hcv : ∀ b o, b < _ → wv.cell? ⟨b, o, none⟩ = _ := fun b o hb => Below.cell hgv (p := ⟨b, o, none⟩) hb; (try go_simp); try rfl; done)); simp only [Act.put, List.setIfInBounds_toArray, List.set_cons_succ, List.set_cons_zero])
    iterate 2 (refine hav_skip (by simp only [List.getElem?_toArray]; rfl) (by rfl) ?_; simp only [Act.put, List.setIfInBounds_toArray, List.set_cons_succ, List.set_cons_zero])
    iterate 6 (apply hav_same (by simp only [List.getElem?_toArray]; rfl) (by kernel_rfl); (focus (intro wv hgv _; have hcv : ∀ b o, b < _ → wv.cell? ⟨b, o, none⟩ = _ := fun b o hb => Below.cell hgv (p := ⟨b, o, none⟩) hb; (try go_simp); try rfl; done)); simp only [Act.put, List.setIfInBounds_toArray, List.set_cons_succ, List.set_cons_zero])
    (refine hav_either (V := .bool false) zB (by simp only [List.getElem?_toArray]; rfl) (by cases zB <;> rfl) (fun hb wv hgv _ => by subst hb; rfl) ?_; simp only [Act.put, List.setIfInBounds_toArray, List.set_cons_succ, List.set_cons_zero])
    (refine hav_same (V := .bool false) (by simp only [List.getElem?_toArray]; rfl) (by rfl) (fun wv hgv _ => by cases zB <;> rfl) ?_; simp only [Act.put, List.setIfInBounds_toArray, List.set_cons_succ, List.set_cons_zero])
    iterate 8 (apply hav_same (by simp only [List.getElem?_toArray]; rfl) (by kernel_rfl); (focus (intro wv hgv _; have hcv : ∀ b o, b < _ → wv.cell? ⟨b, o, none⟩ = _ := fun b o hb => Below.cell hgv (p := ⟨b, o, none⟩) hb; (try go_simp); try rfl; done)); simp only [Act.put, List.setIfInBounds_toArray, List.set_cons_succ, List.set_cons_zero])
    iterate 2 (refine hav_skip (by simp only [List.getElem?_toArray]; rfl) (by rfl) ?_; simp only [Act.put, List.setIfInBounds_toArray, List.set_cons_succ, List.set_cons_zero])
    iterate 9 (apply hav_same (by simp only [List.getElem?_toArray]; rfl) (by kernel_rfl); (focus (intro wv hgv _; have hcv : ∀ b o, b < _ → wv.cell? ⟨b, o, none⟩ = _ := fun b o hb => Below.cell hgv (p := ⟨b, o, none⟩) hb; (try go_simp); try rfl; done)); simp only [Act.put, List.setIfInBounds_toArray, List.set_cons_succ, List.set_cons_zero])
    (refine hav_either (V := .bool false) pB (by simp only [List.getElem?_toArray]; rfl) (by cases pB <;> rfl) (fun hb wv hgv _ => by subst hb; rfl) ?_; simp only [Act.put, List.setIfInBounds_toArray, List.set_cons_succ, List.set_cons_zero])
    (refine hav_same (V := .bool false) (by simp only [List.getElem?_toArray]; rfl) (by rfl) (fun wv hgv _ => by cases pB <;> rfl) ?_; simp only [Act.put, List.setIfInBounds_toArray, List.set_cons_succ, List.set_cons_zero])
    iterate 5 (apply hav_same (by simp only [List.getElem?_toArray]; rfl) (by kernel_rfl); (focus (intro wv hgv _; have hcv : ∀ b o, b < _ → wv.cell? ⟨b, o, none⟩ = _ := fun b o hb => Below.cell hgv (p := ⟨b, o, none⟩) hb; (try go_simp); try rfl; done)); simp only [Act.put, List.setIfInBounds_toArray, List.set_cons_succ, List.set_cons_zero])
    (refine hav_either (V := .int .i64 (d : Nat)) hB (by simp only [List.getElem?_toArray]; rfl) (by cases hB <;> rfl) (fun hb wv hgv _ => by subst hb; rfl) ?_; simp only [Act.put, List.setIfInBounds_toArray, List.set_cons_succ, List.set_cons_zero])
    (refine hav_either (V := .int .i64 UN) hB (by simp only [List.getElem?_toArray]; rfl) (by cases hB <;> rfl) (fun hb wv hgv _ => by subst hb; rfl) ?_; simp only [Act.put, List.setIfInBounds_toArray, List.set_cons_succ, List.set_cons_zero])
    (refine hav_either (V := .bool uB) hB (by simp only [List.getElem?_toArray]; rfl) (by cases hB <;> rfl) (fun hb wv hgv _ => by subst hb; rw [← huB]; rfl) ?_; simp only [Act.put, List.setIfInBounds_toArray, List.set_cons_succ, List.set_cons_zero])
    (refine hav_same (V := .bool false) (by simp only [List.getElem?_toArray]; rfl) (by rfl) (fun wv hgv _ => by rw [← hxB]; cases hB <;> rfl) ?_; simp only [Act.put, List.setIfInBounds_toArray, List.set_cons_succ, List.set_cons_zero])
    (apply hav_same (by simp only [List.getElem?_toArray]; rfl) (by kernel_rfl); (focus (intro wv hgv _; have hcv : ∀ b o, b < _ → wv.cell? ⟨b, o, none⟩ = _ := fun b o hb => Below.cell hgv (p := ⟨b, o, none⟩) hb; (try go_simp); try rfl; done)); simp only [Act.put, List.setIfInBounds_toArray, List.set_cons_succ, List.set_cons_zero])
    iterate 2 (refine hav_skip (by simp only [List.getElem?_toArray]; rfl) (by rfl) ?_; simp only [Act.put, List.setIfInBounds_toArray, List.set_cons_succ, List.set_cons_zero])
    iterate 6 (apply hav_same (by simp only [List.getElem?_toArray]; rfl) (by kernel_rfl); (focus (intro wv hgv _; have hcv : ∀ b o, b < _ → wv.cell? ⟨b, o, none⟩ = _ := fun b o hb => Below.cell hgv (p := ⟨b, o, none⟩) hb; (try go_simp); try rfl; done)); simp only [Act.put, List.setIfInBounds_toArray, List.set_cons_succ, List.set_cons_zero])
    (refine hav_either (V := .int .i64 (d : Nat)) lB (by simp only [List.getElem?_toArray]; rfl) (by cases lB <;> rfl) (fun hb wv hgv _ => by subst hb; rfl) ?_; simp only [Act.put, List.setIfInBounds_toArray, List.set_cons_succ, List.set_cons_zero])
    (refine hav_either (V := .int .i64 LN) lB (by simp only [List.getElem?_toArray]; rfl) (by cases lB <;> rfl) (fun hb wv hgv _ => by subst hb; rfl) ?_; simp only [Act.put, List.setIfInBounds_toArray, List.set_cons_succ, List.set_cons_zero])
    (refine hav_either (V := .bool gB) lB (by simp only [List.getElem?_toArray]; rfl) (by cases lB <;> rfl) (fun hb wv hgv _ => by subst hb; rw [← hgB]; rfl) ?_; simp only [Act.put, List.setIfInBounds_toArray, List.set_cons_succ, List.set_cons_zero])
    (refine hav_same (V := .bool yB) (by simp only [List.getElem?_toArray]; rfl) (by rfl) (fun wv hgv _ => by rw [← hyB]; cases lB <;> rfl) ?_; simp only [Act.put, List.setIfInBounds_toArray, List.set_cons_succ, List.set_cons_zero])
    (apply hav_same (by simp only [List.getElem?_toArray]; rfl) (by kernel_rfl); (focus (intro wv hgv _; have hcv : ∀ b o, b < _ → wv.cell? ⟨b, o, none⟩ = _ := fun b o hb => Below.cell hgv (p := ⟨b, o, none⟩) hb; (try go_simp); try rfl; done)); simp only [Act.put, List.setIfInBounds_toArray, List.set_cons_succ, List.set_cons_zero])
    (refine hav_either (V := .bool false) yB (by simp only [List.getElem?_toArray]; rfl) (by cases yB <;> rfl) (fun hb wv hgv _ => by subst hb; rfl) ?_; simp only [Act.put, List.setIfInBounds_toArray, List.set_cons_succ, List.set_cons_zero])
    (refine hav_same (V := .bool false) (by simp only [List.getElem?_toArray]; rfl) (by rfl) (fun wv hgv _ => by cases yB <;> rfl) ?_; simp only [Act.put, List.setIfInBounds_toArray, List.set_cons_succ, List.set_cons_zero])
    iterate 5 (apply hav_same (by simp only [List.getElem?_toArray]; rfl) (by kernel_rfl); (focus (intro wv hgv _; have hcv : ∀ b o, b < _ → wv.cell? ⟨b, o, none⟩ = _ := fun b o hb => Below.cell hgv (p := ⟨b, o, none⟩) hb; (try go_simp); try rfl; done)); simp only [Act.put, List.setIfInBounds_toArray, List.set_cons_succ, List.set_cons_zero])
    (refine hav_either (V := .bool false) nB (by simp only [List.getElem?_toArray]; rfl) (by cases nB <;> rfl) (fun hb wv hgv _ => by subst hb; rfl) ?_; simp only [Act.put, List.setIfInBounds_toArray, List.set_cons_succ, List.set_cons_zero])
    (refine hav_same (V := .bool false) (by simp only [List.getElem?_toArray]; rfl) (by rfl) (fun wv hgv _ => by cases nB <;> rfl) ?_; simp only [Act.put, List.setIfInBounds_toArray, List.set_cons_succ, List.set_cons_zero])
    (apply hav_same (by simp only [List.getElem?_toArray]; rfl) (by kernel_rfl); (focus (intro wv hgv _; have hcv : ∀ b o, b < _ → wv.cell? ⟨b, o, none⟩ = _ := fun b o hb => Below.cell hgv (p := ⟨b, o, none⟩) hb; (try go_simp); try rfl; done)); simp only [Act.put, List.setIfInBounds_toArray, List.set_cons_succ, List.set_cons_zero])
    refine hav_end (fun wz hgz _ => ?_)
    simp only [List.filterMap]
    have HZ : Hid (Below w.heap.size w wz) := HB2.out.trans (hgz.mono HB2.out.size)
    clear hgz
    go_wp2
    go_roundw
    case rel => exact ⟨d + 1, by omega, by go_num, HZ⟩
    case measure => simp [intOf]; omega
  ·obtain rfl : d = r.nat.days + 1 := by omega
   go_wp2
   exact true12 (HB.out.trans (HBR.out.mono HB.out.size)) _ _ _ _ _ _ _ _ _ _ _ _ _ _ _ _ _ _ _ _ _ _ _ _ _ _ _ _ _ _ _ _ _ _ _ _ _ _ _ _ _ _ _ _ _ _ _ _ _ _ _ _ _ _ _ _ _ _ _ _ _ _ _ _ _ _ _ _ _ _ _ _ _ _ _ _ _ _ _ _ _ _ _ _ _ _ _ _ _ _ _ _ _ _ _ _ _ _ _ _ _ _ _ _ _ _ _ _ _ _ _ _ _ _ _ _ _ _ _ _ _ _ _ _ _ _ _ _ _ _ _ _ _ _ _ _ _ _ _ _ _ _ _ _ _ _ _ _ _ _ _ _ _ _ _ _ _ _ _ _ _ _ _ _ _ _ _ _ _ _ _ _ _ _ _ _ _ _ _ _ _ _ _ _ _ _ _ _ _ _ _ _ _ _ _ _ _ _ _ _ _ _ _ _ _ _ _ _ _ _ _ _ _ _ _ _ _ _ _ _ _ _ _ _ _ _ _ _ _ _ _ _ _ _ _ _ _ _ _ _ _ _ _ _ _ _ _ _ _
end
end Go.Proofs.Ytiodmkokpfgkkaa
