/- The law RiverTrue: what is asked of the river. Conditions: what the frame holds. -/
import Derived.Test.YtiodmkokpfgkkaaLawTrueC
namespace Go.Proofs.Ytiodmkokpfgkkaa
open Go.RowKit Go.Hav Go.Shelf Go.Sq
attribute [local go_sem] Oper.semAt_some
section
variable {fa lA pA dA : Option Addr} {fl fc ll lp pc dc : Nat} {r : IRiv} {b7 : Nat} {t : Tr} {lk : List ILk}
set_option maxRecDepth 100000 in
set_option maxHeartbeats 6400000 in
theorem true3 (hok : okR r = true) (hTI : TrueIn r t lk) (hfl : r.fr.length = fl) {w0 w : World} (hB : Below w0.heap.size w0 w) (h7 : Blk w b7 27 #[.int .i64 r.depth.lo, .int .i64 r.depth.hi, .int .i64 r.fall.lo, .int .i64 r.fall.hi, .int .i64 r.days, .slice fa fl fc, .slice lA ll lp]) (hP : RvIn w w.heap.size fa fl lA ll (lR r lk)) (hS : RowN nV 3 w dA t.ds) (hD : RowN nV 3 w pA ((List.range (r.nat.days + 1)).map t.at_)) (boat : Nat) (hboat : boat ≤ 255) (c0 c1 c3 c4 c5 c6 c11 c12 c13 c14 c15 c16 c17 c18 c19 c20 c21 c22 c23 c24 c25 c26 c27 c28 c29 c30 c31 c32 c33 c34 c35 c36 c37 c38 c39 c40 c41 c42 c43 c44 c45 c46 c47 c48 c49 c50 c51 c52 c53 c54 c55 c56 c57 c58 c59 c60 c61 c62 c63 c64 c65 c66 c67 c68 c69 c70 c71 c72 c73 c74 c75 c76 c77 c78 c79 c80 c81 c82 c83 c84 c85 c86 c87 c88 c89 c90 c91 c92 c93 c94 c95 c96 c97 c98 c99 c100 c101 c102 c103 c104 c105 c106 c107 c108 c109 c110 c111 c112 c113 c114 c115 c116 c117 c118 c119 c120 c121 c122 c123 c124 c125 c126 c127 c128 c129 c130 c131 c132 c133 c134 c135 c136 c137 c138 c139 c140 c141 c142 c143 c144 c145 c146 c147 c148 c149 c150 c151 c152 c153 c154 c155 c156 c157 c158 c159 c160 c161 c162 c163 c164 c165 c166 c167 c168 c169 c170 c171 c172 c173 c174 c175 c176 c177 c178 c179 c180 c181 c182 c183 c184 c185 c186 c187 c188 c189 c190 c191 c192 c193 c194 c195 c196 c197 c198 c199 c200 c201 c202 c203 c204 c205 c206 c207 c208 c209 c210 c211 c212 c213 c214 c215 c216 c217 c218 c219 c220 c221 c222 c223 c224 c225 c226 c227 c228 c229 c230 c231 c232 c233 c234 c235 c236 c237 c238 c239 c240 c241 c242 c243 c244 c245 c246 c247 c248 : Value) :
  Code.wp Try.prog (trueK 3) (bodyPost Try.prog Try.f6 (LawTrueT w0)) ⟨(c0::c1::(.int .u8 boat)::c3::c4::c5::c6::(.pointer (some ⟨b7, 0, none⟩))::(.int .i64 t.by_)::(.slice dA fl dc)::(.slice pA (r.nat.days + 1) pc)::c11::c12::c13::c14::c15::c16::c17::c18::c19::c20::c21::c22::c23::c24::c25::c26::c27::c28::c29::c30::c31::c32::c33::c34::c35::c36::c37::c38::c39::c40::c41::c42::c43::c44::c45::c46::c47::c48::c49::c50::c51::c52::c53::c54::c55::c56::c57::c58::c59::c60::c61::c62::c63::c64::c65::c66::c67::c68::c69::c70::c71::c72::c73::c74::c75::c76::c77::c78::c79::c80::c81::c82::c83::c84::c85::c86::c87::c88::c89::c90::c91::c92::c93::c94::c95::c96::c97::c98::c99::c100::c101::c102::c103::c104::c105::c106::c107::c108::c109::c110::c111::c112::c113::c114::c115::c116::c117::c118::c119::c120::c121::c122::c123::c124::c125::c126::c127::c128::c129::c130::c131::c132::c133::c134::c135::c136::c137::c138::c139::c140::c141::c142::c143::c144::c145::c146::c147::c148::c149::c150::c151::c152::c153::c154::c155::c156::c157::c158::c159::c160::c161::c162::c163::c164::c165::c166::c167::c168::c169::c170::c171::c172::c173::c174::c175::c176::c177::c178::c179::c180::c181::c182::c183::c184::c185::c186::c187::c188::c189::c190::c191::c192::c193::c194::c195::c196::c197::c198::c199::c200::c201::c202::c203::c204::c205::c206::c207::c208::c209::c210::c211::c212::c213::c214::c215::c216::c217::c218::c219::c220::c221::c222::c223::c224::c225::c226::c227::c228::c229::c230::c231::c232::c233::c234::c235::c236::c237::c238::c239::c240::c241::c242::c243::c244::c245::c246::c247::c248::[]).toArray, []⟩ w := by
 obtain ⟨n, hne⟩ : ∃ n, n = boat % 130 := ⟨_, rfl⟩
 have hn : n < 130 := by omega
 have hn2 : n ≤ 200 := by omega
 have tm : (boat : Int).tmod 130 = (n : Int) := by rw [Int.tmod_eq_emod_of_nonneg (by omega)]; omega
 have hok2 := hTI.ok_ hok
 have hnn := hTI.ne hok
 have D0 := Lib.hid (clash_fine hok2 hnn)
 have D1 := Lib.hid (fall_fine hok2 hnn)
 have D2 := Lib.hid (days_fine hok2 hnn hn2)
 obtain ⟨UN, UE, hU⟩ : ∃ UN UE : Int, Value.tuple #[.int .i64 (untilV (lR r lk) (n : Int)), .int .i64 (untilE (lR r lk) (n : Int))] = .tuple #[.int .i64 UN, .int .i64 UE] := ⟨_, _, rfl⟩
 obtain ⟨LN, LE, hL⟩ : ∃ LN LE : Int, Value.tuple #[.int .i64 (lastV (lR r lk) (n : Int)), .int .i64 (lastE (lR r lk) (n : Int))] = .tuple #[.int .i64 LN, .int .i64 LE] := ⟨_, _, rfl⟩
 have D3 := until_fine hok2 hnn hn2
 have D4 := last_fine hok2 hnn hn2
 rw [hU] at D3
 rw [hL] at D4
 have HU := Lib.hid hU
 have HL := Lib.hid hL
 have H : Hid (∀ w' b14, Below w.heap.size w w' → Blk w' b14 23 #[.int .i64 ((fallQ (lR r lk).nat).1 : Nat), .int .i64 ((fallQ (lR r lk).nat).2 : Nat)] → ∀ (c0 c1 c2 c3 c4 c5 c6 c12 c23 c24 c25 c26 c27 c28 c29 c30 c31 c32 c33 c34 c35 c36 c37 c38 c39 c40 c41 c42 c43 c44 c45 c46 c47 c48 c49 c50 c51 c52 c53 c54 c55 c56 c57 c58 c59 c60 c61 c62 c63 c64 c65 c66 c67 c68 c69 c70 c71 c72 c73 c74 c75 c76 c77 c78 c79 c80 c81 c82 c83 c84 c85 c86 c87 c88 c89 c90 c91 c92 c93 c94 c95 c96 c97 c98 c99 c100 c101 c102 c103 c104 c105 c106 c107 c108 c109 c110 c111 c112 c113 c114 c115 c116 c117 c118 c119 c120 c121 c122 c123 c124 c125 c126 c127 c128 c129 c130 c131 c132 c133 c134 c135 c136 c137 c138 c139 c140 c141 c142 c143 c144 c145 c146 c147 c148 c149 c150 c151 c152 c153 c154 c155 c156 c157 c158 c159 c160 c161 c162 c163 c164 c165 c166 c167 c168 c169 c170 c171 c172 c173 c174 c175 c176 c177 c178 c179 c180 c181 c182 c183 c184 c185 c186 c187 c188 c189 c190 c191 c192 c193 c194 c195 c196 c197 c198 c199 c200 c201 c202 c203 c204 c205 c206 c207 c208 c209 c210 c211 c212 c213 c214 c215 c216 c217 c218 c219 c220 c221 c222 c223 c224 c225 c226 c227 c228 c229 c230 c231 c232 c233 c234 c235 c236 c237 c238 c239 c240 c241 c242 c243 c244 c245 c246 c247 c248 : Value), Code.wp Try.prog (trueK 9) (bodyPost Try.prog Try.f6 (LawTrueT w0)) ⟨(c0::c1::c2::c3::c4::c5::c6::(.pointer (some ⟨b7, 0, none⟩))::(.int .i64 t.by_)::(.slice dA fl dc)::(.slice pA (r.nat.days + 1) pc)::(.int .i64 n)::c12::(.int .i64 4)::(.pointer (some ⟨b14, 0, none⟩))::(.int .i64 0)::(.int .i64 (surelyP (lR r lk).nat n : Nat))::(.int .i64 (perhapsP (lR r lk).nat n : Nat))::(.int .i64 0)::(.int .i64 UN)::(.int .i64 UE)::(.int .i64 LN)::(.int .i64 LE)::c23::c24::c25::c26::c27::c28::c29::c30::c31::c32::c33::c34::c35::c36::c37::c38::c39::c40::c41::c42::c43::c44::c45::c46::c47::c48::c49::c50::c51::c52::c53::c54::c55::c56::c57::c58::c59::c60::c61::c62::c63::c64::c65::c66::c67::c68::c69::c70::c71::c72::c73::c74::c75::c76::c77::c78::c79::c80::c81::c82::c83::c84::c85::c86::c87::c88::c89::c90::c91::c92::c93::c94::c95::c96::c97::c98::c99::c100::c101::c102::c103::c104::c105::c106::c107::c108::c109::c110::c111::c112::c113::c114::c115::c116::c117::c118::c119::c120::c121::c122::c123::c124::c125::c126::c127::c128::c129::c130::c131::c132::c133::c134::c135::c136::c137::c138::c139::c140::c141::c142::c143::c144::c145::c146::c147::c148::c149::c150::c151::c152::c153::c154::c155::c156::c157::c158::c159::c160::c161::c162::c163::c164::c165::c166::c167::c168::c169::c170::c171::c172::c173::c174::c175::c176::c177::c178::c179::c180::c181::c182::c183::c184::c185::c186::c187::c188::c189::c190::c191::c192::c193::c194::c195::c196::c197::c198::c199::c200::c201::c202::c203::c204::c205::c206::c207::c208::c209::c210::c211::c212::c213::c214::c215::c216::c217::c218::c219::c220::c221::c222::c223::c224::c225::c226::c227::c228::c229::c230::c231::c232::c233::c234::c235::c236::c237::c238::c239::c240::c241::c242::c243::c244::c245::c246::c247::c248::[]).toArray, []⟩ w') := fun w' b14 hb h14 =>
  true9 hok hTI hfl (hB.trans (hb.mono hB.size)) (h7.below hb h7.lt) (hP.grow hb) (hS.below hb) (hD.below hb) hn h14 D3 D4
 obtain ⟨flo, hflo⟩ : ∃ x, (fallQ (lR r lk).nat).1 = x := ⟨_, rfl⟩
 obtain ⟨fhi, hfhi⟩ : ∃ x, (fallQ (lR r lk).nat).2 = x := ⟨_, rfl⟩
 rw [hflo, hfhi] at H D1
 obtain ⟨w1, hw1⟩ : ∃ x, x = w := ⟨_, rfl⟩
 have HB1 : Hid (Below w.heap.size w w1) := by rw [hw1]; exact Below.refl _ _
 have HX1 : Hid (Blk w1 b7 27 #[.int .i64 r.depth.lo, .int .i64 r.depth.hi, .int .i64 r.fall.lo, .int .i64 r.fall.hi, .int .i64 r.days, .slice fa fl fc, .slice lA ll lp]) := by rw [hw1]; exact h7
 have HP1 : Hid (RvIn w1 w1.heap.size fa fl lA ll (lR r lk)) := by rw [hw1]; exact hP
 clear hne hok2 hnn hU hL D3 D4 hok hTI hfl hB h7 hP hS hD hflo hfhi
 conv => arg 2; whnf
 conv => arg 2; arg 2; arg 2; arg 2; arg 2; arg 2; arg 2; change trueK 9
 rw [← hw1]
 clear hw1
 have HX := HX1
 have x0 := HX.out.cell 0
 have x1 := HX.out.cell 1
 have x2 := HX.out.cell 2
 have x3 := HX.out.cell 3
 have x4 := HX.out.cell 4
 have x5 := HX.out.cell 5
 have x6 := HX.out.cell 6
 have xl := HX.out.lt
 simp at x0 x1 x2 x3 x4 x5 x6
 go_wp2_with fail
 refine (PClash_any (fa := fa) (fl := fl) (fc := fc) (la := lA) (ll := ll) (lc := lp) (r := lR r lk) (w := w1) (by exact HP1.out)).mono ?_
 rw [D0.out]
 rintro e w2 ⟨rfl, hb⟩
 have HB2 : Hid (Below w.heap.size w w2) := HB1.out.trans (hb.mono HB1.out.size)
 have HP2 := Lib.hid (HP1.out.grow hb)
 have HX2 : Hid (Blk w2 b7 27 #[.int .i64 r.depth.lo, .int .i64 r.depth.hi, .int .i64 r.fall.lo, .int .i64 r.fall.hi, .int .i64 r.days, .slice fa fl fc, .slice lA ll lp]) := HX1.out.below hb HX1.out.lt
 clear hb x0 x1 x2 x3 x4 x5 x6 xl HX
 have HX := HX2
 have x0 := HX.out.cell 0
 have x1 := HX.out.cell 1
 have x2 := HX.out.cell 2
 have x3 := HX.out.cell 3
 have x4 := HX.out.cell 4
 have x5 := HX.out.cell 5
 have x6 := HX.out.cell 6
 have xl := HX.out.lt
 simp at x0 x1 x2 x3 x4 x5 x6
 go_wp2_with fail
 refine (PFall_any (fa := fa) (fl := fl) (fc := fc) (la := lA) (ll := ll) (lc := lp) (r := lR r lk) (w := w2) (by exact HP2.out)).mono ?_
 rw [D1.out]
 rintro e w3 ⟨rfl, hb⟩
 have HB3 : Hid (Below w.heap.size w w3) := HB2.out.trans (hb.mono HB2.out.size)
 have HP3 := Lib.hid (HP2.out.grow hb)
 have HX3 : Hid (Blk w3 b7 27 #[.int .i64 r.depth.lo, .int .i64 r.depth.hi, .int .i64 r.fall.lo, .int .i64 r.fall.hi, .int .i64 r.days, .slice fa fl fc, .slice lA ll lp]) := HX2.out.below hb HX2.out.lt
 obtain ⟨W3, hW3⟩ : ∃ W, W = w3.alloc (.cells #[.int .i64 (flo : Nat), .int .i64 (fhi : Nat)] 23) := ⟨_, rfl⟩
 obtain ⟨b14, hb14⟩ : ∃ g, g = w3.heap.size := ⟨_, rfl⟩
 have HA4 : Below w3.heap.size w3 W3 := by rw [hW3]; exact (Below.refl _ _).alloc (Nat.le_refl _) _
 have HY4 : Hid (Blk W3 b14 23 #[.int .i64 (flo : Nat), .int .i64 (fhi : Nat)]) := by rw [hW3, hb14]; exact Blk.new w3 23 _
 obtain ⟨w4, hw4⟩ : ∃ x, x = W3 := ⟨_, rfl⟩
 have HB4 : Hid (Below w.heap.size w w4) := by rw [hw4]; exact HB3.out.trans (HA4.mono HB3.out.size)
 have HP4 : Hid (RvIn w4 w4.heap.size fa fl lA ll (lR r lk)) := by rw [hw4]; exact HP3.out.grow HA4
 have HX4 : Hid (Blk w4 b7 27 #[.int .i64 r.depth.lo, .int .i64 r.depth.hi, .int .i64 r.fall.lo, .int .i64 r.fall.hi, .int .i64 r.days, .slice fa fl fc, .slice lA ll lp]) := by rw [hw4]; exact HX3.out.below HA4 HX3.out.lt
 clear hb x0 x1 x2 x3 x4 x5 x6 xl HX HA4
 go_upto_region 7 with (fail)
 rw [← hW3, ← hb14, ← hw4]
 rw [← hw4] at HY4
 clear hW3 hb14 hw4
 have HX := HX4
 have x0 := HX.out.cell 0
 have x1 := HX.out.cell 1
 have x2 := HX.out.cell 2
 have x3 := HX.out.cell 3
 have x4 := HX.out.cell 4
 have x5 := HX.out.cell 5
 have x6 := HX.out.cell 6
 have xl := HX.out.lt
 simp at x0 x1 x2 x3 x4 x5 x6
 go_wp2_with fail
 refine (PDays_any (fa := fa) (fl := fl) (fc := fc) (la := lA) (ll := ll) (lc := lp) (r := lR r lk) (w := w4) (n : Int) (by exact HP4.out)).mono ?_
 rw [D2.out]
 rintro e w5 ⟨rfl, hb⟩
 have HB5 : Hid (Below w.heap.size w w5) := HB4.out.trans (hb.mono HB4.out.size)
 have HP5 := Lib.hid (HP4.out.grow hb)
 have HX5 : Hid (Blk w5 b7 27 #[.int .i64 r.depth.lo, .int .i64 r.depth.hi, .int .i64 r.fall.lo, .int .i64 r.fall.hi, .int .i64 r.days, .slice fa fl fc, .slice lA ll lp]) := HX4.out.below hb HX4.out.lt
 have HY5 : Hid (Blk w5 b14 23 #[.int .i64 (flo : Nat), .int .i64 (fhi : Nat)]) := HY4.out.below hb HY4.out.lt
 clear hb x0 x1 x2 x3 x4 x5 x6 xl HX
 have HX := HX5
 have x0 := HX.out.cell 0
 have x1 := HX.out.cell 1
 have x2 := HX.out.cell 2
 have x3 := HX.out.cell 3
 have x4 := HX.out.cell 4
 have x5 := HX.out.cell 5
 have x6 := HX.out.cell 6
 have xl := HX.out.lt
 simp at x0 x1 x2 x3 x4 x5 x6
 go_wp2_with fail
 refine (PUntil_any (fa := fa) (fl := fl) (fc := fc) (la := lA) (ll := ll) (lc := lp) (r := lR r lk) (w := w5) (n : Int) (by exact HP5.out)).mono ?_
 rw [HU.out]
 rintro e w6 ⟨rfl, hb⟩
 have HB6 : Hid (Below w.heap.size w w6) := HB5.out.trans (hb.mono HB5.out.size)
 have HP6 := Lib.hid (HP5.out.grow hb)
 have HX6 : Hid (Blk w6 b7 27 #[.int .i64 r.depth.lo, .int .i64 r.depth.hi, .int .i64 r.fall.lo, .int .i64 r.fall.hi, .int .i64 r.days, .slice fa fl fc, .slice lA ll lp]) := HX5.out.below hb HX5.out.lt
 have HY6 : Hid (Blk w6 b14 23 #[.int .i64 (flo : Nat), .int .i64 (fhi : Nat)]) := HY5.out.below hb HY5.out.lt
 clear hb x0 x1 x2 x3 x4 x5 x6 xl HX
 have HX := HX6
 have x0 := HX.out.cell 0
 have x1 := HX.out.cell 1
 have x2 := HX.out.cell 2
 have x3 := HX.out.cell 3
 have x4 := HX.out.cell 4
 have x5 := HX.out.cell 5
 have x6 := HX.out.cell 6
 have xl := HX.out.lt
 simp at x0 x1 x2 x3 x4 x5 x6
 go_wp2_with fail
 refine (PLast_any (fa := fa) (fl := fl) (fc := fc) (la := lA) (ll := ll) (lc := lp) (r := lR r lk) (w := w6) (n : Int) (by exact HP6.out)).mono ?_
 rw [HL.out]
 rintro e w7 ⟨rfl, hb⟩
 have HB7 : Hid (Below w.heap.size w w7) := HB6.out.trans (hb.mono HB6.out.size)
 have HP7 := Lib.hid (HP6.out.grow hb)
 have HX7 : Hid (Blk w7 b7 27 #[.int .i64 r.depth.lo, .int .i64 r.depth.hi, .int .i64 r.fall.lo, .int .i64 r.fall.hi, .int .i64 r.days, .slice fa fl fc, .slice lA ll lp]) := HX6.out.below hb HX6.out.lt
 have HY7 : Hid (Blk w7 b14 23 #[.int .i64 (flo : Nat), .int .i64 (fhi : Nat)]) := HY6.out.below hb HY6.out.lt
 clear hb x0 x1 x2 x3 x4 x5 x6 xl HX
 go_wp2
 exact H.out w7 b14 HB7.out HY7.out _ _ _ _ _ _ _ _ _ _ _ _ _ _ _ _ _ _ _ _ _ _ _ _ _ _ _ _ _ _ _ _ _ _ _ _ _ _ _ _ _ _ _ _ _ _ _ _ _ _ _ _ _ _ _ _ _ _ _ _ _ _ _ _ _ _ _ _ _ _ _ _ _ _ _ _ _ _ _ _ _ _ _ _ _ _ _ _ _ _ _ _ _ _ _ _ _ _ _ _ _ _ _ _ _ _ _ _ _ _ _ _ _ _ _ _ _ _ _ _ _ _ _ _ _ _ _ _ _ _ _ _ _ _ _ _ _ _ _ _ _ _ _ _ _ _ _ _ _ _ _ _ _ _ _ _ _ _ _ _ _ _ _ _ _ _ _ _ _ _ _ _ _ _ _ _ _ _ _ _ _ _ _ _ _ _ _ _ _ _ _ _ _ _ _ _ _ _ _ _ _ _ _ _ _ _ _ _ _ _ _ _ _ _ _ _ _ _ _ _ _ _ _ _ _ _ _ _ _ _ _ _ _ _
end
end Go.Proofs.Ytiodmkokpfgkkaa
