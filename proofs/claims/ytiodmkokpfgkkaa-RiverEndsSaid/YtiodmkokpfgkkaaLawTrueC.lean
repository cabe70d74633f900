/- The law RiverTrue: what is returned as a whole, and the freshes. Conditions: what the frame holds. -/
import Derived.Test.YtiodmkokpfgkkaaLawTrueB
namespace Go.Proofs.Ytiodmkokpfgkkaa
open Go.RowKit Go.Hav Go.Shelf Go.Sq
attribute [local go_sem] Oper.semAt_some
theorem fresh_fine {r : IRiv} (hv : okR r = true) (ht : truthsA r.nat ≠ []) {k : Nat} (hk : k < r.fr.length) : Value.tuple #[.int .i64 (freshV r (k : Int)), .int .i64 (freshE r (k : Int))] = .tuple #[.int .i64 (freshP r.nat k : Nat), .int .i64 0] := by
 have e : freshE r (k : Int) = 0 := toldE_fine hv (inB_iff.2 (by omega)) ht
 unfold freshV
 rw [if_pos e, e, Int.toNat_natCast]
 rfl
theorem clash_fine {r : IRiv} (hv : okR r = true) (ht : truthsA r.nat ≠ []) : Value.tuple #[.int .i64 (clashV r), .int .i64 (clashE r)] = .tuple #[.int .i64 0, .int .i64 4] := by
 have e : clashE r = 4 := by unfold clashE; rw [if_neg (by rw [hv]; decide), if_neg ht]
 unfold clashV
 rw [if_neg (by omega), e]
 rfl
theorem fresh_lt {r : IRiv} (hv : okR r = true) (k : Nat) : freshP r.nat k < 2 ^ 11 := Nat.lt_pow_two_of_testBit _ fun i hi => by
 unfold freshP
 rw [tb_orP]
 refine decide_eq_false fun h => ?_
 obtain ⟨t, ht, rfl⟩ := List.mem_map.1 h
 obtain ⟨⟨h1, h2, h3, h4, h5⟩, h6, h7⟩ := okR_pts hv
 have hlk : LkOk r.nat := fun l hl => by
  obtain ⟨g, hg, rfl⟩ := List.mem_map.1 hl
  have := List.all_eq_true.1 h7 g hg
  unfold lkB at this
  rw [Bool.and_eq_true] at this
  have := inB_iff.1 this.1
  show g.day.toNat ≤ r.days.toNat
  omega
 obtain ⟨e1, -, -, -, hT⟩ := (mem_truthsP hlk).1 ht
 by_cases hk : k < r.fr.length
 ·have hf : r.fr[k]? = some r.fr[k] := List.getElem?_eq_getElem hk
  have hs := (hT.sp k (r.fr[k]).nat (by show (r.fr.map _)[k]? = _; rw [List.getElem?_map, hf]; rfl)).2.1
  have h6 := List.all_eq_true.1 h6 _ (List.mem_of_getElem? hf)
  unfold frB at h6
  rw [Bool.and_eq_true] at h6
  have a := spB_iff.1 h6.1
  have b := inB_iff.1 h3
  have c : (r.fr[k]).nat.days.hi = (r.fr[k]).days.hi.toNat := rfl
  omega
 ·have hl : t.ds.length = r.fr.length := by rw [e1]; show (r.fr.map _).length = _; rw [List.length_map]
  have : t.dsF k = 0 := by unfold Tr.dsF; rw [List.getD_eq_getElem?_getD, List.getElem?_eq_none (by omega)]; rfl
  omega
section
variable {fa lA pA dA : Option Addr} {fl fc ll lp pc dc : Nat} {r : IRiv} {b7 b14 : Nat} {t : Tr} {lk : List ILk}
set_option maxRecDepth 100000 in
set_option maxHeartbeats 6400000 in
theorem true10 (hok : okR r = true) (hTI : TrueIn r t lk) (hfl : r.fr.length = fl) {w0 w : World} (hB : Below w0.heap.size w0 w) (h7 : Blk w b7 27 #[.int .i64 r.depth.lo, .int .i64 r.depth.hi, .int .i64 r.fall.lo, .int .i64 r.fall.hi, .int .i64 r.days, .slice fa fl fc, .slice lA ll lp]) (hP : RvIn w w.heap.size fa fl lA ll (lR r lk)) (hS : RowN nV 3 w dA t.ds) (hD : RowN nV 3 w pA ((List.range (r.nat.days + 1)).map t.at_)) {n : Nat} (hn : n < 130)
  {UN UE LN LE : Int} (hU : Value.tuple #[.int .i64 UN, .int .i64 UE] = if untilP (lR r lk).nat n = 0 then .tuple #[.int .i64 0, .int .i64 4] else .tuple #[.int .i64 ((untilP (lR r lk).nat n - 1 : Nat) : Int), .int .i64 0]) (hL : Value.tuple #[.int .i64 LN, .int .i64 LE] = if lastP (lR r lk).nat n = 0 then .tuple #[.int .i64 0, .int .i64 4] else .tuple #[.int .i64 ((lastP (lR r lk).nat n - 1 : Nat) : Int), .int .i64 0]) (c0 c1 c2 c3 c4 c5 c6 c8 c12 c13 c14 c15 c18 c23 c24 c25 c26 c27 c28 c29 c30 c31 c32 c33 c34 c35 c36 c37 c38 c39 c40 c41 c42 c43 c44 c45 c46 c47 c48 c49 c50 c51 c52 c53 c54 c55 c56 c57 c58 c59 c60 c61 c62 c63 c64 c65 c66 c67 c68 c69 c70 c71 c72 c73 c74 c75 c76 c77 c78 c79 c80 c81 c82 c83 c84 c85 c86 c87 c88 c89 c90 c91 c92 c93 c94 c95 c96 c97 c98 c99 c100 c101 c102 c103 c104 c105 c106 c107 c108 c109 c110 c111 c112 c113 c114 c115 c116 c117 c118 c119 c120 c121 c122 c123 c124 c125 c126 c127 c128 c129 c130 c131 c132 c133 c134 c135 c136 c137 c138 c139 c140 c141 c142 c143 c144 c145 c146 c147 c148 c149 c150 c151 c152 c153 c154 c155 c156 c157 c158 c159 c160 c161 c162 c163 c164 c165 c166 c167 c168 c169 c170 c171 c172 c173 c174 c175 c176 c177 c178 c179 c180 c181 c182 c183 c184 c185 c186 c187 c188 c189 c190 c191 c192 c193 c194 c195 c196 c197 c198 c199 c200 c201 c202 c203 c204 c205 c206 c207 c208 c209 c210 c211 c212 c213 c214 c215 c216 c217 c218 c219 c220 c221 c222 c223 c224 c225 c226 c227 c228 c229 c230 c231 c232 c233 c234 c235 c236 c237 c238 c239 c240 c241 c242 c243 c244 c245 c246 c247 c248 : Value) :
  Code.wp Try.prog (trueK 10) (bodyPost Try.prog Try.f6 (LawTrueT w0)) ⟨(c0::c1::c2::c3::c4::c5::c6::(.pointer (some ⟨b7, 0, none⟩))::c8::(.slice dA fl dc)::(.slice pA (r.nat.days + 1) pc)::(.int .i64 n)::c12::c13::c14::c15::(.int .i64 (surelyP (lR r lk).nat n : Nat))::(.int .i64 (perhapsP (lR r lk).nat n : Nat))::c18::(.int .i64 UN)::(.int .i64 UE)::(.int .i64 LN)::(.int .i64 LE)::c23::c24::c25::c26::c27::c28::c29::c30::c31::c32::c33::c34::c35::c36::c37::c38::c39::c40::c41::c42::c43::c44::c45::c46::c47::c48::c49::c50::c51::c52::c53::c54::c55::c56::c57::c58::c59::c60::c61::c62::c63::c64::c65::c66::c67::c68::c69::c70::c71::c72::c73::c74::c75::c76::c77::c78::c79::c80::c81::c82::c83::c84::c85::c86::c87::c88::c89::c90::c91::c92::c93::c94::c95::c96::c97::c98::c99::c100::c101::c102::c103::c104::c105::c106::c107::c108::c109::c110::c111::c112::c113::c114::c115::c116::c117::c118::c119::c120::c121::c122::c123::c124::c125::c126::c127::c128::c129::c130::c131::c132::c133::c134::c135::c136::c137::c138::c139::c140::c141::c142::c143::c144::c145::c146::c147::c148::c149::c150::c151::c152::c153::c154::c155::c156::c157::c158::c159::c160::c161::c162::c163::c164::c165::c166::c167::c168::c169::c170::c171::c172::c173::c174::c175::c176::c177::c178::c179::c180::c181::c182::c183::c184::c185::c186::c187::c188::c189::c190::c191::c192::c193::c194::c195::c196::c197::c198::c199::c200::c201::c202::c203::c204::c205::c206::c207::c208::c209::c210::c211::c212::c213::c214::c215::c216::c217::c218::c219::c220::c221::c222::c223::c224::c225::c226::c227::c228::c229::c230::c231::c232::c233::c234::c235::c236::c237::c238::c239::c240::c241::c242::c243::c244::c245::c246::c247::c248::[]).toArray, []⟩ w := by
 have H : Hid (∀ w', Below w.heap.size w w' → ∀ (c0 c1 c2 c3 c4 c5 c6 c8 c9 c12 c13 c14 c15 c18 c23 c24 c25 c26 c27 c28 c29 c30 c31 c32 c33 c34 c35 c36 c37 c38 c39 c40 c41 c42 c43 c44 c45 c46 c47 c48 c49 c50 c51 c52 c53 c54 c55 c56 c57 c58 c59 c60 c61 c62 c63 c64 c65 c66 c67 c68 c69 c70 c71 c72 c73 c74 c75 c76 c77 c78 c79 c80 c81 c82 c83 c84 c85 c86 c87 c88 c89 c90 c91 c92 c93 c94 c95 c96 c97 c98 c99 c100 c101 c102 c103 c104 c105 c106 c107 c108 c109 c110 c111 c112 c113 c114 c115 c116 c117 c118 c119 c120 c121 c122 c123 c124 c125 c126 c127 c128 c129 c130 c131 c132 c133 c134 c135 c136 c137 c138 c139 c140 c141 c142 c143 c144 c145 c146 c147 c148 c149 c150 c151 c152 c153 c154 c155 c156 c157 c158 c159 c160 c161 c162 c163 c164 c165 c166 c167 c168 c169 c170 c171 c172 c173 c174 c175 c176 c177 c178 c179 c180 c181 c182 c183 c184 c185 c186 c187 c188 c189 c190 c191 c192 c193 c194 c195 c196 c197 c198 c199 c200 c201 c202 c203 c204 c205 c206 c207 c208 c209 c210 c211 c212 c213 c214 c215 c216 c217 c218 c219 c220 c221 c222 c223 c224 c225 c226 c227 c228 c229 c230 c231 c232 c233 c234 c235 c236 c237 c238 c239 c240 c241 c242 c243 c244 c245 c246 c247 c248 : Value), Code.wp Try.prog (trueK 11) (bodyPost Try.prog Try.f6 (LawTrueT w0)) ⟨(c0::c1::c2::c3::c4::c5::c6::(.pointer (some ⟨b7, 0, none⟩))::c8::c9::(.slice pA (r.nat.days + 1) pc)::(.int .i64 n)::c12::c13::c14::c15::(.int .i64 (surelyP (lR r lk).nat n : Nat))::(.int .i64 (perhapsP (lR r lk).nat n : Nat))::c18::(.int .i64 UN)::(.int .i64 UE)::(.int .i64 LN)::(.int .i64 LE)::c23::c24::c25::c26::c27::c28::c29::c30::c31::c32::c33::c34::c35::c36::c37::c38::c39::c40::c41::c42::c43::c44::c45::c46::c47::c48::c49::c50::c51::c52::c53::c54::c55::c56::c57::c58::c59::c60::c61::c62::c63::c64::c65::c66::c67::c68::c69::c70::c71::c72::c73::c74::c75::c76::c77::c78::c79::c80::c81::c82::c83::c84::c85::c86::c87::c88::c89::c90::c91::c92::c93::c94::c95::c96::c97::c98::c99::c100::c101::c102::c103::c104::c105::c106::c107::c108::c109::c110::c111::c112::c113::c114::c115::c116::c117::c118::c119::c120::c121::c122::c123::c124::c125::c126::c127::c128::c129::c130::c131::c132::c133::c134::c135::c136::c137::c138::c139::c140::c141::c142::c143::c144::c145::c146::c147::c148::c149::c150::c151::c152::c153::c154::c155::c156::c157::c158::c159::c160::c161::c162::c163::c164::c165::c166::c167::c168::c169::c170::c171::c172::c173::c174::c175::c176::c177::c178::c179::c180::c181::c182::c183::c184::c185::c186::c187::c188::c189::c190::c191::c192::c193::c194::c195::c196::c197::c198::c199::c200::c201::c202::c203::c204::c205::c206::c207::c208::c209::c210::c211::c212::c213::c214::c215::c216::c217::c218::c219::c220::c221::c222::c223::c224::c225::c226::c227::c228::c229::c230::c231::c232::c233::c234::c235::c236::c237::c238::c239::c240::c241::c242::c243::c244::c245::c246::c247::c248::[]).toArray, []⟩ w') := fun w' hb =>
  true11 hok hTI hn (hB.trans (hb.mono hB.size)) (h7.below hb h7.lt) (hP.grow hb) (hD.below hb) hU hL
 have HOK := Lib.hid (hTI.ok_ hok)
 have HNE := Lib.hid (hTI.ne hok)
 have HFR := Lib.hid (hTI.fresh hok)
 have HLN : Hid (t.ds.length = fl) := hTI.nds.trans hfl
 have HFL := Lib.hid hfl
 have H7 := Lib.hid h7
 have HP := Lib.hid hP
 have HS := Lib.hid hS
 have hfl3 : fl ≤ 3 := by rw [← hfl]; exact (okR_pts hok).1.2.2.2.1
 conv => arg 2; whnf
 conv => arg 2; arg 2; change trueK 11
 clear hok hTI hU hL h7 hP hD hB hS hfl
 go_wp2
 go_loopw [123] (fun i wr => ∃ k : Nat, k ≤ fl ∧ i = .int .i64 k ∧ Hid (Below w.heap.size w wr)) (fun i _ => fl - (intOf i).toNat)
 case atStart => exact ⟨0, by omega, rfl, Below.refl _ _⟩
 case round =>
  obtain ⟨k, hk, rfl, HBR⟩ := hrel
  by_cases hlt : k < fl
  ·obtain ⟨x, hx⟩ : ∃ x, t.ds[k]? = some x := ⟨_, List.getElem?_eq_getElem (by rw [HLN.out]; exact hlt)⟩
   have hxe : t.dsF k = x := by unfold Tr.dsF; rw [List.getD_eq_getElem?_getD, hx]; rfl
   have htb := HFR.out k
   rw [hxe] at htb
   have hF2 := fresh_lt HOK.out k
   have HFF := Lib.hid (fresh_fine HOK.out HNE.out (show k < (lR r lk).fr.length by show k < r.fr.length; rw [HFL.out]; exact hlt))
   obtain ⟨F, hF⟩ : ∃ F, freshP (lR r lk).nat k = F := ⟨_, rfl⟩
   rw [hF] at htb hF2 HFF
   have hx11 : x < 11 := by
    rcases Nat.lt_or_ge x 11 with h | h
    ·exact h
    ·rw [Nat.testBit_lt_two_pow (Nat.lt_of_lt_of_le hF2 (Nat.pow_le_pow_right (by omega) h))] at htb; cases htb
   have hbit : bits BinOp.and IntKind.i64 ((F : Int) / 2 ^ x) 1 = 1 := by rw [and_one _ (.inr rfl) F x (by omega), if_pos htb]
   have hx64 : (x : Int) < 64 := by omega
   have hki : (k : Int) < (fl : Int) := by omega
   obtain ⟨pb, po, rfl, hpb, hpc⟩ := (HS.out.below HBR.out).at_ hx
   have HXR : Hid (Blk wr b7 27 #[.int .i64 r.depth.lo, .int .i64 r.depth.hi, .int .i64 r.fall.lo, .int .i64 r.fall.hi, .int .i64 r.days, .slice fa fl fc, .slice lA ll lp]) := H7.out.below HBR.out H7.out.lt
   have HPR := Lib.hid (HP.out.grow HBR.out)
   clear hx hxe htb hF2 hF hx11
   have x0 := HXR.out.cell 0
   have x1 := HXR.out.cell 1
   have x2 := HXR.out.cell 2
   have x3 := HXR.out.cell 3
   have x4 := HXR.out.cell 4
   have x5 := HXR.out.cell 5
   have x6 := HXR.out.cell 6
   have xl := HXR.out.lt
   simp at x0 x1 x2 x3 x4 x5 x6
   go_wp2_with fail
   refine (PFresh_any (fa := fa) (fl := fl) (fc := fc) (la := lA) (ll := ll) (lc := lp) (r := lR r lk) (w := wr) (k : Int) (by exact HPR.out)).mono ?_
   rw [HFF.out]
   rintro e w2 ⟨rfl, hb⟩
   have HB2 : Hid (Below w.heap.size w w2) := HBR.out.trans (hb.mono HBR.out.size)
   clear hb x0 x1 x2 x3 x4 x5 x6 xl
   go_wp2
   go_roundw
   case rel => exact ⟨k + 1, by omega, by go_num, HB2⟩
   case measure => simp [intOf]; omega
  ·obtain rfl : k = fl := by omega
   go_wp2
   exact H.out wr HBR.out _ _ _ _ _ _ _ _ _ _ _ _ _ _ _ _ _ _ _ _ _ _ _ _ _ _ _ _ _ _ _ _ _ _ _ _ _ _ _ _ _ _ _ _ _ _ _ _ _ _ _ _ _ _ _ _ _ _ _ _ _ _ _ _ _ _ _ _ _ _ _ _ _ _ _ _ _ _ _ _ _ _ _ _ _ _ _ _ _ _ _ _ _ _ _ _ _ _ _ _ _ _ _ _ _ _ _ _ _ _ _ _ _ _ _ _ _ _ _ _ _ _ _ _ _ _ _ _ _ _ _ _ _ _ _ _ _ _ _ _ _ _ _ _ _ _ _ _ _ _ _ _ _ _ _ _ _ _ _ _ _ _ _ _ _ _ _ _ _ _ _ _ _ _ _ _ _ _ _ _ _ _ _ _ _ _ _ _ _ _ _ _ _ _ _ _ _ _ _ _ _ _ _ _ _ _ _ _ _ _ _ _ _ _ _ _ _ _ _ _ _ _ _ _ _ _ _ _ _ _ _ _ _ _ _ _ _ _ _ _
set_option maxRecDepth 100000 in
set_option maxHeartbeats 6400000 in
theorem true9 (hok : okR r = true) (hTI : TrueIn r t lk) (hfl : r.fr.length = fl) {w0 w : World} (hB : Below w0.heap.size w0 w) (h7 : Blk w b7 27 #[.int .i64 r.depth.lo, .int .i64 r.depth.hi, .int .i64 r.fall.lo, .int .i64 r.fall.hi, .int .i64 r.days, .slice fa fl fc, .slice lA ll lp]) (hP : RvIn w w.heap.size fa fl lA ll (lR r lk)) (hS : RowN nV 3 w dA t.ds) (hD : RowN nV 3 w pA ((List.range (r.nat.days + 1)).map t.at_)) {n : Nat} (hn : n < 130)
  (h14 : Blk w b14 23 #[.int .i64 ((fallQ (lR r lk).nat).1 : Nat), .int .i64 ((fallQ (lR r lk).nat).2 : Nat)]) {UN UE LN LE : Int} (hU : Value.tuple #[.int .i64 UN, .int .i64 UE] = if untilP (lR r lk).nat n = 0 then .tuple #[.int .i64 0, .int .i64 4] else .tuple #[.int .i64 ((untilP (lR r lk).nat n - 1 : Nat) : Int), .int .i64 0]) (hL : Value.tuple #[.int .i64 LN, .int .i64 LE] = if lastP (lR r lk).nat n = 0 then .tuple #[.int .i64 0, .int .i64 4] else .tuple #[.int .i64 ((lastP (lR r lk).nat n - 1 : Nat) : Int), .int .i64 0]) (c0 c1 c2 c3 c4 c5 c6 c12 c23 c24 c25 c26 c27 c28 c29 c30 c31 c32 c33 c34 c35 c36 c37 c38 c39 c40 c41 c42 c43 c44 c45 c46 c47 c48 c49 c50 c51 c52 c53 c54 c55 c56 c57 c58 c59 c60 c61 c62 c63 c64 c65 c66 c67 c68 c69 c70 c71 c72 c73 c74 c75 c76 c77 c78 c79 c80 c81 c82 c83 c84 c85 c86 c87 c88 c89 c90 c91 c92 c93 c94 c95 c96 c97 c98 c99 c100 c101 c102 c103 c104 c105 c106 c107 c108 c109 c110 c111 c112 c113 c114 c115 c116 c117 c118 c119 c120 c121 c122 c123 c124 c125 c126 c127 c128 c129 c130 c131 c132 c133 c134 c135 c136 c137 c138 c139 c140 c141 c142 c143 c144 c145 c146 c147 c148 c149 c150 c151 c152 c153 c154 c155 c156 c157 c158 c159 c160 c161 c162 c163 c164 c165 c166 c167 c168 c169 c170 c171 c172 c173 c174 c175 c176 c177 c178 c179 c180 c181 c182 c183 c184 c185 c186 c187 c188 c189 c190 c191 c192 c193 c194 c195 c196 c197 c198 c199 c200 c201 c202 c203 c204 c205 c206 c207 c208 c209 c210 c211 c212 c213 c214 c215 c216 c217 c218 c219 c220 c221 c222 c223 c224 c225 c226 c227 c228 c229 c230 c231 c232 c233 c234 c235 c236 c237 c238 c239 c240 c241 c242 c243 c244 c245 c246 c247 c248 : Value) :
  Code.wp Try.prog (trueK 9) (bodyPost Try.prog Try.f6 (LawTrueT w0)) ⟨(c0::c1::c2::c3::c4::c5::c6::(.pointer (some ⟨b7, 0, none⟩))::(.int .i64 t.by_)::(.slice dA fl dc)::(.slice pA (r.nat.days + 1) pc)::(.int .i64 n)::c12::(.int .i64 4)::(.pointer (some ⟨b14, 0, none⟩))::(.int .i64 0)::(.int .i64 (surelyP (lR r lk).nat n : Nat))::(.int .i64 (perhapsP (lR r lk).nat n : Nat))::(.int .i64 0)::(.int .i64 UN)::(.int .i64 UE)::(.int .i64 LN)::(.int .i64 LE)::c23::c24::c25::c26::c27::c28::c29::c30::c31::c32::c33::c34::c35::c36::c37::c38::c39::c40::c41::c42::c43::c44::c45::c46::c47::c48::c49::c50::c51::c52::c53::c54::c55::c56::c57::c58::c59::c60::c61::c62::c63::c64::c65::c66::c67::c68::c69::c70::c71::c72::c73::c74::c75::c76::c77::c78::c79::c80::c81::c82::c83::c84::c85::c86::c87::c88::c89::c90::c91::c92::c93::c94::c95::c96::c97::c98::c99::c100::c101::c102::c103::c104::c105::c106::c107::c108::c109::c110::c111::c112::c113::c114::c115::c116::c117::c118::c119::c120::c121::c122::c123::c124::c125::c126::c127::c128::c129::c130::c131::c132::c133::c134::c135::c136::c137::c138::c139::c140::c141::c142::c143::c144::c145::c146::c147::c148::c149::c150::c151::c152::c153::c154::c155::c156::c157::c158::c159::c160::c161::c162::c163::c164::c165::c166::c167::c168::c169::c170::c171::c172::c173::c174::c175::c176::c177::c178::c179::c180::c181::c182::c183::c184::c185::c186::c187::c188::c189::c190::c191::c192::c193::c194::c195::c196::c197::c198::c199::c200::c201::c202::c203::c204::c205::c206::c207::c208::c209::c210::c211::c212::c213::c214::c215::c216::c217::c218::c219::c220::c221::c222::c223::c224::c225::c226::c227::c228::c229::c230::c231::c232::c233::c234::c235::c236::c237::c238::c239::c240::c241::c242::c243::c244::c245::c246::c247::c248::[]).toArray, []⟩ w := by
 have H : Hid (∀ w', Below w.heap.size w w' → ∀ (c0 c1 c2 c3 c4 c5 c6 c8 c12 c13 c14 c15 c18 c23 c24 c25 c26 c27 c28 c29 c30 c31 c32 c33 c34 c35 c36 c37 c38 c39 c40 c41 c42 c43 c44 c45 c46 c47 c48 c49 c50 c51 c52 c53 c54 c55 c56 c57 c58 c59 c60 c61 c62 c63 c64 c65 c66 c67 c68 c69 c70 c71 c72 c73 c74 c75 c76 c77 c78 c79 c80 c81 c82 c83 c84 c85 c86 c87 c88 c89 c90 c91 c92 c93 c94 c95 c96 c97 c98 c99 c100 c101 c102 c103 c104 c105 c106 c107 c108 c109 c110 c111 c112 c113 c114 c115 c116 c117 c118 c119 c120 c121 c122 c123 c124 c125 c126 c127 c128 c129 c130 c131 c132 c133 c134 c135 c136 c137 c138 c139 c140 c141 c142 c143 c144 c145 c146 c147 c148 c149 c150 c151 c152 c153 c154 c155 c156 c157 c158 c159 c160 c161 c162 c163 c164 c165 c166 c167 c168 c169 c170 c171 c172 c173 c174 c175 c176 c177 c178 c179 c180 c181 c182 c183 c184 c185 c186 c187 c188 c189 c190 c191 c192 c193 c194 c195 c196 c197 c198 c199 c200 c201 c202 c203 c204 c205 c206 c207 c208 c209 c210 c211 c212 c213 c214 c215 c216 c217 c218 c219 c220 c221 c222 c223 c224 c225 c226 c227 c228 c229 c230 c231 c232 c233 c234 c235 c236 c237 c238 c239 c240 c241 c242 c243 c244 c245 c246 c247 c248 : Value), Code.wp Try.prog (trueK 10) (bodyPost Try.prog Try.f6 (LawTrueT w0)) ⟨(c0::c1::c2::c3::c4::c5::c6::(.pointer (some ⟨b7, 0, none⟩))::c8::(.slice dA fl dc)::(.slice pA (r.nat.days + 1) pc)::(.int .i64 n)::c12::c13::c14::c15::(.int .i64 (surelyP (lR r lk).nat n : Nat))::(.int .i64 (perhapsP (lR r lk).nat n : Nat))::c18::(.int .i64 UN)::(.int .i64 UE)::(.int .i64 LN)::(.int .i64 LE)::c23::c24::c25::c26::c27::c28::c29::c30::c31::c32::c33::c34::c35::c36::c37::c38::c39::c40::c41::c42::c43::c44::c45::c46::c47::c48::c49::c50::c51::c52::c53::c54::c55::c56::c57::c58::c59::c60::c61::c62::c63::c64::c65::c66::c67::c68::c69::c70::c71::c72::c73::c74::c75::c76::c77::c78::c79::c80::c81::c82::c83::c84::c85::c86::c87::c88::c89::c90::c91::c92::c93::c94::c95::c96::c97::c98::c99::c100::c101::c102::c103::c104::c105::c106::c107::c108::c109::c110::c111::c112::c113::c114::c115::c116::c117::c118::c119::c120::c121::c122::c123::c124::c125::c126::c127::c128::c129::c130::c131::c132::c133::c134::c135::c136::c137::c138::c139::c140::c141::c142::c143::c144::c145::c146::c147::c148::c149::c150::c151::c152::c153::c154::c155::c156::c157::c158::c159::c160::c161::c162::c163::c164::c165::c166::c167::c168::c169::c170::c171::c172::c173::c174::c175::c176::c177::c178::c179::c180::c181::c182::c183::c184::c185::c186::c187::c188::c189::c190::c191::c192::c193::c194::c195::c196::c197::c198::c199::c200::c201::c202::c203::c204::c205::c206::c207::c208::c209::c210::c211::c212::c213::c214::c215::c216::c217::c218::c219::c220::c221::c222::c223::c224::c225::c226::c227::c228::c229::c230::c231::c232::c233::c234::c235::c236::c237::c238::c239::c240::c241::c242::c243::c244::c245::c246::c247::c248::[]).toArray, []⟩ w') := fun w' hb =>
  true10 hok hTI hfl (hB.trans (hb.mono hB.size)) (h7.below hb h7.lt) (hP.grow hb) (hS.below hb) (hD.below hb) hn hU hL
 obtain ⟨f1, f2⟩ := hTI.fall hok
 have hue := until_is hU
 have hle := last_is hL
 obtain ⟨flo, hflo⟩ : ∃ x, (fallQ (lR r lk).nat).1 = x := ⟨_, rfl⟩
 obtain ⟨fhi, hfhi⟩ : ∃ x, (fallQ (lR r lk).nat).2 = x := ⟨_, rfl⟩
 rw [hflo, hfhi] at h14
 rw [hflo] at f1
 rw [hfhi] at f2
 have z0 := h14.cell 0
 have z1 := h14.cell 1
 have zl := h14.lt
 simp at z0 z1
 obtain ⟨by_, hby⟩ : ∃ x, t.by_ = x := ⟨_, rfl⟩
 rw [hby] at f1 f2
 have hdy := (days_nat hok).2.2
 have hSl : surelyP (lR r lk).nat n < 2048 := by
  rw [surely_lo]
  have := setN_lt (loB (lR r lk).nat n) ((lR r lk).nat.days + 1)
  have := Nat.pow_le_pow_right (n := 2) (by omega) (show (lR r lk).nat.days + 1 ≤ 11 by show r.nat.days + 1 ≤ 11; omega)
  omega
 have hPl : perhapsP (lR r lk).nat n < 2048 := by
  rw [perhaps_hi (hTI.ne hok)]
  have := setN_lt (hiB (lR r lk).nat n) ((lR r lk).nat.days + 1)
  have := Nat.pow_le_pow_right (n := 2) (by omega) (show (lR r lk).nat.days + 1 ≤ 11 by show r.nat.days + 1 ≤ 11; omega)
  omega
 have hand : bits BinOp.andNot IntKind.i64 ((surelyP (lR r lk).nat n : Nat) : Int) ((perhapsP (lR r lk).nat n : Nat) : Int) = 0 := by
  rw [not_i64 _ _ (by omega) (by omega)]
  have : dif (surelyP (lR r lk).nat n) (perhapsP (lR r lk).nat n) = 0 := Nat.eq_of_testBit_eq fun j => by
   rw [tb_dif, Nat.zero_testBit]
   cases ha : (surelyP (lR r lk).nat n).testBit j
   ·rfl
   ·rw [hTI.sub hok n j ha]; rfl
  rw [this]; rfl
 obtain ⟨SS, hSS⟩ : ∃ S, surelyP (lR r lk).nat n = S := ⟨_, rfl⟩
 obtain ⟨PP, hPP⟩ : ∃ S, perhapsP (lR r lk).nat n = S := ⟨_, rfl⟩
 rw [hSS, hPP] at H hand
 rw [hSS, hPP, hby]
 have i1 : (flo : Int) ≤ (by_ : Int) := by omega
 have i2 : (by_ : Int) ≤ (fhi : Int) := by omega
 have hue4 : UE = 4 ∨ UE = 0 := hue.elim (fun h => .inl h.1) (fun h => .inr h.1)
 have hle4 : LE = 4 ∨ LE = 0 := hle.elim (fun h => .inl h.1) (fun h => .inr h.1)
 clear hue hle hok hTI hfl hB h7 hP hS hD h14 hU hL hflo hfhi hby hSl hPl hSS hPP hdy f1 f2
 conv => arg 2; whnf
 conv => arg 2; arg 2; change trueK 10
 rcases hue4 with rfl | rfl
 all_goals rcases hle4 with rfl | rfl
 all_goals
  go_upto_region 10 with (fail)
  refine wp_region_text [(0, false), (1, false), (2, false), (3, false), (4, false), (5, false), (6, false), (7, false), (8, false), (9, false), (10, false), (11, false), (12, false), (13, false), (14, false), (15, false), (16, false), (17, false), (18, false), (19, false), (20, false), (21, false), (22, false), (23, false), (24, false), (25, false), (26, false), (27, false), (28, false), (29, false), (30, false), (31, false), (32, false), (33, false), (34, false), (35, false), (36, false), (37, false)] (by kernel_rfl) ?_
  iterate 9 (first | (refine hav_skip (by simp only [List.getElem?_toArray]; rfl) (by rfl) ?_; simp only [Act.put, List.setIfInBounds_toArray, List.set_cons_succ, List.set_cons_zero]) | (apply hav_same (by simp only [List.getElem?_toArray]; rfl) (by kernel_rfl); (focus (intro wv hgv _; have hcv : ∀ b o, b < _ → wv.cell? ⟨b, o, none⟩ = _ := fun b o hb => Below.cell hgv (p := ⟨b, o, none⟩) hb; (try go_simp); try rfl; done)); simp only [Act.put, List.setIfInBounds_toArray, List.set_cons_succ, List.set_cons_zero]))
  (apply hav_call (by simp only [List.getElem?_toArray]; rfl) (by kernel_rfl); (focus (intro wv; go_simp; try exact ⟨rfl, rfl⟩; done)); (focus (intro wv hgv _; exact inside_any _ _ _ i1 i2 wv; done)); simp only [Act.put, List.setIfInBounds_toArray, List.set_cons_succ, List.set_cons_zero])
  iterate 28 (first | (refine hav_skip (by simp only [List.getElem?_toArray]; rfl) (by rfl) ?_; simp only [Act.put, List.setIfInBounds_toArray, List.set_cons_succ, List.set_cons_zero]) | (apply hav_same (by simp only [List.getElem?_toArray]; rfl) (by kernel_rfl); (focus (intro wv hgv _; have hcv : ∀ b o, b < _ → wv.cell? ⟨b, o, none⟩ = _ := fun b o hb => Below.cell hgv (p := ⟨b, o, none⟩) hb; (try go_simp); try rfl; done)); simp only [Act.put, List.setIfInBounds_toArray, List.set_cons_succ, List.set_cons_zero]))
  refine hav_end (fun wz hgz _ => ?_)
  simp only [List.filterMap]
  have HZ : Hid (Below w.heap.size w wz) := hgz
  clear hgz
  go_wp2
  exact H.out wz HZ.out _ _ _ _ _ _ _ _ _ _ _ _ _ _ _ _ _ _ _ _ _ _ _ _ _ _ _ _ _ _ _ _ _ _ _ _ _ _ _ _ _ _ _ _ _ _ _ _ _ _ _ _ _ _ _ _ _ _ _ _ _ _ _ _ _ _ _ _ _ _ _ _ _ _ _ _ _ _ _ _ _ _ _ _ _ _ _ _ _ _ _ _ _ _ _ _ _ _ _ _ _ _ _ _ _ _ _ _ _ _ _ _ _ _ _ _ _ _ _ _ _ _ _ _ _ _ _ _ _ _ _ _ _ _ _ _ _ _ _ _ _ _ _ _ _ _ _ _ _ _ _ _ _ _ _ _ _ _ _ _ _ _ _ _ _ _ _ _ _ _ _ _ _ _ _ _ _ _ _ _ _ _ _ _ _ _ _ _ _ _ _ _ _ _ _ _ _ _ _ _ _ _ _ _ _ _ _ _ _ _ _ _ _ _ _ _ _ _ _ _ _ _ _ _ _ _ _ _ _ _ _ _ _ _ _ _ _ _ _
end
end Go.Proofs.Ytiodmkokpfgkkaa
