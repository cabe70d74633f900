/- The law RiverEnds: the end, and the loop over what the river may fall. Conditions: what the frame holds. -/
import Derived.Test.YtiodmkokpfgkkaaEndsV
import Derived.Test.YtiodmkokpfgkkaaLawTrueA
namespace Go.Proofs.Ytiodmkokpfgkkaa
open Go.RowKit Go.Hav Go.Shelf Go.Sq
attribute [local go_sem] Oper.semAt_some
noncomputable def endsK (k : Nat) : Code := dropSeq k (Try.f7.body.getD .skip)
section
variable {fa la : Option Addr} {fl fc ll lc : Nat} {r : IRiv} {b3 b12 b14 : Nat}
set_option maxRecDepth 100000 in
set_option maxHeartbeats 1600000 in
theorem ends18 {w0 w : World} (hB : Below w0.heap.size w0 w) (c0 c1 c2 c3 c4 c5 c6 c7 c8 c9 c10 c11 c12 c13 c14 c15 c16 c17 c18 c19 c20 c21 c22 c23 c24 c25 c26 c27 c28 c29 c30 c31 c32 c33 c34 c35 c36 c37 c38 c39 c40 c41 c42 c43 c44 c45 c46 c47 c48 c49 c50 c51 c52 c53 c54 c55 c56 c57 c58 c59 c60 c61 c62 c63 c64 c65 c66 c67 c68 c69 c70 c71 c72 c73 c74 c75 c76 c77 c78 c79 c80 c81 c82 c83 c84 c85 c86 c87 c88 c89 c90 c91 c92 c93 c94 c95 c96 c97 c98 c99 c100 c101 c102 c103 c104 c105 c106 c107 c108 c109 c110 c111 c112 c113 c114 c115 c116 c117 c118 c119 c120 c121 c122 c123 c124 c125 c126 c127 c128 c129 c130 c131 c132 c133 c134 c135 c136 c137 c138 c139 c140 c141 c142 c143 c144 c145 c146 c147 c148 c149 c150 c151 c152 c153 c154 c155 c156 c157 c158 c159 c160 c161 c162 c163 c164 c165 c166 c167 c168 c169 c170 c171 c172 c173 c174 c175 c176 c177 c178 c179 c180 c181 c182 c183 c184 c185 c186 c187 c188 c189 c190 c191 c192 c193 c194 c195 c196 c197 c198 c199 c200 c201 c202 c203 c204 c205 c206 c207 c208 c209 c210 c211 c212 c213 c214 c215 c216 c217 c218 c219 c220 c221 c222 c223 c224 c225 c226 c227 c228 c229 c230 c231 c232 c233 c234 c235 c236 c237 c238 c239 c240 c241 c242 c243 c244 c245 c246 c247 c248 c249 c250 c251 c252 c253 c254 c255 c256 c257 c258 c259 c260 c261 c262 c263 c264 c265 c266 c267 c268 c269 c270 c271 c272 c273 c274 c275 c276 c277 c278 c279 c280 c281 c282 c283 c284 c285 c286 c287 c288 c289 c290 c291 c292 c293 c294 c295 c296 c297 c298 c299 c300 c301 c302 c303 c304 c305 c306 c307 c308 c309 c310 c311 c312 c313 c314 c315 c316 c317 c318 c319 c320 c321 c322 c323 c324 c325 c326 c327 c328 c329 c330 c331 c332 c333 c334 c335 c336 c337 c338 c339 c340 c341 c342 c343 c344 c345 c346 c347 c348 c349 c350 c351 c352 c353 c354 c355 c356 c357 c358 c359 : Value) : Code.wp Try.prog (endsK 18) (bodyPost Try.prog Try.f7 (LawTrueT w0)) ⟨(c0::c1::c2::c3::c4::c5::c6::c7::c8::c9::c10::c11::c12::c13::c14::c15::c16::c17::c18::c19::c20::c21::c22::c23::c24::c25::c26::c27::c28::c29::c30::c31::c32::c33::c34::c35::c36::c37::c38::c39::c40::c41::c42::c43::c44::c45::c46::c47::c48::c49::c50::c51::c52::c53::c54::c55::c56::c57::c58::c59::c60::c61::c62::c63::c64::c65::c66::c67::c68::c69::c70::c71::c72::c73::c74::c75::c76::c77::c78::c79::c80::c81::c82::c83::c84::c85::c86::c87::c88::c89::c90::c91::c92::c93::c94::c95::c96::c97::c98::c99::c100::c101::c102::c103::c104::c105::c106::c107::c108::c109::c110::c111::c112::c113::c114::c115::c116::c117::c118::c119::c120::c121::c122::c123::c124::c125::c126::c127::c128::c129::c130::c131::c132::c133::c134::c135::c136::c137::c138::c139::c140::c141::c142::c143::c144::c145::c146::c147::c148::c149::c150::c151::c152::c153::c154::c155::c156::c157::c158::c159::c160::c161::c162::c163::c164::c165::c166::c167::c168::c169::c170::c171::c172::c173::c174::c175::c176::c177::c178::c179::c180::c181::c182::c183::c184::c185::c186::c187::c188::c189::c190::c191::c192::c193::c194::c195::c196::c197::c198::c199::c200::c201::c202::c203::c204::c205::c206::c207::c208::c209::c210::c211::c212::c213::c214::c215::c216::c217::c218::c219::c220::c221::c222::c223::c224::c225::c226::c227::c228::c229::c230::c231::c232::c233::c234::c235::c236::c237::c238::c239::c240::c241::c242::c243::c244::c245::c246::c247::c248::c249::c250::c251::c252::c253::c254::c255::c256::c257::c258::c259::c260::c261::c262::c263::c264::c265::c266::c267::c268::c269::c270::c271::c272::c273::c274::c275::c276::c277::c278::c279::c280::c281::c282::c283::c284::c285::c286::c287::c288::c289::c290::c291::c292::c293::c294::c295::c296::c297::c298::c299::c300::c301::c302::c303::c304::c305::c306::c307::c308::c309::c310::c311::c312::c313::c314::c315::c316::c317::c318::c319::c320::c321::c322::c323::c324::c325::c326::c327::c328::c329::c330::c331::c332::c333::c334::c335::c336::c337::c338::c339::c340::c341::c342::c343::c344::c345::c346::c347::c348::c349::c350::c351::c352::c353::c354::c355::c356::c357::c358::c359::[]).toArray, []⟩ w := by
 conv => arg 2; whnf
 have HB := Lib.hid hB
 clear hB
 go_wp2_with fail
 refine (alive_any w).mono ?_
 rintro e w' ⟨rfl, hb⟩
 have HB2 : Hid (Below w0.heap.size w0 w') := HB.out.trans (hb.mono HB.out.size)
 clear hb
 go_wp2
 go_ret
 exact ⟨rfl, HB2.out⟩
set_option maxRecDepth 100000 in
set_option maxHeartbeats 6400000 in
theorem ends14 (hok : okR r = true) (ht : truthsA r.nat ≠ []) {w0 w : World} (h3 : Blk w b3 27 #[.int .i64 r.depth.lo, .int .i64 r.depth.hi, .int .i64 r.fall.lo, .int .i64 r.fall.hi, .int .i64 r.days, .slice fa fl fc, .slice la ll lc]) (hP : RvIn w w.heap.size fa fl la ll r) (h14 : Blk w b14 23 #[.int .i64 ((fallQ r.nat).1 : Nat), .int .i64 ((fallQ r.nat).2 : Nat)]) (which d : Nat)
  (K : ∀ w', Below w.heap.size w w' → ∀ (c0 c1 c4 c5 c6 c7 c8 c9 c10 c13 c14 c15 c16 c17 c18 c19 c20 c21 c22 c23 c24 c25 c26 c27 c28 c29 c30 c31 c32 c33 c34 c35 c36 c37 c38 c39 c40 c41 c42 c43 c44 c45 c46 c47 c48 c49 c50 c51 c52 c53 c54 c55 c56 c57 c58 c59 c60 c61 c62 c63 c64 c65 c66 c67 c68 c69 c70 c71 c72 c73 c74 c75 c76 c77 c78 c79 c80 c81 c82 c83 c84 c85 c86 c87 c88 c89 c90 c91 c92 c93 c94 c95 c96 c97 c98 c99 c100 c101 c102 c103 c104 c105 c106 c107 c108 c109 c110 c111 c112 c113 c114 c115 c116 c117 c118 c119 c120 c121 c122 c123 c124 c125 c126 c127 c128 c129 c130 c131 c132 c133 c134 c135 c136 c137 c138 c139 c140 c141 c142 c143 c144 c145 c146 c147 c148 c149 c150 c151 c152 c153 c154 c155 c156 c157 c158 c159 c160 c161 c162 c163 c164 c165 c166 c167 c168 c169 c170 c171 c172 c173 c174 c175 c176 c177 c178 c179 c180 c181 c182 c183 c184 c185 c186 c187 c188 c189 c190 c191 c192 c193 c194 c195 c196 c197 c198 c199 c200 c201 c202 c203 c204 c205 c206 c207 c208 c209 c210 c211 c212 c213 c214 c215 c216 c217 c218 c219 c220 c221 c222 c223 c224 c225 c226 c227 c228 c229 c230 c231 c232 c233 c234 c235 c236 c237 c238 c239 c240 c241 c242 c243 c244 c245 c246 c247 c248 c249 c250 c251 c252 c253 c254 c255 c256 c257 c258 c259 c260 c261 c262 c263 c264 c265 c266 c267 c268 c269 c270 c271 c272 c273 c274 c275 c276 c277 c278 c279 c280 c281 c282 c283 c284 c285 c286 c287 c288 c289 c290 c291 c292 c293 c294 c295 c296 c297 c298 c299 c300 c301 c302 c303 c304 c305 c306 c307 c308 c309 c310 c311 c312 c313 c314 c315 c316 c317 c318 c319 c320 c321 c322 c323 c324 c325 c326 c327 c328 c329 c330 c331 c332 c333 c334 c335 c336 c337 c338 c339 c340 c341 c342 c343 c344 c345 c346 c347 c348 c349 c350 c351 c352 c353 c354 c355 c356 c357 c358 c359 : Value), Code.wp Try.prog (endsK 15) (bodyPost Try.prog Try.f7 (LawTrueT w0)) ⟨(c0::c1::(.int .u8 which)::(.pointer (some ⟨b3, 0, none⟩))::c4::c5::c6::c7::c8::c9::c10::(.int .i64 d)::(.pointer (some ⟨b12, 0, none⟩))::c13::c14::c15::c16::c17::c18::c19::c20::c21::c22::c23::c24::c25::c26::c27::c28::c29::c30::c31::c32::c33::c34::c35::c36::c37::c38::c39::c40::c41::c42::c43::c44::c45::c46::c47::c48::c49::c50::c51::c52::c53::c54::c55::c56::c57::c58::c59::c60::c61::c62::c63::c64::c65::c66::c67::c68::c69::c70::c71::c72::c73::c74::c75::c76::c77::c78::c79::c80::c81::c82::c83::c84::c85::c86::c87::c88::c89::c90::c91::c92::c93::c94::c95::c96::c97::c98::c99::c100::c101::c102::c103::c104::c105::c106::c107::c108::c109::c110::c111::c112::c113::c114::c115::c116::c117::c118::c119::c120::c121::c122::c123::c124::c125::c126::c127::c128::c129::c130::c131::c132::c133::c134::c135::c136::c137::c138::c139::c140::c141::c142::c143::c144::c145::c146::c147::c148::c149::c150::c151::c152::c153::c154::c155::c156::c157::c158::c159::c160::c161::c162::c163::c164::c165::c166::c167::c168::c169::c170::c171::c172::c173::c174::c175::c176::c177::c178::c179::c180::c181::c182::c183::c184::c185::c186::c187::c188::c189::c190::c191::c192::c193::c194::c195::c196::c197::c198::c199::c200::c201::c202::c203::c204::c205::c206::c207::c208::c209::c210::c211::c212::c213::c214::c215::c216::c217::c218::c219::c220::c221::c222::c223::c224::c225::c226::c227::c228::c229::c230::c231::c232::c233::c234::c235::c236::c237::c238::c239::c240::c241::c242::c243::c244::c245::c246::c247::c248::c249::c250::c251::c252::c253::c254::c255::c256::c257::c258::c259::c260::c261::c262::c263::c264::c265::c266::c267::c268::c269::c270::c271::c272::c273::c274::c275::c276::c277::c278::c279::c280::c281::c282::c283::c284::c285::c286::c287::c288::c289::c290::c291::c292::c293::c294::c295::c296::c297::c298::c299::c300::c301::c302::c303::c304::c305::c306::c307::c308::c309::c310::c311::c312::c313::c314::c315::c316::c317::c318::c319::c320::c321::c322::c323::c324::c325::c326::c327::c328::c329::c330::c331::c332::c333::c334::c335::c336::c337::c338::c339::c340::c341::c342::c343::c344::c345::c346::c347::c348::c349::c350::c351::c352::c353::c354::c355::c356::c357::c358::c359::[]).toArray, []⟩ w') (c0 c1 c4 c5 c6 c7 c8 c9 c10 c13 c15 c16 c17 c18 c19 c20 c21 c22 c23 c24 c25 c26 c27 c28 c29 c30 c31 c32 c33 c34 c35 c36 c37 c38 c39 c40 c41 c42 c43 c44 c45 c46 c47 c48 c49 c50 c51 c52 c53 c54 c55 c56 c57 c58 c59 c60 c61 c62 c63 c64 c65 c66 c67 c68 c69 c70 c71 c72 c73 c74 c75 c76 c77 c78 c79 c80 c81 c82 c83 c84 c85 c86 c87 c88 c89 c90 c91 c92 c93 c94 c95 c96 c97 c98 c99 c100 c101 c102 c103 c104 c105 c106 c107 c108 c109 c110 c111 c112 c113 c114 c115 c116 c117 c118 c119 c120 c121 c122 c123 c124 c125 c126 c127 c128 c129 c130 c131 c132 c133 c134 c135 c136 c137 c138 c139 c140 c141 c142 c143 c144 c145 c146 c147 c148 c149 c150 c151 c152 c153 c154 c155 c156 c157 c158 c159 c160 c161 c162 c163 c164 c165 c166 c167 c168 c169 c170 c171 c172 c173 c174 c175 c176 c177 c178 c179 c180 c181 c182 c183 c184 c185 c186 c187 c188 c189 c190 c191 c192 c193 c194 c195 c196 c197 c198 c199 c200 c201 c202 c203 c204 c205 c206 c207 c208 c209 c210 c211 c212 c213 c214 c215 c216 c217 c218 c219 c220 c221 c222 c223 c224 c225 c226 c227 c228 c229 c230 c231 c232 c233 c234 c235 c236 c237 c238 c239 c240 c241 c242 c243 c244 c245 c246 c247 c248 c249 c250 c251 c252 c253 c254 c255 c256 c257 c258 c259 c260 c261 c262 c263 c264 c265 c266 c267 c268 c269 c270 c271 c272 c273 c274 c275 c276 c277 c278 c279 c280 c281 c282 c283 c284 c285 c286 c287 c288 c289 c290 c291 c292 c293 c294 c295 c296 c297 c298 c299 c300 c301 c302 c303 c304 c305 c306 c307 c308 c309 c310 c311 c312 c313 c314 c315 c316 c317 c318 c319 c320 c321 c322 c323 c324 c325 c326 c327 c328 c329 c330 c331 c332 c333 c334 c335 c336 c337 c338 c339 c340 c341 c342 c343 c344 c345 c346 c347 c348 c349 c350 c351 c352 c353 c354 c355 c356 c357 c358 c359 : Value) :
  Code.wp Try.prog (endsK 14) (bodyPost Try.prog Try.f7 (LawTrueT w0)) ⟨(c0::c1::(.int .u8 which)::(.pointer (some ⟨b3, 0, none⟩))::c4::c5::c6::c7::c8::c9::c10::(.int .i64 d)::(.pointer (some ⟨b12, 0, none⟩))::c13::(.pointer (some ⟨b14, 0, none⟩))::c15::c16::c17::c18::c19::c20::c21::c22::c23::c24::c25::c26::c27::c28::c29::c30::c31::c32::c33::c34::c35::c36::c37::c38::c39::c40::c41::c42::c43::c44::c45::c46::c47::c48::c49::c50::c51::c52::c53::c54::c55::c56::c57::c58::c59::c60::c61::c62::c63::c64::c65::c66::c67::c68::c69::c70::c71::c72::c73::c74::c75::c76::c77::c78::c79::c80::c81::c82::c83::c84::c85::c86::c87::c88::c89::c90::c91::c92::c93::c94::c95::c96::c97::c98::c99::c100::c101::c102::c103::c104::c105::c106::c107::c108::c109::c110::c111::c112::c113::c114::c115::c116::c117::c118::c119::c120::c121::c122::c123::c124::c125::c126::c127::c128::c129::c130::c131::c132::c133::c134::c135::c136::c137::c138::c139::c140::c141::c142::c143::c144::c145::c146::c147::c148::c149::c150::c151::c152::c153::c154::c155::c156::c157::c158::c159::c160::c161::c162::c163::c164::c165::c166::c167::c168::c169::c170::c171::c172::c173::c174::c175::c176::c177::c178::c179::c180::c181::c182::c183::c184::c185::c186::c187::c188::c189::c190::c191::c192::c193::c194::c195::c196::c197::c198::c199::c200::c201::c202::c203::c204::c205::c206::c207::c208::c209::c210::c211::c212::c213::c214::c215::c216::c217::c218::c219::c220::c221::c222::c223::c224::c225::c226::c227::c228::c229::c230::c231::c232::c233::c234::c235::c236::c237::c238::c239::c240::c241::c242::c243::c244::c245::c246::c247::c248::c249::c250::c251::c252::c253::c254::c255::c256::c257::c258::c259::c260::c261::c262::c263::c264::c265::c266::c267::c268::c269::c270::c271::c272::c273::c274::c275::c276::c277::c278::c279::c280::c281::c282::c283::c284::c285::c286::c287::c288::c289::c290::c291::c292::c293::c294::c295::c296::c297::c298::c299::c300::c301::c302::c303::c304::c305::c306::c307::c308::c309::c310::c311::c312::c313::c314::c315::c316::c317::c318::c319::c320::c321::c322::c323::c324::c325::c326::c327::c328::c329::c330::c331::c332::c333::c334::c335::c336::c337::c338::c339::c340::c341::c342::c343::c344::c345::c346::c347::c348::c349::c350::c351::c352::c353::c354::c355::c356::c357::c358::c359::[]).toArray, []⟩ w := by
 have HK := Lib.hid K
 have HFV : Hid (∀ n : Int, r.fall.lo ≤ n → n ≤ r.fall.hi → _) := fun n a b => fall_vals hok ht (n := n) a b
 obtain ⟨-, -, -, hf0, hf1, hf2, -⟩ := okR_sp hok
 have hfq : (fallQ r.nat).2 ≤ 5 := by
  have H : IsHull ((truthsA r.nat).map (·.by_)) (fallQ r.nat) := hullP_is (fun e => ht (List.map_eq_nil_iff.1 e))
  obtain ⟨t, hm, e⟩ := List.mem_map.1 H.hi
  have := ((mem_truthsA hok).1 hm).2.2.2.1
  have e2 : r.nat.fall.hi = r.fall.hi.toNat := rfl
  have e3 : t.by_ = (fallQ r.nat).2 := e
  omega
 obtain ⟨flo, hflo⟩ : ∃ x, (fallQ r.nat).1 = x := ⟨_, rfl⟩
 obtain ⟨fhi, hfhi⟩ : ∃ x, (fallQ r.nat).2 = x := ⟨_, rfl⟩
 rw [hflo, hfhi] at h14 HFV
 rw [hfhi] at hfq
 have H3 := Lib.hid h3
 have H14 := Lib.hid h14
 have HP := Lib.hid hP
 conv => arg 2; whnf
 conv => arg 2; arg 2; change endsK 15
 have HX := H3
 have x0 := HX.out.cell 0
 have x1 := HX.out.cell 1
 have x2 := HX.out.cell 2
 have x3 := HX.out.cell 3
 have x4 := HX.out.cell 4
 have x5 := HX.out.cell 5
 have x6 := HX.out.cell 6
 have xl := HX.out.lt
 simp at x0 x1 x2 x3 x4 x5 x6
 clear K hok ht h3 hP h14 hflo hfhi
 go_wp2
 go_loopw [29] (fun i wr => ∃ n : Int, r.fall.lo ≤ n ∧ n ≤ r.fall.hi + 1 ∧ i = .int .i64 n ∧ Hid (Below w.heap.size w wr)) (fun i _ => (r.fall.hi + 1 - intOf i).toNat)
 case atStart => exact ⟨_, Int.le_refl _, by omega, rfl, Below.refl _ _⟩
 case round =>
  obtain ⟨n, hn0, hn1, rfl, HBR⟩ := hrel
  clear x0 x1 x2 x3 x4 x5 x6 xl HX
  have HX : Hid (Blk wr b3 27 #[.int .i64 r.depth.lo, .int .i64 r.depth.hi, .int .i64 r.fall.lo, .int .i64 r.fall.hi, .int .i64 r.days, .slice fa fl fc, .slice la ll lc]) := H3.out.below HBR.out H3.out.lt
  have x0 := HX.out.cell 0
  have x1 := HX.out.cell 1
  have x2 := HX.out.cell 2
  have x3 := HX.out.cell 3
  have x4 := HX.out.cell 4
  have x5 := HX.out.cell 5
  have x6 := HX.out.cell 6
  have xl := HX.out.lt
  simp at x0 x1 x2 x3 x4 x5 x6
  by_cases hlt : n ≤ r.fall.hi
  ·obtain ⟨cv, G, hV, hG⟩ := HFV.out n hn0 hlt
   have HV := Lib.hid hV
   have HG := Lib.hid hG
   clear hV hG
   obtain ⟨W1, hW1⟩ : ∃ W, W = wr.alloc (.cells #[.int .i64 r.depth.lo, .int .i64 r.depth.hi, .int .i64 r.fall.lo, .int .i64 r.fall.hi, .int .i64 r.days, .slice fa fl fc, .slice la ll lc] 27) := ⟨_, rfl⟩
   obtain ⟨b30, hb30⟩ : ∃ g, g = wr.heap.size := ⟨_, rfl⟩
   have HY1 : Hid (Blk W1 b30 27 #[.int .i64 r.depth.lo, .int .i64 r.depth.hi, .int .i64 r.fall.lo, .int .i64 r.fall.hi, .int .i64 r.days, .slice fa fl fc, .slice la ll lc]) := by rw [hW1, hb30]; exact Blk.new wr 27 _
   have HB1 : Hid (Below wr.heap.size wr W1) := by rw [hW1]; exact (Below.refl _ _).alloc (Nat.le_refl _) _
   have hb30' : wr.heap.size ≤ b30 := by rw [hb30]; exact Nat.le_refl _
   go_upto_region 24 with (fail)
   rw [← hW1, ← hb30]
   clear hW1 hb30
   go_wp2_with fail
   refine (lspan_any n n W1).mono ?_
   rintro e w2 ⟨rfl, hb⟩
   have HY2 := Lib.hid (HY1.out.below hb HY1.out.lt)
   have HB2 : Hid (Below wr.heap.size wr w2) := HB1.out.trans (hb.mono HB1.out.size)
   clear hb x0 x1 x2 x3 x4 x5 x6 xl HX HY1 HB1
   have HX := HY2
   have x0 := HX.out.cell 0
   have x1 := HX.out.cell 1
   have x2 := HX.out.cell 2
   have x3 := HX.out.cell 3
   have x4 := HX.out.cell 4
   have x5 := HX.out.cell 5
   have x6 := HX.out.cell 6
   have xl := HX.out.lt
   simp at x0 x1 x2 x3 x4 x5 x6
   have f2 := HY2.out.frozen 2
   have f3 := HY2.out.frozen 3
   go_upto_region 25 with (fail)
   obtain ⟨w4, hw4⟩ : ∃ x, x = (w2.setCell ⟨b30, 2, none⟩ (.int .i64 n)).setCell ⟨b30, 3, none⟩ (.int .i64 n) := ⟨_, rfl⟩
   have ht4 : Turn (fun x => x = b30) w2 w4 := by rw [hw4]; exact (Turn.set (S := fun x => x = b30) ⟨b30, 2, none⟩ _ (fun _ => rfl)).trans (Turn.set (S := fun x => x = b30) ⟨b30, 3, none⟩ _ (fun _ => rfl))
   have HY4 : Hid (Blk w4 b30 27 #[.int .i64 r.depth.lo, .int .i64 r.depth.hi, .int .i64 n, .int .i64 n, .int .i64 r.days, .slice fa fl fc, .slice la ll lc]) := by rw [hw4]; exact (HY2.out.set_ 2 (.int .i64 n)).set_ 3 (.int .i64 n)
   have HB4 : Hid (Below wr.heap.size wr w4) := HB2.out.trans (ht4.below HB2.out.size (fun b e => by rw [e]; exact hb30'))
   have HP4 := Lib.hid ((HP.out.grow HBR.out).grow HB4.out)
   have HPF : Hid (RvIn w4 w4.heap.size fa fl la ll (fallR r n)) := ⟨HP4.out.efl, HP4.out.ell, HP4.out.hfr, HP4.out.hlk, HP4.out.mfl, HP4.out.mll⟩
   rw [← hw4]
   clear ht4 hw4 x0 x1 x2 x3 x4 x5 x6 xl HX f2 f3
   have HX := HY4
   have x0 := HX.out.cell 0
   have x1 := HX.out.cell 1
   have x2 := HX.out.cell 2
   have x3 := HX.out.cell 3
   have x4 := HX.out.cell 4
   have x5 := HX.out.cell 5
   have x6 := HX.out.cell 6
   have xl := HX.out.lt
   simp at x0 x1 x2 x3 x4 x5 x6
   go_wp2_with fail
   refine (PClash_any (fa := fa) (fl := fl) (fc := fc) (la := la) (ll := ll) (lc := lc) (r := fallR r n) (w := w4) (by exact HPF.out)).mono ?_
   rw [HV.out]
   rintro e w5 ⟨rfl, hb⟩
   have HB5 : Hid (Below w.heap.size w w5) := HBR.out.trans ((HB4.out.trans (hb.mono HB4.out.size)).mono HBR.out.size)
   clear hb x0 x1 x2 x3 x4 x5 x6 xl HX
   have HZ : Hid (Blk w5 b14 23 #[.int .i64 flo, .int .i64 fhi]) := H14.out.below HB5.out H14.out.lt
   have y0 := HZ.out.cell 0
   have y1 := HZ.out.cell 1
   have yl := HZ.out.lt
   simp at y0 y1
   have HX : Hid (Blk w5 b3 27 #[.int .i64 r.depth.lo, .int .i64 r.depth.hi, .int .i64 r.fall.lo, .int .i64 r.fall.hi, .int .i64 r.days, .slice fa fl fc, .slice la ll lc]) := H3.out.below HB5.out H3.out.lt
   have x0 := HX.out.cell 0
   have x1 := HX.out.cell 1
   have x2 := HX.out.cell 2
   have x3 := HX.out.cell 3
   have x4 := HX.out.cell 4
   have x5 := HX.out.cell 5
   have x6 := HX.out.cell 6
   have xl := HX.out.lt
   simp at x0 x1 x2 x3 x4 x5 x6
   rcases HG.out with ⟨rfl, hi1, hi2⟩ | ⟨rfl, hi1, hi2⟩
   ·go_wp2_with fail
    refine (inside_any n flo fhi hi1 hi2 w5).mono ?_
    rintro e w6 ⟨rfl, hb⟩
    have HB6 : Hid (Below w.heap.size w w6) := HB5.out.trans (hb.mono HB5.out.size)
    clear hb x0 x1 x2 x3 x4 x5 x6 xl HX y0 y1 yl
    go_wp2
    go_roundw
    case rel => exact ⟨n + 1, by omega, by omega, by go_num, HB6⟩
    case measure => simp [intOf]; omega
   ·have hb1 : (n == (flo : Int)) = false := beq_eq_false_iff_ne.2 hi1
    have hb2 : (n == (fhi : Int)) = false := beq_eq_false_iff_ne.2 hi2
    go_wp2
    go_roundw
    case rel => exact ⟨n + 1, by omega, by omega, by go_num, HB5⟩
    case measure => simp [intOf]; omega
  ·obtain rfl : n = r.fall.hi + 1 := by omega
   have hno : ¬ (r.fall.hi + 1 ≤ r.fall.hi) := by omega
   go_wp2
   exact HK.out wr HBR.out _ _ _ _ _ _ _ _ _ _ _ _ _ _ _ _ _ _ _ _ _ _ _ _ _ _ _ _ _ _ _ _ _ _ _ _ _ _ _ _ _ _ _ _ _ _ _ _ _ _ _ _ _ _ _ _ _ _ _ _ _ _ _ _ _ _ _ _ _ _ _ _ _ _ _ _ _ _ _ _ _ _ _ _ _ _ _ _ _ _ _ _ _ _ _ _ _ _ _ _ _ _ _ _ _ _ _ _ _ _ _ _ _ _ _ _ _ _ _ _ _ _ _ _ _ _ _ _ _ _ _ _ _ _ _ _ _ _ _ _ _ _ _ _ _ _ _ _ _ _ _ _ _ _ _ _ _ _ _ _ _ _ _ _ _ _ _ _ _ _ _ _ _ _ _ _ _ _ _ _ _ _ _ _ _ _ _ _ _ _ _ _ _ _ _ _ _ _ _ _ _ _ _ _ _ _ _ _ _ _ _ _ _ _ _ _ _ _ _ _ _ _ _ _ _ _ _ _ _ _ _ _ _ _ _ _ _ _ _ _ _ _ _ _ _ _ _ _ _ _ _ _ _ _ _ _ _ _ _ _ _ _ _ _ _ _ _ _ _ _ _ _ _ _ _ _ _ _ _ _ _ _ _ _ _ _ _ _ _ _ _ _ _ _ _ _ _ _ _ _ _ _ _ _ _ _ _ _ _ _ _ _ _ _ _ _ _ _ _ _ _ _ _ _ _ _ _ _ _ _ _ _ _ _ _ _ _ _ _ _ _ _ _ _ _ _ _ _ _ _ _ _ _ _ _ _
end
end Go.Proofs.Ytiodmkokpfgkkaa
