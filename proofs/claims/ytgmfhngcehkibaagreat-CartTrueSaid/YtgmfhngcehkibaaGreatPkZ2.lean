/- The law CartTrue from behind: what plans truly bring. Rows that a block of their own keeps. The laws' numbers, drawn by remainders: draws, and the closure that it returns. Condition: what the statements say. -/
import Derived.Test.YtgmfhngcehkibaaGreatPkZ1
import Derived.BigRegion
set_option maxRecDepth 100000
set_option maxHeartbeats 6400000
namespace Go.Proofs.YtgmfhngcehkibaaGreat
open Go.RowKit Go.Hav Go.Shelf Go.Sq
attribute [local go_sem] Oper.semAt_some
noncomputable def trK (k : Nat) : Code := dropSeq k (Tryz.f6.body.getD .skip)
def LawTrueU (w : World) (e : Ending) (w' : World) : Prop := e = .returned (.bool true) ∧ Below w.heap.size w w'
def TG (k : Nat) (w0 : World) (v1 v2 v3 v7 v8 v11 v15 v16 v25 v26 v27 v28 v29 v30 v31 v32 v38 v39 v40 : Value) (K : World) : Prop := ∀ (s0 s4 s5 s6 s9 s10 s12 s13 s14 s17 s18 s19 s20 s21 s22 s23 s24 s33 s34 s35 s36 s37 s41 s42 s43 s44 s45 s46 s47 s48 s49 s50 s51 s52 s53 s54 s55 s56 s57 s58 s59 s60 s61 s62 s63 s64 s65 s66 s67 s68 s69 s70 s71 s72 s73 s74 s75 s76 s77 s78 s79 s80 s81 s82 s83 s84 s85 s86 s87 s88 s89 s90 s91 s92 s93 s94 s95 s96 s97 s98 s99 s100 s101 s102 s103 s104 s105 s106 s107 s108 s109 s110 s111 s112 s113 s114 s115 s116 s117 s118 s119 s120 s121 s122 s123 s124 s125 s126 s127 s128 s129 s130 s131 s132 s133 s134 s135 s136 s137 s138 s139 s140 s141 s142 s143 s144 s145 s146 s147 s148 s149 s150 s151 s152 s153 s154 s155 s156 s157 s158 s159 s160 s161 s162 s163 s164 s165 s166 s167 s168 s169 s170 s171 s172 s173 s174 s175 s176 s177 s178 s179 s180 s181 s182 s183 s184 s185 s186 s187 s188 s189 s190 s191 s192 s193 s194 s195 s196 s197 s198 s199 s200 s201 s202 s203 s204 s205 s206 s207 s208 s209 s210 s211 s212 s213 s214 s215 s216 s217 s218 s219 s220 s221 s222 s223 s224 s225 s226 s227 s228 s229 s230 s231 s232 s233 s234 s235 s236 s237 s238 s239 s240 s241 s242 s243 s244 s245 s246 s247 s248 s249 s250 s251 s252 s253 s254 s255 s256 s257 s258 s259 s260 s261 s262 s263 s264 s265 s266 s267 s268 s269 s270 s271 s272 s273 s274 s275 s276 s277 s278 s279 s280 s281 s282 s283 s284 s285 s286 s287 s288 s289 s290 s291 s292 s293 s294 s295 s296 s297 s298 s299 s300 s301 s302 s303 s304 s305 s306 s307 s308 s309 s310 s311 s312 s313 s314 s315 s316 s317 s318 s319 s320 s321 s322 s323 s324 s325 s326 s327 s328 s329 s330 s331 s332 s333 s334 s335 s336 s337 s338 s339 s340 s341 s342 s343 s344 s345 s346 s347 s348 s349 s350 s351 s352 s353 s354 s355 s356 s357 s358 s359 s360 s361 s362 s363 s364 s365 s366 s367 s368 s369 s370 s371 s372 s373 s374 s375 s376 s377 s378 s379 s380 s381 s382 s383 s384 s385 s386 s387 s388 s389 s390 s391 s392 s393 s394 s395 s396 s397 s398 s399 s400 s401 s402 s403 s404 s405 s406 s407 s408 s409 s410 s411 : Value), Code.wp Tryz.prog (trK k) (bodyPost Tryz.prog Tryz.f6 (LawTrueU w0)) ⟨(s0::v1::v2::v3::s4::s5::s6::v7::v8::s9::s10::v11::s12::s13::s14::v15::v16::s17::s18::s19::s20::s21::s22::s23::s24::v25::v26::v27::v28::v29::v30::v31::v32::s33::s34::s35::s36::s37::v38::v39::v40::s41::s42::s43::s44::s45::s46::s47::s48::s49::s50::s51::s52::s53::s54::s55::s56::s57::s58::s59::s60::s61::s62::s63::s64::s65::s66::s67::s68::s69::s70::s71::s72::s73::s74::s75::s76::s77::s78::s79::s80::s81::s82::s83::s84::s85::s86::s87::s88::s89::s90::s91::s92::s93::s94::s95::s96::s97::s98::s99::s100::s101::s102::s103::s104::s105::s106::s107::s108::s109::s110::s111::s112::s113::s114::s115::s116::s117::s118::s119::s120::s121::s122::s123::s124::s125::s126::s127::s128::s129::s130::s131::s132::s133::s134::s135::s136::s137::s138::s139::s140::s141::s142::s143::s144::s145::s146::s147::s148::s149::s150::s151::s152::s153::s154::s155::s156::s157::s158::s159::s160::s161::s162::s163::s164::s165::s166::s167::s168::s169::s170::s171::s172::s173::s174::s175::s176::s177::s178::s179::s180::s181::s182::s183::s184::s185::s186::s187::s188::s189::s190::s191::s192::s193::s194::s195::s196::s197::s198::s199::s200::s201::s202::s203::s204::s205::s206::s207::s208::s209::s210::s211::s212::s213::s214::s215::s216::s217::s218::s219::s220::s221::s222::s223::s224::s225::s226::s227::s228::s229::s230::s231::s232::s233::s234::s235::s236::s237::s238::s239::s240::s241::s242::s243::s244::s245::s246::s247::s248::s249::s250::s251::s252::s253::s254::s255::s256::s257::s258::s259::s260::s261::s262::s263::s264::s265::s266::s267::s268::s269::s270::s271::s272::s273::s274::s275::s276::s277::s278::s279::s280::s281::s282::s283::s284::s285::s286::s287::s288::s289::s290::s291::s292::s293::s294::s295::s296::s297::s298::s299::s300::s301::s302::s303::s304::s305::s306::s307::s308::s309::s310::s311::s312::s313::s314::s315::s316::s317::s318::s319::s320::s321::s322::s323::s324::s325::s326::s327::s328::s329::s330::s331::s332::s333::s334::s335::s336::s337::s338::s339::s340::s341::s342::s343::s344::s345::s346::s347::s348::s349::s350::s351::s352::s353::s354::s355::s356::s357::s358::s359::s360::s361::s362::s363::s364::s365::s366::s367::s368::s369::s370::s371::s372::s373::s374::s375::s376::s377::s378::s379::s380::s381::s382::s383::s384::s385::s386::s387::s388::s389::s390::s391::s392::s393::s394::s395::s396::s397::s398::s399::s400::s401::s402::s403::s404::s405::s406::s407::s408::s409::s410::s411::[]).toArray, []⟩ K
theorem TG.go {k : Nat} {w0 K : World} {v1 v2 v3 v7 v8 v11 v15 v16 v25 v26 v27 v28 v29 v30 v31 v32 v38 v39 v40 : Value} (h : TG k w0 v1 v2 v3 v7 v8 v11 v15 v16 v25 v26 v27 v28 v29 v30 v31 v32 v38 v39 v40 K) {s0 s4 s5 s6 s9 s10 s12 s13 s14 s17 s18 s19 s20 s21 s22 s23 s24 s33 s34 s35 s36 s37 s41 s42 s43 s44 s45 s46 s47 s48 s49 s50 s51 s52 s53 s54 s55 s56 s57 s58 s59 s60 s61 s62 s63 s64 s65 s66 s67 s68 s69 s70 s71 s72 s73 s74 s75 s76 s77 s78 s79 s80 s81 s82 s83 s84 s85 s86 s87 s88 s89 s90 s91 s92 s93 s94 s95 s96 s97 s98 s99 s100 s101 s102 s103 s104 s105 s106 s107 s108 s109 s110 s111 s112 s113 s114 s115 s116 s117 s118 s119 s120 s121 s122 s123 s124 s125 s126 s127 s128 s129 s130 s131 s132 s133 s134 s135 s136 s137 s138 s139 s140 s141 s142 s143 s144 s145 s146 s147 s148 s149 s150 s151 s152 s153 s154 s155 s156 s157 s158 s159 s160 s161 s162 s163 s164 s165 s166 s167 s168 s169 s170 s171 s172 s173 s174 s175 s176 s177 s178 s179 s180 s181 s182 s183 s184 s185 s186 s187 s188 s189 s190 s191 s192 s193 s194 s195 s196 s197 s198 s199 s200 s201 s202 s203 s204 s205 s206 s207 s208 s209 s210 s211 s212 s213 s214 s215 s216 s217 s218 s219 s220 s221 s222 s223 s224 s225 s226 s227 s228 s229 s230 s231 s232 s233 s234 s235 s236 s237 s238 s239 s240 s241 s242 s243 s244 s245 s246 s247 s248 s249 s250 s251 s252 s253 s254 s255 s256 s257 s258 s259 s260 s261 s262 s263 s264 s265 s266 s267 s268 s269 s270 s271 s272 s273 s274 s275 s276 s277 s278 s279 s280 s281 s282 s283 s284 s285 s286 s287 s288 s289 s290 s291 s292 s293 s294 s295 s296 s297 s298 s299 s300 s301 s302 s303 s304 s305 s306 s307 s308 s309 s310 s311 s312 s313 s314 s315 s316 s317 s318 s319 s320 s321 s322 s323 s324 s325 s326 s327 s328 s329 s330 s331 s332 s333 s334 s335 s336 s337 s338 s339 s340 s341 s342 s343 s344 s345 s346 s347 s348 s349 s350 s351 s352 s353 s354 s355 s356 s357 s358 s359 s360 s361 s362 s363 s364 s365 s366 s367 s368 s369 s370 s371 s372 s373 s374 s375 s376 s377 s378 s379 s380 s381 s382 s383 s384 s385 s386 s387 s388 s389 s390 s391 s392 s393 s394 s395 s396 s397 s398 s399 s400 s401 s402 s403 s404 s405 s406 s407 s408 s409 s410 s411 : Value} : Code.wp Tryz.prog (trK k) (bodyPost Tryz.prog Tryz.f6 (LawTrueU w0)) ⟨(s0::v1::v2::v3::s4::s5::s6::v7::v8::s9::s10::v11::s12::s13::s14::v15::v16::s17::s18::s19::s20::s21::s22::s23::s24::v25::v26::v27::v28::v29::v30::v31::v32::s33::s34::s35::s36::s37::v38::v39::v40::s41::s42::s43::s44::s45::s46::s47::s48::s49::s50::s51::s52::s53::s54::s55::s56::s57::s58::s59::s60::s61::s62::s63::s64::s65::s66::s67::s68::s69::s70::s71::s72::s73::s74::s75::s76::s77::s78::s79::s80::s81::s82::s83::s84::s85::s86::s87::s88::s89::s90::s91::s92::s93::s94::s95::s96::s97::s98::s99::s100::s101::s102::s103::s104::s105::s106::s107::s108::s109::s110::s111::s112::s113::s114::s115::s116::s117::s118::s119::s120::s121::s122::s123::s124::s125::s126::s127::s128::s129::s130::s131::s132::s133::s134::s135::s136::s137::s138::s139::s140::s141::s142::s143::s144::s145::s146::s147::s148::s149::s150::s151::s152::s153::s154::s155::s156::s157::s158::s159::s160::s161::s162::s163::s164::s165::s166::s167::s168::s169::s170::s171::s172::s173::s174::s175::s176::s177::s178::s179::s180::s181::s182::s183::s184::s185::s186::s187::s188::s189::s190::s191::s192::s193::s194::s195::s196::s197::s198::s199::s200::s201::s202::s203::s204::s205::s206::s207::s208::s209::s210::s211::s212::s213::s214::s215::s216::s217::s218::s219::s220::s221::s222::s223::s224::s225::s226::s227::s228::s229::s230::s231::s232::s233::s234::s235::s236::s237::s238::s239::s240::s241::s242::s243::s244::s245::s246::s247::s248::s249::s250::s251::s252::s253::s254::s255::s256::s257::s258::s259::s260::s261::s262::s263::s264::s265::s266::s267::s268::s269::s270::s271::s272::s273::s274::s275::s276::s277::s278::s279::s280::s281::s282::s283::s284::s285::s286::s287::s288::s289::s290::s291::s292::s293::s294::s295::s296::s297::s298::s299::s300::s301::s302::s303::s304::s305::s306::s307::s308::s309::s310::s311::s312::s313::s314::s315::s316::s317::s318::s319::s320::s321::s322::s323::s324::s325::s326::s327::s328::s329::s330::s331::s332::s333::s334::s335::s336::s337::s338::s339::s340::s341::s342::s343::s344::s345::s346::s347::s348::s349::s350::s351::s352::s353::s354::s355::s356::s357::s358::s359::s360::s361::s362::s363::s364::s365::s366::s367::s368::s369::s370::s371::s372::s373::s374::s375::s376::s377::s378::s379::s380::s381::s382::s383::s384::s385::s386::s387::s388::s389::s390::s391::s392::s393::s394::s395::s396::s397::s398::s399::s400::s401::s402::s403::s404::s405::s406::s407::s408::s409::s410::s411::[]).toArray, []⟩ K := h _ _ _ _ _ _ _ _ _ _ _ _ _ _ _ _ _ _ _ _ _ _ _ _ _ _ _ _ _ _ _ _ _ _ _ _ _ _ _ _ _ _ _ _ _ _ _ _ _ _ _ _ _ _ _ _ _ _ _ _ _ _ _ _ _ _ _ _ _ _ _ _ _ _ _ _ _ _ _ _ _ _ _ _ _ _ _ _ _ _ _ _ _ _ _ _ _ _ _ _ _ _ _ _ _ _ _ _ _ _ _ _ _ _ _ _ _ _ _ _ _ _ _ _ _ _ _ _ _ _ _ _ _ _ _ _ _ _ _ _ _ _ _ _ _ _ _ _ _ _ _ _ _ _ _ _ _ _ _ _ _ _ _ _ _ _ _ _ _ _ _ _ _ _ _ _ _ _ _ _ _ _ _ _ _ _ _ _ _ _ _ _ _ _ _ _ _ _ _ _ _ _ _ _ _ _ _ _ _ _ _ _ _ _ _ _ _ _ _ _ _ _ _ _ _ _ _ _ _ _ _ _ _ _ _ _ _ _ _ _ _ _ _ _ _ _ _ _ _ _ _ _ _ _ _ _ _ _ _ _ _ _ _ _ _ _ _ _ _ _ _ _ _ _ _ _ _ _ _ _ _ _ _ _ _ _ _ _ _ _ _ _ _ _ _ _ _ _ _ _ _ _ _ _ _ _ _ _ _ _ _ _ _ _ _ _ _ _ _ _ _ _ _ _ _ _ _ _ _ _ _ _ _ _ _ _ _ _ _ _ _ _ _ _ _ _ _ _ _ _ _ _ _ _ _ _ _ _ _ _ _ _ _ _ _ _ _ _ _ _ _ _ _ _ _ _ _ _ _ _ _ _ _ _ _ _ _ _ _ _ _ _ _
def TR0 (k : Nat) (w0 : World) (v25 v28 v31 v32 v40 : Value) (K : World) : Prop := ∀ (v1 v2 v3 v7 v8 v11 v15 v16 v26 v27 v29 v30 v38 v39 : Value), TG k w0 v1 v2 v3 v7 v8 v11 v15 v16 v25 v26 v27 v28 v29 v30 v31 v32 v38 v39 v40 K
theorem TR0.go {k : Nat} {w0 K : World} {v1 v2 v3 v7 v8 v11 v15 v16 v25 v26 v27 v28 v29 v30 v31 v32 v38 v39 v40 : Value} (h : TR0 k w0 v25 v28 v31 v32 v40 K) : TG k w0 v1 v2 v3 v7 v8 v11 v15 v16 v25 v26 v27 v28 v29 v30 v31 v32 v38 v39 v40 K := h _ _ _ _ _ _ _ _ _ _ _ _ _ _
def TR1 (k : Nat) (w0 : World) (v3 v15 v25 v28 v31 v32 v38 v39 v40 : Value) (K : World) : Prop := ∀ (v1 v2 v7 v8 v11 v16 v26 v27 v29 v30 : Value), TG k w0 v1 v2 v3 v7 v8 v11 v15 v16 v25 v26 v27 v28 v29 v30 v31 v32 v38 v39 v40 K
theorem TR1.go {k : Nat} {w0 K : World} {v1 v2 v3 v7 v8 v11 v15 v16 v25 v26 v27 v28 v29 v30 v31 v32 v38 v39 v40 : Value} (h : TR1 k w0 v3 v15 v25 v28 v31 v32 v38 v39 v40 K) : TG k w0 v1 v2 v3 v7 v8 v11 v15 v16 v25 v26 v27 v28 v29 v30 v31 v32 v38 v39 v40 K := h _ _ _ _ _ _ _ _ _ _
def TR2 (k : Nat) (w0 : World) (v2 v3 v11 v15 v25 v28 v31 v32 : Value) (K : World) : Prop := ∀ (v1 v7 v8 v16 v26 v27 v29 v30 v38 v39 v40 : Value), TG k w0 v1 v2 v3 v7 v8 v11 v15 v16 v25 v26 v27 v28 v29 v30 v31 v32 v38 v39 v40 K
theorem TR2.go {k : Nat} {w0 K : World} {v1 v2 v3 v7 v8 v11 v15 v16 v25 v26 v27 v28 v29 v30 v31 v32 v38 v39 v40 : Value} (h : TR2 k w0 v2 v3 v11 v15 v25 v28 v31 v32 K) : TG k w0 v1 v2 v3 v7 v8 v11 v15 v16 v25 v26 v27 v28 v29 v30 v31 v32 v38 v39 v40 K := h _ _ _ _ _ _ _ _ _ _ _
def TR3 (k : Nat) (w0 : World) (v2 v3 v11 v15 v16 v25 v26 v28 v29 : Value) (K : World) : Prop := ∀ (v1 v7 v8 v27 v30 v31 v32 v38 v39 v40 : Value), TG k w0 v1 v2 v3 v7 v8 v11 v15 v16 v25 v26 v27 v28 v29 v30 v31 v32 v38 v39 v40 K
theorem TR3.go {k : Nat} {w0 K : World} {v1 v2 v3 v7 v8 v11 v15 v16 v25 v26 v27 v28 v29 v30 v31 v32 v38 v39 v40 : Value} (h : TR3 k w0 v2 v3 v11 v15 v16 v25 v26 v28 v29 K) : TG k w0 v1 v2 v3 v7 v8 v11 v15 v16 v25 v26 v27 v28 v29 v30 v31 v32 v38 v39 v40 K := h _ _ _ _ _ _ _ _ _ _
def TR4 (k : Nat) (w0 : World) (v2 v3 v11 v15 v16 : Value) (K : World) : Prop := ∀ (v1 v7 v8 v25 v26 v27 v28 v29 v30 v31 v32 v38 v39 v40 : Value), TG k w0 v1 v2 v3 v7 v8 v11 v15 v16 v25 v26 v27 v28 v29 v30 v31 v32 v38 v39 v40 K
theorem TR4.go {k : Nat} {w0 K : World} {v1 v2 v3 v7 v8 v11 v15 v16 v25 v26 v27 v28 v29 v30 v31 v32 v38 v39 v40 : Value} (h : TR4 k w0 v2 v3 v11 v15 v16 K) : TG k w0 v1 v2 v3 v7 v8 v11 v15 v16 v25 v26 v27 v28 v29 v30 v31 v32 v38 v39 v40 K := h _ _ _ _ _ _ _ _ _ _ _ _ _ _
def TR5 (k : Nat) (w0 : World) (v2 v3 v7 v8 v11 : Value) (K : World) : Prop := ∀ (v1 v15 v16 v25 v26 v27 v28 v29 v30 v31 v32 v38 v39 v40 : Value), TG k w0 v1 v2 v3 v7 v8 v11 v15 v16 v25 v26 v27 v28 v29 v30 v31 v32 v38 v39 v40 K
theorem TR5.go {k : Nat} {w0 K : World} {v1 v2 v3 v7 v8 v11 v15 v16 v25 v26 v27 v28 v29 v30 v31 v32 v38 v39 v40 : Value} (h : TR5 k w0 v2 v3 v7 v8 v11 K) : TG k w0 v1 v2 v3 v7 v8 v11 v15 v16 v25 v26 v27 v28 v29 v30 v31 v32 v38 v39 v40 K := h _ _ _ _ _ _ _ _ _ _ _ _ _ _
def TR6 (k : Nat) (w0 : World) (v2 v3 v7 v8 : Value) (K : World) : Prop := ∀ (v1 v11 v15 v16 v25 v26 v27 v28 v29 v30 v31 v32 v38 v39 v40 : Value), TG k w0 v1 v2 v3 v7 v8 v11 v15 v16 v25 v26 v27 v28 v29 v30 v31 v32 v38 v39 v40 K
theorem TR6.go {k : Nat} {w0 K : World} {v1 v2 v3 v7 v8 v11 v15 v16 v25 v26 v27 v28 v29 v30 v31 v32 v38 v39 v40 : Value} (h : TR6 k w0 v2 v3 v7 v8 K) : TG k w0 v1 v2 v3 v7 v8 v11 v15 v16 v25 v26 v27 v28 v29 v30 v31 v32 v38 v39 v40 K := h _ _ _ _ _ _ _ _ _ _ _ _ _ _ _
def TR7 (k : Nat) (w0 : World) (v2 v3 v7 : Value) (K : World) : Prop := ∀ (v1 v8 v11 v15 v16 v25 v26 v27 v28 v29 v30 v31 v32 v38 v39 v40 : Value), TG k w0 v1 v2 v3 v7 v8 v11 v15 v16 v25 v26 v27 v28 v29 v30 v31 v32 v38 v39 v40 K
theorem TR7.go {k : Nat} {w0 K : World} {v1 v2 v3 v7 v8 v11 v15 v16 v25 v26 v27 v28 v29 v30 v31 v32 v38 v39 v40 : Value} (h : TR7 k w0 v2 v3 v7 K) : TG k w0 v1 v2 v3 v7 v8 v11 v15 v16 v25 v26 v27 v28 v29 v30 v31 v32 v38 v39 v40 K := h _ _ _ _ _ _ _ _ _ _ _ _ _ _ _ _
def boV (b : Bool) : List Value := [.bool b]
theorem boV_len (b : Bool) : (boV b).length = 1 := rfl
structure TrX (w0 w : World) (b3 b11 fl fc ll lc wn wc tn tc cx bn : Nat) (fa la wa ta lx ba A15 A16 : Option Addr) (c x : ICart) (t : Tr) (lk : List ILk) (D : List Int) (TI : List Bool) (by_ : List Nat) : Prop where
 bw : Below w0.heap.size w0 w
 hP : CtIn w0 w0.heap.size fa fl la ll wa wn ta tn c
 box : Blk w b3 31 #[.int .i64 c.riv.depth.lo, .int .i64 c.riv.depth.hi, .int .i64 c.riv.fall.lo, .int .i64 c.riv.fall.hi, .int .i64 c.riv.days, .slice fa fl fc, .slice la ll lc, .int .i64 c.draws, .slice wa wn wc, .slice ta tn tc]
 ok : okC c = true
 xe : cartL c lk = x
 tr : TrueIn c.riv t lk
 hx : CBox w b11 fa fl fc lx ll cx wa wn wc ta tn tc x
 rd : RdG inI 1 w w.heap.size A15 D
 rt : RdG boV 1 w w.heap.size A16 TI
 days : ∀ (m : Nat) (g : IWag), c.wg[m]? = some g → ∃ d : Nat, D[m]? = some (d : Int) ∧ g.leaves + g.takes.lo ≤ d ∧ (d : Int) ≤ g.leaves + g.takes.hi ∧ TI[m]? = some (isIn c t d)
 hbn : by_.length = bn
 hbm : bn ≤ 9223372036854775807
 h255 : ∀ x ∈ by_, x ≤ 255
 hby : RdG byF 1 w0 w0.heap.size ba by_
section
variable {w0 K : World} {b3 b11 b39 g1 g2 fl fc ll lc wn wc tn tc cx bn bc c15 c16 c38 we : Nat} {fa la wa ta lx ba A15 A16 A38 : Option Addr} {c x : ICart} {t : Tr} {lk : List ILk} {D : List Int} {TI : List Bool} {by_ : List Nat} {n1 n2 SM s1 s2 : Int} {P1 P2 L : List Int}
theorem TrX.below {w w' : World} (h : TrX w0 w b3 b11 fl fc ll lc wn wc tn tc cx bn fa la wa ta lx ba A15 A16 c x t lk D TI by_) (hb : Below w.heap.size w w') : TrX w0 w' b3 b11 fl fc ll lc wn wc tn tc cx bn fa la wa ta lx ba A15 A16 c x t lk D TI by_ :=
 { h with bw := h.bw.trans (hb.mono h.bw.size), box := h.box.below hb h.box.lt, hx := h.hx.below hb, rd := h.rd.grow hb, rt := h.rt.grow hb }
theorem TrX.inn {w : World} (h : TrX w0 w b3 b11 fl fc ll lc wn wc tn tc cx bn fa la wa ta lx ba A15 A16 c x t lk D TI by_) : CtIn w w.heap.size fa fl la ll wa wn ta tn c := h.hP.grow h.bw
theorem TrX.t5 {w : World} (h : TrX w0 w b3 b11 fl fc ll lc wn wc tn tc cx bn fa la wa ta lx ba A15 A16 c x t lk D TI by_) : tn ≤ 5 := by have := (okC_parts h.ok).2.2.2.1; rw [h.hP.etn] at this; exact this
theorem TrX.w3 {w : World} (h : TrX w0 w b3 b11 fl fc ll lc wn wc tn tc cx bn fa la wa ta lx ba A15 A16 c x t lk D TI by_) : wn ≤ 3 := by have := (okC_parts h.ok).2.2.1; rw [h.hP.ewn] at this; exact this
theorem TrX.hv {w : World} (h : TrX w0 w b3 b11 fl fc ll lc wn wc tn tc cx bn fa la wa ta lx ba A15 A16 c x t lk D TI by_) : openE x true = 0 := by rw [← h.xe]; exact cartL_open h.ok h.tr
theorem TrX.parts {w : World} (h : TrX w0 w b3 b11 fl fc ll lc wn wc tn tc cx bn fa la wa ta lx ba A15 A16 c x t lk D TI by_) : x.wg = c.wg ∧ x.lt = c.lt ∧ ∀ L, planB x L = planB c L := by rw [← h.xe]; exact ⟨rfl, rfl, fun _ => rfl⟩
theorem TrX.dd {w : World} (h : TrX w0 w b3 b11 fl fc ll lc wn wc tn tc cx bn fa la wa ta lx ba A15 A16 c x t lk D TI by_) : ∀ (m : Nat) (g : IWag), c.wg[m]? = some g → ∃ d, D[m]? = some d ∧ g.leaves + g.takes.lo ≤ d ∧ d ≤ g.leaves + g.takes.hi := fun m g hg => by
 obtain ⟨d, h1, h2, h3, -⟩ := h.days m g hg; exact ⟨d, h1, h2, h3⟩
theorem tr19 (hb : Below w0.heap.size w0 K) (hs : n2 ≤ SM) (hwe : we = 0 ∨ we = 11) : TR0 19 w0 (.int .i64 n1) (.int .i64 n2) (.int .i64 n1) (.int .i64 SM) (.int .i64 (we : Nat)) K := by
 unfold TR0 TG
 intros
 have HB := Lib.hid hb; have hq : (n1 == n1) = true := by simp
 have hq2 : decide (n2 ≤ SM) = true := decide_eq_true hs; clear hb
 conv => arg 2; whnf
 rcases hwe with rfl | rfl
 ·go_wp2_with fail; refine (alive_any _).mono ?_
  rintro e wz ⟨rfl, hb⟩; have HB2 : Hid (Below w0.heap.size w0 wz) := HB.out.trans (hb.mono HB.out.size); clear hb; go_wp2; go_ret
  exact ⟨rfl, HB2.out⟩
 ·go_wp2_with fail; refine (alive_any _).mono ?_
  rintro e wz ⟨rfl, hb⟩; have HB2 : Hid (Below w0.heap.size w0 wz) := HB.out.trans (hb.mono HB.out.size); clear hb; go_wp2; go_ret
  exact ⟨rfl, HB2.out⟩
theorem tr18 (hX : TrX w0 K b3 b11 fl fc ll lc wn wc tn tc cx bn fa la wa ta lx ba A15 A16 c x t lk D TI by_) (hs : n2 ≤ SM) (hL : planB c L = true) (hp : PlIn K K.heap.size A38 tn L) (h39 : Blk K b39 23 #[.int .i64 s1, .int .i64 s2]) (hE : worthE x L = we) (hS : worthV x L = (s1, s2)) : TR1 18 w0 (.pointer (some ⟨b3, 0, none⟩)) (.slice A15 wn c15) (.int .i64 n1) (.int .i64 n2) (.int .i64 n1) (.int .i64 SM) (.slice A38 tn c38) (.pointer (some ⟨b39, 0, none⟩)) (.int .i64 (we : Nat)) K := by
 unfold TR1 TG
 intros
 have ht5 := hX.t5; have HX := Lib.hid hX; have HPB := Lib.hid hL; have HPL := Lib.hid hp; have HS := Lib.hid h39; have HET := Lib.hid hX.hP.etn; have HEW := Lib.hid hX.hP.ewn; have HPX : Hid (planB x L = true) := by rw [← hL]; exact hX.parts.2.2 L
 have HEND : Hid (∀ wz, Below K.heap.size K wz → we = 0 ∨ we = 11 → TR0 19 w0 (.int .i64 n1) (.int .i64 n2) (.int .i64 n1) (.int .i64 SM) (.int .i64 (we : Nat)) wz) := fun wz hb hwe => tr19 (hX.bw.trans (hb.mono hX.bw.size)) hs hwe
 by_cases hr : rightL x.tm x.wg x.lt L (roomP x.wg)
 case neg =>
  obtain ⟨e1, -⟩ := wrong_all hX.hv HPX.out hr; obtain rfl : we = 11 := by rw [← hE, e1]
  clear hX hs hL hp h39 hE hS e1 hr
  conv => arg 2; whnf
  conv => arg 2; arg 2; change trK 19
  go_wp2; exact (HEND.out K (Below.refl _ _) (by simp)).go.go
 obtain ⟨-, -, e3, e4⟩ := right_all hX.hv hr; obtain rfl : we = 0 := by rw [← hE, e3]
 rw [hS, hX.parts.1, hX.parts.2.1] at e4
 have HIN : Hid (s1 ≤ sumD c D L tn ∧ sumD c D L tn ≤ s2) := by
  have h := sumD_in hX.ok hL hX.dd c.lt.length (Nat.le_refl _); rw [(bring_best hL).1, (bring_best hL).2, HET.out] at h
  injection e4 with e5 e6
  rw [e5, e6]; exact ⟨h.1, h.2.1⟩
 have HSB := Lib.hid (sumD_in hX.ok hL hX.dd); have hL2 := (planB_parts hL).2; have HPO := Lib.hid hL2; clear hX hs hL hp h39 hE hS e3 e4 hr hL2
 conv => arg 2; whnf
 conv => arg 2; arg 2; change trK 19
 go_upto_region 59 with (fail)
 go_loopw [41, 363] (fun s i wr => ∃ j : Nat, j ≤ tn ∧ i = .int .i64 j ∧ s = .int .i64 (sumD c D L j) ∧ Hid (Below K.heap.size K wr)) (fun _ i _ => tn - (intOf i).toNat)
 case atStart => exact ⟨0, Nat.zero_le _, rfl, rfl, Below.refl _ _⟩
 case round =>
  obtain ⟨j, hj, rfl, rfl, HBR⟩ := hrel
  by_cases hlt : j < tn
  ·obtain ⟨l, hl⟩ : ∃ l, c.lt[j]? = some l := ⟨c.lt[j]'(by have := HET.out; omega), by simp⟩
   obtain ⟨p, hp⟩ : ∃ p, L[j]? = some p := ⟨L[j]'(by have := HPL.out.len; omega), by simp⟩
   have HXR := Lib.hid (HX.out.below HBR.out); obtain ⟨ab, ao, hA, hab, A0⟩ := rd_in (HPL.out.grow HBR.out).row j p hp; subst hA; have hjt : (j : Int) < tn := by omega
   have hpo := HPO.out p (List.mem_of_getElem? hp)
   by_cases hp0 : p < 0
   ·have HN := Lib.hid (sumD_neg (D := D) hl hp hp0); have hq : decide (0 ≤ p) = false := decide_eq_false (by omega)
    have hq2 : ¬ (0 ≤ p) := by omega
    clear hl hp hp0 hpo; go_wp2; go_roundw
    case rel => exact ⟨j + 1, by omega, by go_num, by rw [HN.out], HBR⟩
    case measure => simp [intOf]; omega
   ·obtain ⟨m, rfl⟩ : ∃ m : Nat, p = m := ⟨p.toNat, by omega⟩
    have hmw : m < wn := by have := HEW.out; omega
    have hmi : (m : Int) < wn := by omega
    obtain ⟨g, hg⟩ : ∃ g, c.wg[m]? = some g := ⟨c.wg[m]'(by have := HEW.out; omega), by simp⟩
    obtain ⟨d, hd, hd1, hd2⟩ := HXR.out.dd m g hg; obtain ⟨db, dO, hdA, hdb, D0⟩ := rd_in HXR.out.rd m d hd; have HN := Lib.hid (sumD_on (D := D) hl hp hd); have hsb := HSB.out j (by have := HET.out; omega)
    have hlb := (okC_parts HXR.out.ok).2.2.2.2.2 l (List.mem_of_getElem? hl); have HLB := Lib.hid hlb; have hbb := brings_bd hlb d; obtain ⟨bl, ol, hta, hbl, L0, L1, L2, L3, L4⟩ := rd_lt HXR.out.inn.hlt j l hl; obtain ⟨l0, l1, l2, l3, l4⟩ := l; simp only at L0 L1 L2 L3 L4 HN; obtain ⟨S, hS⟩ : ∃ S, sumD c D L j = S := ⟨_, rfl⟩; obtain ⟨B, hB⟩ : ∃ B, bringsP ⟨l0, l1, l2, l3, l4⟩ d = B := ⟨_, rfl⟩; have HBV := Lib.hid hB; rw [hS, hB] at HN; rw [hS] at hsb ⊢; rw [hB] at hbb; have hw : IntKind.i64.wrap (S + B) = S + B := IntWalk.i64_in _ (by omega)
    have hblw : bl < wr.heap.size := hbl; have hdbw : db < wr.heap.size := hdb; have hx := HXR.out.box; obtain ⟨q0, q1, q2, q3, q4, q5, q6, q7, q8, q9, ql⟩ := cx31 hx; rw [hta] at q9; subst hdA; have hq : decide ((0 : Int) ≤ (m : Int)) = true := decide_eq_true (by omega)
    have hq2 : (0 : Int) ≤ (m : Int) := by omega
    clear hx hl hp hp0 hpo hg hd hd1 hd2 hdb hsb hlb hbb hta hbl hS hB; go_upto_region 62 with (fail)
    refine wp_region_havoc [(0,false),(1,false),(2,false),(3,false),(4,false),(5,false),(6,false),(7,false),(8,false),(9,false),(10,false),(11,false),(12,false)] [] (fun _ _ => False) (by kernel_rfl) (by kernel_rfl) (fun _ _ _ _ h => h.elim) ?_
    (apply hav_same (by exact ho rfl) (by kernel_rfl); (focus (intro wv hgv _; have hcv := cvB hgv; (try go_simp); try rfl; done)); simp only [Act.put, List.setIfInBounds_toArray, List.set_cons_succ, List.set_cons_zero])
    iterate 9 (apply hav_same (by exact ho rfl) (by kernel_rfl); (focus (intro wv hgv _; have hcv := cvB hgv; (try go_simp); try rfl; done)); simp only [Act.put, List.setIfInBounds_toArray, List.set_cons_succ, List.set_cons_zero])
    (apply hav_call (by exact ho rfl) (by kernel_rfl); (focus (intro wv; go_simp; try exact ⟨rfl, rfl⟩; done)); (focus (intro wv hgv _; have h9 := lbrings_any ⟨l0, l1, l2, l3, l4⟩ d HLB.out wv; rw [HBV.out] at h9; exact h9; done)); simp only [Act.put, List.setIfInBounds_toArray, List.set_cons_succ, List.set_cons_zero])
    iterate 2 (apply hav_same (by exact ho rfl) (by kernel_rfl); (focus (intro wv hgv _; have hcv := cvB hgv; (try go_simp); try rfl; done)); simp only [Act.put, List.setIfInBounds_toArray, List.set_cons_succ, List.set_cons_zero])
    refine hav_end (fun wd hgz _ => ?_)
    simp only [List.filterMap]; have HB2 : Hid (Below K.heap.size K wd) := HBR.out.trans (Below.mono hgz HBR.out.size); clear hgz L0 L1 L2 L3 L4 D0 hblw hdbw; clear q0 q1 q2 q3 q4 q5 q6 q7 q8 q9 ql; go_wp2; go_roundw
    case rel => exact ⟨j + 1, by omega, by go_num, by rw [HN.out], HB2⟩
    case measure => simp [intOf]; omega
  ·obtain rfl : tn = j := by omega
   obtain ⟨S, hS⟩ : ∃ S, sumD c D L tn = S := ⟨_, rfl⟩; rw [hS] at HIN ⊢; have i1 : decide (S < s1) = false := decide_eq_false (by have := HIN.out.1; omega)
   have i2 : decide (s2 < S) = false := decide_eq_false (by have := HIN.out.2; omega)
   have hk := HS.out.below HBR.out HS.out.lt; have z0 := hk.cell 0; have z1 := hk.cell 1; have zl := hk.lt; simp at z0 z1; clear hS hk; go_wp2; exact (HEND.out wr HBR.out (by simp)).go.go
theorem tr16 (hX : TrX w0 K b3 b11 fl fc ll lc wn wc tn tc cx bn fa la wa ta lx ba A15 A16 c x t lk D TI by_) (hs : n2 ≤ SM) : TR2 16 w0 (.slice ba bn bc) (.pointer (some ⟨b3, 0, none⟩)) (.pointer (some ⟨b11, 0, none⟩)) (.slice A15 wn c15) (.int .i64 n1) (.int .i64 n2) (.int .i64 n1) (.int .i64 SM) K := by
 unfold TR2 TG
 intros
 have HX := Lib.hid hX; obtain ⟨L, hL⟩ : ∃ L, madeL c by_ = L := ⟨_, rfl⟩; have HPB : Hid (planB c L = true) := by rw [← hL]; exact madeL_plan c by_
 obtain ⟨we, hwe⟩ : ∃ we, worthE x L = we := ⟨_, rfl⟩; obtain ⟨s1, hs1⟩ : ∃ s, (worthV x L).1 = s := ⟨_, rfl⟩; obtain ⟨s2, hs2⟩ : ∃ s, (worthV x L).2 = s := ⟨_, rfl⟩; have HWV : Hid (worthE x L = we ∧ worthV x L = (s1, s2)) := ⟨hwe, by rw [← hs1, ← hs2]⟩
 have HL := Lib.hid hL
 have HEND : Hid (∀ (wz : World) (A38 : Option Addr) (c38 b39 : Nat), Below K.heap.size K wz → PlIn wz wz.heap.size A38 tn L → Blk wz b39 23 #[.int .i64 s1, .int .i64 s2] → TR1 18 w0 (.pointer (some ⟨b3, 0, none⟩)) (.slice A15 wn c15) (.int .i64 n1) (.int .i64 n2) (.int .i64 n1) (.int .i64 SM) (.slice A38 tn c38) (.pointer (some ⟨b39, 0, none⟩)) (.int .i64 (we : Nat)) wz) := fun wz A38 c38 b39 hb hp h39 => tr18 (hX.below hb) hs HPB.out hp h39 HWV.out.1 HWV.out.2
 clear hX hs hL hwe hs1 hs2
 conv => arg 2; whnf
 conv => arg 2; arg 2; arg 2; change trK 18
 have hx := HX.out.box; obtain ⟨q0, q1, q2, q3, q4, q5, q6, q7, q8, q9, ql⟩ := cx31 hx; clear hx; go_wp2_with fail; refine (made_any (fa := fa) (fl := fl) (fc := fc) (la := la) (ll := ll) (lc := lc) (wa := wa) (wn := wn) (wc := wc) (ta := ta) (tn := tn) (tc := tc) (ba := ba) (bn := bn) (bc := bc) (by_ := by_) HX.out.ok HX.out.hbn HX.out.hbm HX.out.h255 K HX.out.inn (HX.out.hby.grow HX.out.bw)).mono ?_; rw [HL.out]; rintro e v1 ⟨A38, c38, rfl, hpl, hb⟩; have HB1 : Hid (Below K.heap.size K v1) := hb; have HX1 := Lib.hid (HX.out.below hb); have HPL := Lib.hid hpl; clear hb hpl; clear q0 q1 q2 q3 q4 q5 q6 q7 q8 q9 ql; have hx := HX1.out.hx.box; obtain ⟨q0, q1, q2, q3, q4, q5, q6, q7, q8, q9, ql⟩ := cx31 hx; clear hx; go_wp2_with fail; refine (PWorth_any (fa := fa) (fl := fl) (fc := fc) (la := lx) (ll := ll) (lc := cx) (wa := wa) (wn := wn) (wc := wc) (ta := ta) (tn := tn) (tc := tc) (pa := A38) (pn := tn) (pc := c38) (ps := L) (w := v1) (c := x) HX1.out.hx.inn HPL.out).mono ?_; rw [HWV.out.1, HWV.out.2]; rintro e v2 ⟨rfl, hb⟩; unfold spanV; obtain ⟨W3, hW3⟩ : ∃ W, W = v2.alloc (.cells #[.int .i64 s1, .int .i64 s2] 23) := ⟨_, rfl⟩; obtain ⟨b39, hb39⟩ : ∃ q, q = v2.heap.size := ⟨_, rfl⟩; have hb3 : Below v1.heap.size v1 W3 := by rw [hW3]; exact hb.alloc hb.size _
 have HS : Hid (Blk W3 b39 23 #[.int .i64 s1, .int .i64 s2]) := by rw [hW3, hb39]; exact Blk.new v2 23 _
 have HPL3 := Lib.hid (HPL.out.grow hb3); have HB3 : Hid (Below K.heap.size K W3) := HB1.out.trans (hb3.mono HB1.out.size); clear hb hb3; clear q0 q1 q2 q3 q4 q5 q6 q7 q8 q9 ql; go_wp2; rw [← hW3, ← hb39]; exact (HEND.out W3 A38 c38 b39 HB3.out HPL3.out HS.out).go.go
def sA (c : ICart) (n1 : Int) (L : List Int) (k j : Nat) : Int := if k = 0 then sentN c L j else n1
def sB (c : ICart) (D : List Int) (L : List Int) (k j : Nat) : Int := if k = 0 then 0 else sumD c D L j
theorem tr14 (hX : TrX w0 K b3 b11 fl fc ll lc wn wc tn tc cx bn fa la wa ta lx ba A15 A16 c x t lk D TI by_) (hg1 : Blk K g1 3 (intsA P1)) (hg2 : Blk K g2 3 (intsA P2)) (r1 : rightL x.tm x.wg x.lt P1 (roomP x.wg)) (r2 : rightL x.tm x.wg x.lt P2 (roomP x.wg)) (v1 : valL x.wg ofMost x.lt P1 = n1) (v2 : valL x.wg ofBest x.lt P2 = n2) : TR3 14 w0 (.slice ba bn bc) (.pointer (some ⟨b3, 0, none⟩)) (.pointer (some ⟨b11, 0, none⟩)) (.slice A15 wn c15) (.slice A16 wn c16) (.int .i64 n1) (.slice (some ⟨g1, 0, none⟩) tn tn) (.int .i64 n2) (.slice (some ⟨g2, 0, none⟩) tn tn) K := by
 unfold TR3 TG
 intros
 have ht5 := hX.t5; have hw3 := hX.w3; have HET := Lib.hid hX.hP.etn; have HEW := Lib.hid hX.hP.ewn; obtain ⟨px1, px2, px3⟩ := hX.parts; have hR1 := right_plan r1; have hR2 := right_plan r2; have hQ1 : planB c P1 = true := by rw [← px3]; exact hR1
 have hQ2 : planB c P2 = true := by rw [← px3]; exact hR2
 obtain ⟨SM, hSM⟩ : ∃ S, sumD c D P2 tn = S := ⟨_, rfl⟩; have HSM : Hid (sumD c D P2 tn = SM) := hSM
 have HSN : Hid (sentN c P1 tn = n1) := by
  have h := sentN_all hQ1; rw [hX.hP.etn] at h; rw [px1, px2] at v1; exact h.trans v1
 have hle : n2 ≤ SM := by
  have h := (sumD_in hX.ok hQ2 hX.dd c.lt.length (Nat.le_refl _)).1; rw [(bring_best hQ2).1, hX.hP.etn, hSM] at h; rw [px1, px2] at v2; rw [← v2]; exact h
 have HEND : Hid (∀ wz, Below K.heap.size K wz → TR2 16 w0 (.slice ba bn bc) (.pointer (some ⟨b3, 0, none⟩)) (.pointer (some ⟨b11, 0, none⟩)) (.slice A15 wn c15) (.int .i64 n1) (.int .i64 n2) (.int .i64 n1) (.int .i64 SM) wz) := fun wz hb => tr16 (hX.below hb) hle
 have HTWO : Hid (∀ k, k < 2 → ∃ (L : List Int) (g : Nat), (∀ wz, Below K.heap.size K wz → Blk wz g 3 (intsA L)) ∧ rightL x.tm x.wg x.lt L (roomP x.wg) ∧ planB c L = true ∧ L.length = tn ∧ (.slice (some ⟨g, 0, none⟩) tn tn : Value) = (if k = 0 then .slice (some ⟨g1, 0, none⟩) tn tn else .slice (some ⟨g2, 0, none⟩) tn tn) ∧ (k = 0 → L = P1) ∧ (k = 1 → L = P2)) := fun k hk => by
  match k, hk with
  | 0, _ => exact ⟨P1, g1, fun wz hb => hg1.below hb hg1.lt, r1, hQ1, by rw [(planB_parts hQ1).1, hX.hP.etn], rfl, fun _ => rfl, fun h => by cases h⟩
  | 1, _ => exact ⟨P2, g2, fun wz hb => hg2.below hb hg2.lt, r2, hQ2, by rw [(planB_parts hQ2).1, hX.hP.etn], rfl, fun h => (by cases h), fun _ => rfl⟩
 have HPX : Hid (x.wg = c.wg ∧ x.lt = c.lt) := ⟨px1, px2⟩; have HX := Lib.hid hX; clear hX hg1 hg2 r1 r2 v1 v2 px1 px2 px3 hR1 hR2 hQ1 hQ2 hSM hle; obtain ⟨W, hW⟩ : ∃ W, W = K.alloc (.cells #[.slice (some ⟨g1, 0, none⟩) tn tn, .slice (some ⟨g2, 0, none⟩) tn tn] 32) := ⟨_, rfl⟩; obtain ⟨ba2, hba2⟩ : ∃ b, b = K.heap.size := ⟨_, rfl⟩; have HWB : Hid (Below K.heap.size K W) := by rw [hW]; exact (Below.refl _ _).alloc (Nat.le_refl _) _
 have HAR : Hid (Blk W ba2 32 #[.slice (some ⟨g1, 0, none⟩) tn tn, .slice (some ⟨g2, 0, none⟩) tn tn]) := by rw [hW, hba2]; exact Blk.new K 32 _
 conv => arg 2; whnf
 conv => arg 2; arg 2; arg 2; change trK 16
 go_upto_region 37 with (fail); rw [← hW, ← hba2]; clear hW hba2
 rename ∀ a w, Code.wp Tryz.prog (trK 16) _ a w → _ => hKU
 have HKU := Lib.hid hKU; clear hKU
 go_loopw [31, 32, 254] (fun a b i wr => ∃ k : Nat, k ≤ 2 ∧ i = .int .i64 k ∧ a = .int .i64 (if k = 0 then 0 else n1) ∧ b = .int .i64 (if k = 2 then SM else 0) ∧ Hid (Below W.heap.size W wr)) (fun _ _ i _ => 2 - (intOf i).toNat)
 case atStart => exact ⟨0, by omega, rfl, rfl, rfl, Below.refl _ _⟩
 case round =>
  obtain ⟨k, hk, rfl, rfl, rfl, HBW⟩ := hrel; obtain ⟨wo, hwo⟩ : ∃ x, x = wr := ⟨_, rfl⟩; subst hwo
  by_cases hlk : k < 2
  ·obtain ⟨L, g, hgk, hri, hpb, hln, hsl, e0, e1⟩ := HTWO.out k hlk; have HBK : Hid (Below K.heap.size K wo) := HWB.out.trans (HBW.out.mono HWB.out.size); have HG := Lib.hid hgk; have HRI := Lib.hid hri; have HPB := Lib.hid hpb; have HLN := Lib.hid hln; have HE : Hid ((k = 0 → L = P1) ∧ (k = 1 → L = P2)) := ⟨e0, e1⟩; have HPO := Lib.hid (planB_parts hpb).2; have HA0 : Hid (sA c n1 L k 0 = if k = 0 then 0 else n1) := by show _ = _; unfold sA; split <;> simp [sentN_zero]
   have HB0 : Hid (sB c D L k 0 = if k = 2 then SM else 0) := by show _ = _; unfold sB; rw [if_neg (show ¬ k = 2 by omega)]; split <;> simp [sumD]
   rw [← HA0.out, ← HB0.out]
   have hkc : wo.cell? ⟨ba2, k, none⟩ = some (.slice (some ⟨g, 0, none⟩) tn tn) := by
    rw [(HAR.out.below HBW.out HAR.out.lt).cell k, hsl]
    match k, hlk with
    | 0, _ => rfl
    | 1, _ => rfl
   have hkl : ba2 < wo.heap.size := (HAR.out.below HBW.out HAR.out.lt).lt; have hki : (k : Int) < 2 := by omega
   clear hgk hri hpb hln hsl e0 e1; have hmk := make_ints wn (by omega) wo
   obtain ⟨V1, hV1⟩ : ∃ V, V = wo.alloc (.cells (intsA (List.replicate wn 0)) 3) := ⟨_, rfl⟩; obtain ⟨pR, hpR⟩ : ∃ q, q = wo.heap.size := ⟨_, rfl⟩; have HV1 : Hid (Below wo.heap.size wo V1) := by rw [hV1]; exact (Below.refl _ _).alloc (Nat.le_refl _) _
   have XR : Hid (Blk V1 pR 3 (intsA (rowU c L 0))) := by rw [hV1, hpR, rowU_zero, HEW.out]; exact Blk.new wo 3 _
   have HPR : Hid (wo.heap.size ≤ pR ∧ pR < V1.heap.size) := ⟨by omega, XR.out.lt⟩
   have HBK1 : Hid (Below K.heap.size K V1) := HBK.out.trans (HV1.out.mono HBK.out.size); have hx := (HX.out.below HBK.out).box; obtain ⟨q0, q1, q2, q3, q4, q5, q6, q7, q8, q9, ql⟩ := cx31 hx; clear hx; go_upto_region 41 with (fail); rw [← hpR, ← hV1]; clear q0 q1 q2 q3 q4 q5 q6 q7 q8 q9 ql; clear hV1 hpR hmk hkc hkl
   go_loopw [31, 32, 265] (fun a b i wq => ∃ j : Nat, j ≤ tn ∧ i = .int .i64 j ∧ a = .int .i64 (sA c n1 L k j) ∧ b = .int .i64 (sB c D L k j) ∧ Hid (Below wo.heap.size wo wq) ∧ Hid (Blk wq pR 3 (intsA (rowU c L j)))) (fun _ _ i _ => tn - (intOf i).toNat)
   case atStart => exact ⟨0, Nat.zero_le _, rfl, rfl, rfl, HV1, XR⟩
   case round =>
    obtain ⟨j, hj, rfl, rfl, rfl, HBQ, HRO⟩ := hrel; have HBK2 : Hid (Below K.heap.size K wr) := HBK.out.trans (HBQ.out.mono HBK.out.size)
    by_cases hlt : j < tn
    ·obtain ⟨l, hl⟩ : ∃ l, c.lt[j]? = some l := ⟨c.lt[j]'(by have := HET.out; omega), by simp⟩
     obtain ⟨p, hp⟩ : ∃ p, L[j]? = some p := ⟨L[j]'(by have := HLN.out; omega), by simp⟩
     have hgk := HG.out wr HBK2.out; have l0' : wr.cell? ⟨g, j, none⟩ = some (.int .i64 p) := (hgk.cell j).trans (by unfold intsA; simp [hp])
     have l1' := hgk.lt; have hpo := HPO.out p (List.mem_of_getElem? hp); have hpw : ¬ (p < -1) := by omega
     have hpv : ¬ ((wn : Int) ≤ p) := by have := HEW.out; omega
     have hpwq : decide (p < -1) = false := decide_eq_false hpw; have hpvq : decide ((wn : Int) ≤ p) = false := decide_eq_false hpv; have hjt : (j : Int) < tn := by omega
     have HXQ := Lib.hid (HX.out.below HBK2.out); have hx := HXQ.out.box; obtain ⟨q0, q1, q2, q3, q4, q5, q6, q7, q8, q9, ql⟩ := cx31 hx; clear hx hgk
     by_cases hp0 : p < 0
     ·have HNA : Hid (sA c n1 L k (j + 1) = sA c n1 L k j) := by show _ = _; unfold sA; rw [sentN_neg hl hp hp0]
      have HNB : Hid (sB c D L k (j + 1) = sB c D L k j) := by show _ = _; unfold sB; rw [sumD_neg hl hp hp0]
      have HNR := Lib.hid (rowU_neg (c := c) hp hp0); clear hl hp hpo; go_wp2; go_roundw
      case rel => exact ⟨j + 1, by omega, by go_num, by rw [HNA.out], by rw [HNB.out], HBQ, by show Blk _ _ _ _; rw [HNR.out]; exact HRO.out⟩
      case measure => simp [intOf]; omega
     ·obtain ⟨m, rfl⟩ : ∃ m : Nat, p = m := ⟨p.toNat, by omega⟩
      have hmw : m < wn := by have := HEW.out; omega
      have hmi : (m : Int) < wn := by omega
      obtain ⟨gg, hgg⟩ : ∃ x, c.wg[m]? = some x := ⟨c.wg[m]'(by have := HEW.out; omega), by simp⟩
      obtain ⟨d, hd, hd1, hd2, hdt⟩ := HXQ.out.days m gg hgg; have hat := right_at HRI.out (by rw [HPX.out.2]; exact hl) hp (by rw [HPX.out.1]; exact hgg)
      rw [HPX.out.2] at hat; have hgb := (okC_parts HXQ.out.ok).2.2.2.2.1 gg (List.mem_of_getElem? hgg); have hti : isIn c t d = true := (tm_true HXQ.out.ok HXQ.out.tr hgb hd1 hd2).1 (by rw [HXQ.out.xe]; exact hat.2.2)
      rw [hti] at hdt
      obtain ⟨tb, tof, hT, htb, T0⟩ : ∃ b off, A16 = some ⟨b, off, none⟩ ∧ b < wr.heap.size ∧ wr.cell? ⟨b, off + m, none⟩ = some (.bool true) := by
       obtain ⟨b, off, e, hb, hx⟩ := HXQ.out.rt m true hdt; exact ⟨b, off, e, hb, by have := hx 0 _ rfl; simpa using this⟩
      have HDM : Hid (D[m]? = some (d : Int)) := hd; have HTM : Hid (TI[m]? = some true) := hdt; have HNR := Lib.hid (rowU_on hl hp (show m < c.wg.length by have := HEW.out; omega))
      have HN5 := Lib.hid (rowU_at (c := c) (L := L) (n := j) (show m < c.wg.length by have := HEW.out; omega))
      have HU := Lib.hid (usedN_bd (c := c) (L := L) (okC_parts HXQ.out.ok).2.2.2.2.2 m j); have HLL := Lib.hid ((okC_parts HXQ.out.ok).2.2.2.2.2 l (List.mem_of_getElem? hl)); have HNA : Hid (sA c n1 L k (j + 1) = if k = 0 then sentN c L j + l.bales else n1) := by show _ = _; unfold sA; rw [sentN_on HPB.out hl hp hp0]
      have HNB : Hid (sB c D L k (j + 1) = if k = 0 then 0 else sumD c D L j + bringsP l d) := by show _ = _; unfold sB; rw [sumD_on hl hp hd]
      have HSB1 := Lib.hid (sentN_bd HXQ.out.ok HPB.out j (by have := HET.out; omega))
      have HSB2 := Lib.hid (sumD_in HXQ.out.ok HPB.out HXQ.out.dd j (by have := HET.out; omega)).2.2
      obtain ⟨bl, ol, hta, hbl, L0, L1, L2, L3, L4⟩ := rd_lt HX.out.hP.hlt j l hl; obtain ⟨bw, ow, hwa, hbw, G0, G1, G2, G3⟩ := rd_wg HX.out.hP.hwg m gg hgg; have HTA := Lib.hid hta; have HWA := Lib.hid hwa; have HTT := Lib.hid hT
      have HLC : Hid (∀ v, Below w0.heap.size w0 v → bl < v.heap.size ∧ v.cell? ⟨bl, ol + j * 5, none⟩ = some (.int .i64 l.from_) ∧ v.cell? ⟨bl, ol + j * 5 + 1, none⟩ = some (.int .i64 l.bales) ∧ v.cell? ⟨bl, ol + j * 5 + 2, none⟩ = some (.int .i64 l.price) ∧ v.cell? ⟨bl, ol + j * 5 + 3, none⟩ = some (.int .i64 l.until_) ∧ v.cell? ⟨bl, ol + j * 5 + 4, none⟩ = some (.int .i64 l.less)) := fun v hv => ⟨Nat.lt_of_lt_of_le hbl hv.size, (cvB hv _ _ hbl).trans L0, (cvB hv _ _ hbl).trans L1, (cvB hv _ _ hbl).trans L2, (cvB hv _ _ hbl).trans L3, (cvB hv _ _ hbl).trans L4⟩
      have HWC : Hid (∀ v, Below w0.heap.size w0 v → bw < v.heap.size ∧ v.cell? ⟨bw, ow + m * 4, none⟩ = some (.int .i64 gg.leaves) ∧ v.cell? ⟨bw, ow + m * 4 + 3, none⟩ = some (.int .i64 gg.room)) := fun v hv => ⟨Nat.lt_of_lt_of_le hbw hv.size, (cvB hv _ _ hbw).trans G0, (cvB hv _ _ hbw).trans G3⟩
      obtain ⟨l0, l1, l2, l3, l4⟩ := l; obtain ⟨g0, ⟨gx1, gx2⟩, g3⟩ := gg; obtain ⟨U, hU⟩ : ∃ U, usedN c.lt L m j = U := ⟨_, rfl⟩; simp only at HLC HWC HNA HNR hat; rw [hU] at HU HNR HN5 hat; obtain ⟨ha1, ha2, -⟩ := hat; have hlB := lotB_iff.1 HLL.out; simp only at hlB; have f1 : decide (g3 < U + l1) = false := decide_eq_false (by omega)
      have f2 : decide (g0 < l0) = false := decide_eq_false (by omega)
      have hwu : IntKind.i64.wrap (U + l1) = U + l1 := IntWalk.i64_in _ (by have := HU.out; omega)
      have rc : wr.cell? ⟨pR, m, none⟩ = some (.int .i64 U) := (HRO.out.cell m).trans HN5.out; have rf := HRO.out.frozen m; have rl := HRO.out.lt; clear hl hp hpo hpw hpv hgg hd hd1 hd2 hdt hgb hti hta hwa hT hU hbl hbw L0 L1 L2 L3 L4 G0 G1 G2 G3 ha1 ha2 hlB; rw [HTA.out] at q9; obtain ⟨yl, y0, y1, y2, y3, y4⟩ := HLC.out wr HXQ.out.bw; have hpq : decide ((m : Int) < 0) = false := decide_eq_false (by omega)
      go_upto_region 46 with (fail)
      refine wp_region_havoc [(0,false),(1,false),(2,false),(3,false),(4,false),(5,false),(6,false),(7,false),(8,false),(9,false),(10,false),(11,false)] [12] (fun _ _ => False) (by kernel_rfl) (by kernel_rfl) (fun _ _ _ _ h => h.elim) ?_
      (apply hav_same (by exact ho rfl) (by kernel_rfl); (focus (intro wv hgv _; have hcv := cvB hgv; (try go_simp); try rfl; done)); simp only [Act.put, List.setIfInBounds_toArray, List.set_cons_succ, List.set_cons_zero])
      iterate 11 (apply hav_same (by exact ho rfl) (by kernel_rfl); (focus (intro wv hgv _; have hcv := cvB hgv; (try go_simp); try rfl; done)); simp only [Act.put, List.setIfInBounds_toArray, List.set_cons_succ, List.set_cons_zero])
      refine hav_end (fun X hgX _ => ?_)
      simp only [List.filterMap]; have HQX : Hid (Below wr.heap.size wr X) := hgX; clear hgX rc rf rl yl y0 y1 y2 y3 y4 l0' l1' hpwq hpvq; clear q0 q1 q2 q3 q4 q5 q6 q7 q8 q9 ql; have HKX := Lib.hid (HRO.out.below HQX.out HRO.out.lt); have rc : X.cell? ⟨pR, m, none⟩ = some (.int .i64 U) := (HKX.out.cell m).trans HN5.out; have rf := HKX.out.frozen m; have rl := HKX.out.lt; go_upto_region 47 with (fail); obtain ⟨Y, hY⟩ : ∃ Y, Y = X.setCell ⟨pR, m, none⟩ (.int .i64 (U + l1)) := ⟨_, rfl⟩; rw [← hY]; have HRY : Hid (Blk Y pR 3 (intsA (rowU c L (j + 1)))) := by rw [hY]; show Blk _ _ _ _; rw [← HNR.out]; exact HKX.out.set_ m _
      have HBY : Hid (Below wo.heap.size wo Y) := by rw [hY]; exact (HBQ.out.trans (HQX.out.mono HBQ.out.size)).setCell (p := ⟨pR, m, none⟩) HPR.out.1 _
      have HBK3 : Hid (Below K.heap.size K Y) := HBK.out.trans (HBY.out.mono HBK.out.size); have HXY := Lib.hid (HX.out.below HBK3.out)
      have HN6 : Hid ((intsA (rowU c L (j + 1)))[m]? = some (.int .i64 (U + l1))) := by
       show _ = _; rw [← HNR.out, Array.getElem?_setIfInBounds, if_pos rfl, if_pos (by show m < (intsA (rowU c L j)).size; unfold intsA; simp [rowU_len]; have := HEW.out; omega)]
      clear hY rc rf rl hwu; have hx := HXY.out.box; obtain ⟨q0, q1, q2, q3, q4, q5, q6, q7, q8, q9, ql⟩ := cx31 hx; clear hx; rw [HTA.out] at q9; rw [HWA.out] at q8; obtain ⟨yl, y0, y1, y2, y3, y4⟩ := HLC.out Y HXY.out.bw; obtain ⟨zl, z0, z3⟩ := HWC.out Y HXY.out.bw; have rc : Y.cell? ⟨pR, m, none⟩ = some (.int .i64 (U + l1)) := (HRY.out.cell m).trans HN6.out; have rl := HRY.out.lt
      have T2 : Y.cell? ⟨tb, tof + m, none⟩ = some (.bool true) ∧ tb < Y.heap.size := by
       have hti' : TI[m]? = some true := HTM.out; obtain ⟨b, off, e, hb, hx⟩ := HXY.out.rt m true hti'; rw [HTT.out] at e; cases e
       exact ⟨by have := hx 0 _ rfl; simpa using this, hb⟩
      obtain ⟨T2, tl2⟩ := T2; have hTs := HTT.out; subst hTs
      refine wp_region_havoc [(0,false),(1,false),(2,false),(3,false),(4,false),(5,false),(6,false),(7,false),(8,false),(9,false),(10,false),(11,false),(12,false),(13,false),(14,false),(15,false),(16,false),(17,false),(18,false),(19,false),(20,false),(21,false),(22,false),(23,false),(24,false),(25,false),(26,false),(27,false),(28,false),(29,false),(30,false),(31,false),(32,false)] [] (fun _ _ => False) (by kernel_rfl) (by kernel_rfl) (fun _ _ _ _ h => h.elim) ?_
      (apply hav_same (by exact ho rfl) (by kernel_rfl); (focus (intro wv hgv _; have hcv := cvB hgv; (try go_simp); try rfl; done)); simp only [Act.put, List.setIfInBounds_toArray, List.set_cons_succ, List.set_cons_zero])
      iterate 32 (apply hav_same (by exact ho rfl) (by kernel_rfl); (focus (intro wv hgv _; have hcv := cvB hgv; (try go_simp); try rfl; done)); simp only [Act.put, List.setIfInBounds_toArray, List.set_cons_succ, List.set_cons_zero])
      refine hav_end (fun Z hgZ _ => ?_)
      simp only [List.filterMap]; have HBZ : Hid (Below wo.heap.size wo Z) := HBY.out.trans (Below.mono hgZ HBY.out.size); have HRZ := Lib.hid (HRY.out.below hgZ HRY.out.lt); clear hgZ rc rl yl y0 y1 y2 y3 y4 zl z0 z3 T2 tl2 f1 f2; clear q0 q1 q2 q3 q4 q5 q6 q7 q8 q9 ql; have HBK4 : Hid (Below K.heap.size K Z) := HBK.out.trans (HBZ.out.mono HBK.out.size); have HXZ := Lib.hid (HX.out.below HBK4.out); have hx := HXZ.out.box; obtain ⟨q0, q1, q2, q3, q4, q5, q6, q7, q8, q9, ql⟩ := cx31 hx; clear hx; rw [HTA.out] at q9; obtain ⟨yl, y0, y1, y2, y3, y4⟩ := HLC.out Z HXZ.out.bw
      by_cases hk0 : k = 0
      ·subst hk0; obtain ⟨S, hS⟩ : ∃ S, sentN c L j = S := ⟨_, rfl⟩; have hsa : sA c n1 L 0 j = S := by unfold sA; rw [if_pos rfl, hS]
       have hsb : sB c D L 0 j = 0 := rfl; rw [if_pos rfl, hS] at HNA; rw [if_pos rfl] at HNB; rw [hS] at HSB1; rw [hsa, hsb]; have hws : IntKind.i64.wrap (S + l1) = S + l1 := IntWalk.i64_in _ (by have := HSB1.out; have := lotB_iff.1 HLL.out; simp only at this; omega)
       clear hS hsa hsb; go_wp2; go_roundw
       case rel => exact ⟨j + 1, by omega, by go_num, by rw [HNA.out], by rw [HNB.out], HBZ, HRZ⟩
       case measure => simp [intOf]; omega
      ·obtain rfl : k = 1 := by omega
       obtain ⟨S, hS⟩ : ∃ S, sumD c D L j = S := ⟨_, rfl⟩; obtain ⟨B, hB⟩ : ∃ B, bringsP ⟨l0, l1, l2, l3, l4⟩ d = B := ⟨_, rfl⟩; have HBV := Lib.hid hB; have hsb : sB c D L 1 j = S := by unfold sB; rw [if_neg (by omega), hS]
       have hsa : sA c n1 L 1 j = n1 := rfl; rw [if_neg (by omega)] at HNA
       rw [if_neg (by omega), hS, hB] at HNB
       rw [hS] at HSB2; rw [hsa, hsb]; have hws : IntKind.i64.wrap (S + B) = S + B := IntWalk.i64_in _ (by have := HSB2.out; have := brings_bd HLL.out d; rw [hB] at this; omega)
       obtain ⟨db, dO, hdA, hdb, D0⟩ := rd_in HXZ.out.rd m d HDM.out; have hdbw : db < Z.heap.size := hdb; subst hdA; clear hS hsa hsb hB hdb; go_upto_region 51 with (fail)
       refine wp_region_havoc [(0,false),(1,false),(2,false),(3,false),(4,false),(5,false),(6,false),(7,false),(8,false),(9,false),(10,false),(11,false),(12,false)] [] (fun _ _ => False) (by kernel_rfl) (by kernel_rfl) (fun _ _ _ _ h => h.elim) ?_
       (apply hav_same (by exact ho rfl) (by kernel_rfl); (focus (intro wv hgv _; have hcv := cvB hgv; (try go_simp); try rfl; done)); simp only [Act.put, List.setIfInBounds_toArray, List.set_cons_succ, List.set_cons_zero])
       iterate 9 (apply hav_same (by exact ho rfl) (by kernel_rfl); (focus (intro wv hgv _; have hcv := cvB hgv; (try go_simp); try rfl; done)); simp only [Act.put, List.setIfInBounds_toArray, List.set_cons_succ, List.set_cons_zero])
       (apply hav_call (by exact ho rfl) (by kernel_rfl); (focus (intro wv; go_simp; try exact ⟨rfl, rfl⟩; done)); (focus (intro wv hgv _; have h9 := lbrings_any ⟨l0, l1, l2, l3, l4⟩ d HLL.out wv; rw [HBV.out] at h9; exact h9; done)); simp only [Act.put, List.setIfInBounds_toArray, List.set_cons_succ, List.set_cons_zero])
       iterate 2 (apply hav_same (by exact ho rfl) (by kernel_rfl); (focus (intro wv hgv _; have hcv := cvB hgv; (try go_simp); try rfl; done)); simp only [Act.put, List.setIfInBounds_toArray, List.set_cons_succ, List.set_cons_zero])
       refine hav_end (fun wd hgz _ => ?_)
       simp only [List.filterMap]; have HBD : Hid (Below wo.heap.size wo wd) := HBZ.out.trans (Below.mono hgz HBZ.out.size); have HRD := Lib.hid (HRZ.out.below hgz HRZ.out.lt); clear hgz D0 hdbw yl y0 y1 y2 y3 y4; clear q0 q1 q2 q3 q4 q5 q6 q7 q8 q9 ql; go_wp2; go_roundw
       case rel => exact ⟨j + 1, by omega, by go_num, by rw [HNA.out], by rw [HNB.out], HBD, HRD⟩
       case measure => simp [intOf]; omega
    ·obtain rfl : tn = j := by omega
     have HEA : Hid (sA c n1 L k tn = if k + 1 = 0 then 0 else n1) := by
      show _ = _; unfold sA
      by_cases h0 : k = 0
      ·rw [if_pos h0, HE.out.1 h0, HSN.out, if_neg (by omega)]
      ·rw [if_neg h0, if_neg (by omega)]
     have HEB : Hid (sB c D L k tn = if k + 1 = 2 then SM else 0) := by
      show _ = _; unfold sB
      by_cases h0 : k = 0
      ·rw [if_pos h0, if_neg (by omega)]
      ·rw [if_neg h0, if_pos (by omega), HE.out.2 (by omega), HSM.out]
     have HBW2 : Hid (Below W.heap.size W wr) := HBW.out.trans (HBQ.out.mono HBW.out.size); rw [HEA.out, HEB.out]; go_wp2; go_roundw
     case rel => exact ⟨k + 1, by omega, by go_num, by simp, by simp, HBW2⟩
     case measure => simp [intOf]; omega
  ·obtain rfl : k = 2 := by omega
   have HBK : Hid (Below K.heap.size K wo) := HWB.out.trans (HBW.out.mono HWB.out.size); go_wp2; exact HKU.out _ _ ((HEND.out wo HBK.out).go.go)
theorem tr11 (hX : TrX w0 K b3 b11 fl fc ll lc wn wc tn tc cx bn fa la wa ta lx ba A15 A16 c x t lk D TI by_) : TR4 11 w0 (.slice ba bn bc) (.pointer (some ⟨b3, 0, none⟩)) (.pointer (some ⟨b11, 0, none⟩)) (.slice A15 wn c15) (.slice A16 wn c16) K := by
 unfold TR4 TG
 intros
 have ht5 := hX.t5; have HSE : Hid (stayE x = 0) := hX.hv; obtain ⟨n1, hn1⟩ : ∃ n, (onP x.tm x.wg ofMost x.lt (roomP x.wg)).1 = n := ⟨_, rfl⟩; obtain ⟨n2, hn2⟩ : ∃ n, (onP x.tm x.wg ofBest x.lt (roomP x.wg)).1 = n := ⟨_, rfl⟩; obtain ⟨P1, hp1⟩ : ∃ P, planL x.tm x.wg ofMost x.lt (roomP x.wg) = P := ⟨_, rfl⟩; obtain ⟨P2, hp2⟩ : ∃ P, planL x.tm x.wg ofBest x.lt (roomP x.wg) = P := ⟨_, rfl⟩; have HN : Hid ((onP x.tm x.wg ofMost x.lt (roomP x.wg)).1 = n1 ∧ (onP x.tm x.wg ofBest x.lt (roomP x.wg)).1 = n2 ∧ planL x.tm x.wg ofMost x.lt (roomP x.wg) = P1 ∧ planL x.tm x.wg ofBest x.lt (roomP x.wg) = P2) := ⟨hn1, hn2, hp1, hp2⟩
 have HEND : Hid (∀ (wz : World) (g1 g2 : Nat), Below K.heap.size K wz → Blk wz g1 3 (intsA P1) → Blk wz g2 3 (intsA P2) → TR3 14 w0 (.slice ba bn bc) (.pointer (some ⟨b3, 0, none⟩)) (.pointer (some ⟨b11, 0, none⟩)) (.slice A15 wn c15) (.slice A16 wn c16) (.int .i64 n1) (.slice (some ⟨g1, 0, none⟩) tn tn) (.int .i64 n2) (.slice (some ⟨g2, 0, none⟩) tn tn) wz) := fun wz g1 g2 hb k1 k2 => tr14 (hX.below hb) k1 k2 (by rw [← hp1]; exact plan_right x.tm x.wg ofMost x.lt (roomP x.wg)) (by rw [← hp2]; exact plan_right x.tm x.wg ofBest x.lt (roomP x.wg)) (by rw [← hp1, ← hn1]; exact plan_val x.tm x.wg ofMost x.lt (roomP x.wg)) (by rw [← hp2, ← hn2]; exact plan_val x.tm x.wg ofBest x.lt (roomP x.wg))
 have HX := Lib.hid hX; clear hX hn1 hn2 hp1 hp2
 conv => arg 2; whnf
 conv => arg 2; arg 2; arg 2; arg 2; change trK 14
 have hx := HX.out.hx.box; obtain ⟨q0, q1, q2, q3, q4, q5, q6, q7, q8, q9, ql⟩ := cx31 hx; clear hx; go_wp2_with fail; refine (PMost_any (fa := fa) (fl := fl) (fc := fc) (la := lx) (ll := ll) (lc := cx) (wa := wa) (wn := wn) (wc := wc) (ta := ta) (tn := tn) (tc := tc) (w := K) (c := x) HX.out.hx.inn).mono ?_; rintro e v1 ⟨hb, (⟨h1, -⟩ | ⟨-, g1, rfl, -, hg⟩)⟩
 ·exact absurd HSE.out h1
 rw [HN.out.1]; rw [HN.out.2.2.1] at hg; have HB1 : Hid (Below K.heap.size K v1) := hb; have HG1 := Lib.hid hg; have HX1 := Lib.hid (HX.out.below hb); clear hb hg; clear q0 q1 q2 q3 q4 q5 q6 q7 q8 q9 ql; have hx := HX1.out.hx.box; obtain ⟨q0, q1, q2, q3, q4, q5, q6, q7, q8, q9, ql⟩ := cx31 hx; clear hx; go_wp2_with fail; refine (PBest_any (fa := fa) (fl := fl) (fc := fc) (la := lx) (ll := ll) (lc := cx) (wa := wa) (wn := wn) (wc := wc) (ta := ta) (tn := tn) (tc := tc) (w := v1) (c := x) HX1.out.hx.inn).mono ?_; rintro e v2 ⟨hb, (⟨h1, -⟩ | ⟨-, g2, rfl, -, hg⟩)⟩
 ·exact absurd HSE.out h1
 rw [HN.out.2.1]; rw [HN.out.2.2.2] at hg; have HB2 : Hid (Below K.heap.size K v2) := HB1.out.trans (hb.mono HB1.out.size); have HG2 := Lib.hid hg; have HG12 := Lib.hid (HG1.out.below hb HG1.out.lt); have HX2 := Lib.hid (HX1.out.below hb); clear hb hg; clear q0 q1 q2 q3 q4 q5 q6 q7 q8 q9 ql; have hx := HX2.out.box; obtain ⟨q0, q1, q2, q3, q4, q5, q6, q7, q8, q9, ql⟩ := cx31 hx; clear hx; go_wp2; exact (HEND.out v2 g1 g2 HB2.out HG12.out HG2.out).go.go
end
end Go.Proofs.YtgmfhngcehkibaaGreat
namespace Go.Proofs.YtgmfhngcehkibaaGreat
open Go.RowKit Go.Hav Go.Shelf Go.Sq
theorem RdG.keep {α : Type} {f : α → List Value} {sz : Nat} {w w' : World} {B : Nat} {A : Option Addr} {l : List α} (h : RdG f sz w B A l) (hk : ∀ b, b < B → (∃ off, A = some ⟨b, off, none⟩) → w'.heap[b]? = w.heap[b]?) : RdG f sz w' B A l := fun k x hx => by
 obtain ⟨b, off, e, hb, hc⟩ := h k x hx
 exact ⟨b, off, e, hb, fun i u hu => (World.cell?_of_block (a := ⟨b, _, none⟩) (hk b hb ⟨off, e⟩)).trans (hc i u hu)⟩
end Go.Proofs.YtgmfhngcehkibaaGreat
namespace Go.Proofs.YtgmfhngcehkibaaGreat
open Go.RowKit Go.Hav Go.Shelf Go.Sq
attribute [local go_sem] Oper.semAt_some
def uV (x : Nat) : List Value := [.int .u16 x]
structure UIn (w : World) (B : Nat) (ua : Option Addr) (ul : Nat) (U : List Nat) : Prop where
 el : U.length = ul
 ml : ul ≤ 9223372036854775807
 rd : RdG uV 1 w B ua U
 bd : ∀ x ∈ U, x ≤ 65535
theorem UIn.turn {w w' : World} {ua : Option Addr} {ul B : Nat} {U : List Nat} {S : Nat → Prop} (h : UIn w B ua ul U) (hB : B ≤ w.heap.size) (t : Turn S w w') (hs : ∀ b, b < B → ¬ S b) : UIn w' B ua ul U :=
 { h with rd := h.rd.keep fun b hb _ => t.block b (by omega) (hs b hb) }
def Cnt (c M : Nat) (w : World) : Prop := ∃ n : Nat, n ≤ M ∧ Blk w c 3 #[.int .i64 n]
theorem Cnt.below {c M : Nat} {w w' : World} (h : Cnt c M w) (hb : Below w.heap.size w w') : Cnt c M w' := by
 obtain ⟨n, h1, h2⟩ := h; exact ⟨n, h1, h2.below hb h2.lt⟩
theorem Cnt.turn {c M : Nat} {w w' : World} {S : Nat → Prop} (h : Cnt c M w) (t : Turn S w w') (hs : ¬ S c) : Cnt c M w' := by
 obtain ⟨n, h1, h2⟩ := h; exact ⟨n, h1, h2.turn t hs⟩
theorem Cnt.lt {c M : Nat} {w : World} (h : Cnt c M w) : c < w.heap.size := h.choose_spec.2.lt
theorem Cnt.mono {c M M' : Nat} {w : World} (h : Cnt c M w) (hm : M ≤ M') : Cnt c M' w := by
 obtain ⟨n, h1, h2⟩ := h; exact ⟨n, Nat.le_trans h1 hm, h2⟩
def DrawPost (c M lo hi : Nat) (w : World) (e : Ending) (w' : World) : Prop := (∃ v : Nat, e = .returned (.int .i64 v) ∧ lo ≤ v ∧ v ≤ hi) ∧ Cnt c (M + 1) w' ∧ Turn (fun x => x = c) w w'
section
variable {c s M B lo hi ul uc : Nat} {ua : Option Addr} {U : List Nat} {w : World}
theorem draw87_any (hM : M ≤ 1000) (hlo : lo ≤ hi) (hhi : hi ≤ 1000) (w : World) (hs : Blk w s 52 #[.slice ua ul uc]) (hc : Cnt c M w) (hB : B ≤ w.heap.size) (hcB : B ≤ c) (hU : UIn w B ua ul U) :
  Calls Tryz.prog 87 #[.agg #[.int .i64 lo, .int .i64 hi], .pointer (some ⟨c, 0, none⟩), .pointer (some ⟨s, 0, none⟩)] w (DrawPost c M lo hi w) := by
 obtain ⟨n, hn, hk⟩ := hc
 have hsc : s ≠ c := fun e => by subst e; have h1 : w.heap[s]? = _ := hs; have h2 : w.heap[s]? = _ := hk; rw [h1] at h2; injection h2 with h2; injection h2 with _ h2; cases h2
 have HU := Lib.hid hU; have HE := Lib.hid hU.el; have hml := hU.ml; obtain ⟨w0, hw0⟩ : ∃ x, x = w := ⟨_, rfl⟩; obtain ⟨W, hW⟩ : ∃ W, W = w.alloc (.cells #[.int .i64 lo, .int .i64 hi] 23) := ⟨_, rfl⟩; obtain ⟨g, hg⟩ : ∃ g, g = w.heap.size := ⟨_, rfl⟩; have HX : Hid (Blk W g 23 #[.int .i64 lo, .int .i64 hi]) := by rw [hW, hg]; exact Blk.new w 23 _
 have HS : Hid (Blk W s 52 #[.slice ua ul uc]) := by rw [hW]; exact hs.alloc _
 have HK : Hid (Blk W c 3 #[.int .i64 n]) := by rw [hW]; exact hk.alloc _
 have HT : Hid (Turn (fun x => x = c) w W) := by rw [hW]; exact (Turn.refl _ _).alloc _
 have HCG : Hid (c < w.heap.size) := hk.lt; have hgc : g ≠ c := by rw [hg]; have := hk.lt; omega
 have wn : IntKind.i64.wrap ((n : Int) + 1) = ((n + 1 : Nat) : Int) := (IntWalk.i64_in _ (by omega)).trans (by omega)
 clear hs hk hU
 go_enter Tryz.func87, Tryz.ntmps87
 have k0 := HK.out.cell 0; have kf := HK.out.frozen 0; have kl := HK.out.lt; simp at k0; go_upto_region 1 with (fail); rw [← hW, ← hg]; clear hW hg; go_upto_region 2 with (fail); obtain ⟨W2, hW2⟩ : ∃ x, x = W.setCell ⟨c, 0, none⟩ (.int .i64 ((n : Int) + 1)) := ⟨_, rfl⟩
 have t2 : Turn (fun x => x = c) W W2 := by rw [hW2]; exact Turn.set _ _ (fun _ => rfl)
 have HK2 : Hid (Blk W2 c 3 #[.int .i64 ((n : Int) + 1)]) := by
  show Blk _ _ _ _; rw [hW2]; have h := HK.out.set_ 0 (.int .i64 ((n : Int) + 1)); simpa using h
 have HS2 : Hid (Blk W2 s 52 #[.slice ua ul uc]) := HS.out.turn t2 hsc; have HX2 : Hid (Blk W2 g 23 #[.int .i64 lo, .int .i64 hi]) := HX.out.turn t2 hgc
 have HT2 : Hid (Turn (fun x => x = c) w W2) := HT.out.trans t2
 have HU2 : Hid (UIn W2 B ua ul U) := HU.out.turn hB (HT.out.trans t2) (fun b hb e => by have e' : b = c := e; omega)
 have HC2 : Hid (Cnt c (M + 1) W2) := ⟨n + 1, by omega, HK2.out⟩
 rw [← hW2]; clear hW2 t2 k0 kf kl; have k0 := HK2.out.cell 0; have kl := HK2.out.lt; have s0 := HS2.out.cell 0; have sl := HS2.out.lt; have x0 := HX2.out.cell 0; have x1 := HX2.out.cell 1; have xl := HX2.out.lt; simp at k0 s0 x0 x1
 by_cases h0 : ul = 0
 ·have he : ((ul : Int) == 0) = true := by simp; omega
  subst h0; clear wn; go_wp2; go_ret
  exact ⟨⟨lo, rfl, Nat.le_refl _, hlo⟩, HC2.out, HT2.out⟩
 ·have he : ((ul : Int) == 0) = false := by simp; omega
  obtain ⟨k, hke⟩ : ∃ k, k = (n + 1) % ul := ⟨_, rfl⟩; have hk : k < ul := by rw [hke]; exact Nat.mod_lt _ (by omega)
  have tm : ((n : Int) + 1).tmod (ul : Int) = (k : Int) := by rw [Int.tmod_eq_emod_of_nonneg (by omega), hke]; push_cast; rfl
  obtain ⟨x, hx⟩ : ∃ x, U[k]? = some x := ⟨U[k]'(by rw [HE.out]; exact hk), by simp⟩
  have hx6 := HU2.out.bd x (List.mem_of_getElem? hx); obtain ⟨ub, uo, rfl, hub, hcell⟩ := HU2.out.rd k x hx; have u0 : W2.cell? ⟨ub, uo + k, none⟩ = some (.int .u16 x) := by have h := hcell 0 (.int .u16 x) rfl; simpa using h
  have ul2 : ub < W2.heap.size := by have := HT2.out.size; omega
  have m1 : IntKind.i64.wrap (57 * ((n : Int) + 1)) = 57 * ((n : Int) + 1) := IntWalk.i64_in _ (by omega)
  have m2 : IntKind.i64.wrap ((x : Int) + 57 * ((n : Int) + 1)) = (x : Int) + 57 * ((n : Int) + 1) := IntWalk.i64_in _ (by omega)
  have m3 : IntKind.i64.wrap ((hi : Int) - lo) = (hi : Int) - lo := IntWalk.i64_in _ (by omega)
  have m4 : IntKind.i64.wrap ((hi : Int) - lo + 1) = (hi : Int) - lo + 1 := IntWalk.i64_in _ (by omega)
  obtain ⟨q, hq⟩ : ∃ q, q = (x + 57 * (n + 1)) % (hi - lo + 1) := ⟨_, rfl⟩; have hq2 : q < hi - lo + 1 := by rw [hq]; exact Nat.mod_lt _ (by omega)
  have m5 : ((x : Int) + 57 * ((n : Int) + 1)).tmod ((hi : Int) - lo + 1) = (q : Int) := by
   rw [Int.tmod_eq_emod_of_nonneg (by omega), hq]
   have e : ((hi : Int) - lo + 1) = ((hi - lo + 1 : Nat) : Int) := by omega
   rw [e]; push_cast; rfl
  have m6 : IntKind.i64.wrap ((lo : Int) + q) = (lo : Int) + q := IntWalk.i64_in _ (by omega)
  have m7 : ((hi : Int) - lo + 1 == 0) = false := by simp; omega
  have hki : (k : Int) < (ul : Int) := by omega
  clear hq hke wn hx hcell h0; go_upto_region 4 with (fail)
  go_region
  go_wp2; go_ret
  refine ⟨⟨lo + q, by push_cast; rfl, by omega, by omega⟩, HC2.out.below (Below.drew (Below.refl _ _)), HT2.out.trans (Turn.of_below (Below.drew (Below.refl _ _)))⟩
theorem draws34_any (w : World) : Calls Tryz.prog 34 #[.slice ua ul uc] w fun e w' => (∃ c s, w.heap.size ≤ c ∧ w.heap.size ≤ s ∧ e = .returned (.func (.func 87) #[] #[.pointer (some ⟨c, 0, none⟩), .pointer (some ⟨s, 0, none⟩)]) ∧ Blk w' c 3 #[.int .i64 0] ∧ Blk w' s 52 #[.slice ua ul uc]) ∧ Below w.heap.size w w' := by
 have hmf := hmf0; obtain ⟨W, hW⟩ : ∃ W, W = (w.alloc (.cells #[.slice ua ul uc] 52)).alloc (.cells #[.int .i64 0] 3) := ⟨_, rfl⟩; have HS : Hid (Blk W w.heap.size 52 #[.slice ua ul uc]) := by rw [hW]; exact (Blk.new w 52 _).alloc _
 have HC : Hid (Blk W (w.heap.size + 1) 3 #[.int .i64 0]) := by rw [hW]; exact Blk.new_ (by simp) 3 _
 have HB : Hid (Below w.heap.size w W) := by rw [hW]; exact ((Below.refl _ _).alloc (Nat.le_refl _) _).alloc (by simp) _
 go_enter Tryz.func34, Tryz.ntmps34
 go_wp2; go_ret
 rw [← hW]; exact ⟨⟨w.heap.size + 1, w.heap.size, by omega, Nat.le_refl _, by simp, HC.out, HS.out⟩, HB.out⟩
end
end Go.Proofs.YtgmfhngcehkibaaGreat
