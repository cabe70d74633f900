/- PressMore's third loop, whole. Conditions: what the boxes hold, as hypotheses. PressMore's code from its first question on. Conditions: what the boxes hold, as hypotheses. -/
import Derived.Deep.CutBlock
import Derived.Test.YtbfjebglaimcmaaLawN4
namespace Go.Proofs.Ytbfjebglaimcmaa
open Go.RowKit Go.Hav
section
variable {w K : World} {b gx gy gz gt gn gs s : Nat} {fa wa xa ya ta ua A1 A2 : Option Addr} {fl fc wl wp c1 c2 tc uc xl xc yc : Nat} {low top bales E lo hi M0 M1 F : Int} {p px py : PressD}
set_option maxRecDepth 100000 in
set_option maxHeartbeats 6400000 in
theorem more_t15 (hC : MoreC w K b fa fl fc low top bales wa wl wp p A1 A2) (hwl : wl ≤ 100) (hfl : fl ≤ 100) (hv : p.ok = true) (hE : planE p = E)
    (hx : Blk K gx 25 (boxC fa fl fc low top bales xa xl xc)) (hX : PressIn K K.heap.size fa fl low top bales xa xl px) (hFx : PressD.Finer p px)
    (hy : Blk K gy 25 (boxC ya fl yc low top bales wa wl wp)) (hY : PressIn K K.heap.size ya fl low top bales wa wl py) (hFy : PressD.Finer p py)
    (hz : Blk K gz 25 (boxC fa fl fc low top (min 5 (p.bales + 1)) wa wl wp)) (ht : Blk K gt 25 (boxC ta fl tc low top bales ua wl uc)) (hT : PressIn K K.heap.size ta fl low top bales ua wl p.turnP)
    (hn : Blk K gn 3 #[.int .i64 fl]) (hs : Blk K gs 29 #[.int .i64 lo, .int .i64 hi]) (hS : weightR p s = ⟨lo, hi⟩) (hSF : s ≤ full p.n) (hFF : E = 0 → p.fits s = F) (hM : mostR p = .tuple #[.int .i64 M0, .int .i64 M1, .int .i64 E]) {s0 s1 s2 s3 s5 s6 s7 s8 s9 s15 s17 s18 s19 s25 s28 s29 s30 s31 s32 s33 s34 s35 s36 s37 s38 s39 s40 s41 s42 s43 s44 s45 s46 s47 s48 s49 s50 s51 s52 s53 s54 s55 s56 s57 s58 s59 s60 s61 s62 s63 s64 s65 s66 s67 s68 s69 s70 s71 s72 s73 s74 s75 s76 s77 s78 s79 s80 s81 s82 s83 s84 s85 s86 s87 s88 s89 s90 s91 s92 s93 s94 s95 s96 s97 s98 s99 s100 s101 s102 s103 s104 s105 s106 s107 s108 s109 s110 s111 s112 s113 s114 s115 s116 s117 s118 s119 s120 s121 s122 s123 s124 s125 s126 s127 s128 s129 s130 s131 s132 s133 s134 s135 s136 s137 s138 s139 s140 s141 s142 s143 s144 s145 s146 s147 s148 s149 s150 s151 s152 s153 s154 s155 s156 s157 s158 s159 s160 s161 s162 s163 s164 s165 s166 s167 s168 s169 s170 s171 s172 s173 s174 s175 s176 s177 s178 s179 s180 s181 s182 s183 s184 s185 s186 s187 s188 s189 s190 s191 s192 s193 s194 s195 s196 s197 s198 s199 s200 s201 s202 s203 s204 s205 s206 s207 s208 s209 s210 s211 s212 s213 s214 s215 s216 s217 s218 s219 s220 s221 s222 s223 s224 s225 s226 s227 s228 s229 s230 s231 s232 s233 s234 s235 s236 s237 s238 s239 s240 s241 s242 s243 s244 s245 s246 s247 s248 s249 s250 s251 s252 s253 s254 s255 s256 s257 s258 s259 s260 s261 s262 s263 s264 s265 s266 s267 s268 s269 s270 s271 s272 s273 s274 s275 s276 s277 s278 s279 s280 s281 s282 s283 s284 s285 s286 s287 s288 s289 s290 s291 s292 s293 s294 s295 s296 s297 s298 s299 s300 s301 s302 s303 s304 s305 s306 s307 s308 s309 s310 s311 s312 s313 s314 s315 s316 s317 s318 s319 s320 s321 s322 s323 s324 s325 s326 s327 s328 s329 s330 s331 s332 s333 s334 s335 s336 s337 s338 s339 s340 s341 s342 s343 s344 s345 s346 s347 s348 s349 s350 s351 s352 s353 s354 s355 s356 s357 s358 s359 s360 s361 s362 s363 s364 s365 s366 s367 s368 s369 s370 s371 s372 s373 s374 s375 s376 s377 s378 s379 s380 s381 s382 s383 s384 s385 s386 s387 s388 s389 s390 s391 s392 s393 s394 s395 s396 s397 s398 s399 s400 s401 s402 : Value} :
    Code.wp Try.prog (moreTail 15) (bodyPost Try.prog Try.f10 fun e w' => e = .returned (.bool true) ∧ Below w.heap.size w w') ⟨(s0 :: s1 :: s2 :: s3 :: (.pointer (some ⟨b, 0, none⟩)) :: s5 :: s6 :: s7 :: s8 :: s9 :: (.int .i64 (s : Nat)) :: (.pointer (some ⟨gx, 0, none⟩)) :: (.pointer (some ⟨gy, 0, none⟩)) :: (.pointer (some ⟨gz, 0, none⟩)) :: (.pointer (some ⟨gt, 0, none⟩)) :: s15 :: (.func (.func 43) #[] #[.pointer (some ⟨gn, 0, none⟩)]) :: s17 :: s18 :: s19 :: (.slice A1 fl c1) :: (.slice A2 wl c2) :: (.pointer (some ⟨gs, 0, none⟩)) :: (.int .i64 E) :: (.int .i64 F) :: s25 :: (.int .i64 M0) :: (.int .i64 M1) :: s28 :: s29 :: s30 :: s31 :: s32 :: s33 :: s34 :: s35 :: s36 :: s37 :: s38 :: s39 :: s40 :: s41 :: s42 :: s43 :: s44 :: s45 :: s46 :: s47 :: s48 :: s49 :: s50 :: s51 :: s52 :: s53 :: s54 :: s55 :: s56 :: s57 :: s58 :: s59 :: s60 :: s61 :: s62 :: s63 :: s64 :: s65 :: s66 :: s67 :: s68 :: s69 :: s70 :: s71 :: s72 :: s73 :: s74 :: s75 :: s76 :: s77 :: s78 :: s79 :: s80 :: s81 :: s82 :: s83 :: s84 :: s85 :: s86 :: s87 :: s88 :: s89 :: s90 :: s91 :: s92 :: s93 :: s94 :: s95 :: s96 :: s97 :: s98 :: s99 :: s100 :: s101 :: s102 :: s103 :: s104 :: s105 :: s106 :: s107 :: s108 :: s109 :: s110 :: s111 :: s112 :: s113 :: s114 :: s115 :: s116 :: s117 :: s118 :: s119 :: s120 :: s121 :: s122 :: s123 :: s124 :: s125 :: s126 :: s127 :: s128 :: s129 :: s130 :: s131 :: s132 :: s133 :: s134 :: s135 :: s136 :: s137 :: s138 :: s139 :: s140 :: s141 :: s142 :: s143 :: s144 :: s145 :: s146 :: s147 :: s148 :: s149 :: s150 :: s151 :: s152 :: s153 :: s154 :: s155 :: s156 :: s157 :: s158 :: s159 :: s160 :: s161 :: s162 :: s163 :: s164 :: s165 :: s166 :: s167 :: s168 :: s169 :: s170 :: s171 :: s172 :: s173 :: s174 :: s175 :: s176 :: s177 :: s178 :: s179 :: s180 :: s181 :: s182 :: s183 :: s184 :: s185 :: s186 :: s187 :: s188 :: s189 :: s190 :: s191 :: s192 :: s193 :: s194 :: s195 :: s196 :: s197 :: s198 :: s199 :: s200 :: s201 :: s202 :: s203 :: s204 :: s205 :: s206 :: s207 :: s208 :: s209 :: s210 :: s211 :: s212 :: s213 :: s214 :: s215 :: s216 :: s217 :: s218 :: s219 :: s220 :: s221 :: s222 :: s223 :: s224 :: s225 :: s226 :: s227 :: s228 :: s229 :: s230 :: s231 :: s232 :: s233 :: s234 :: s235 :: s236 :: s237 :: s238 :: s239 :: s240 :: s241 :: s242 :: s243 :: s244 :: s245 :: s246 :: s247 :: s248 :: s249 :: s250 :: s251 :: s252 :: s253 :: s254 :: s255 :: s256 :: s257 :: s258 :: s259 :: s260 :: s261 :: s262 :: s263 :: s264 :: s265 :: s266 :: s267 :: s268 :: s269 :: s270 :: s271 :: s272 :: s273 :: s274 :: s275 :: s276 :: s277 :: s278 :: s279 :: s280 :: s281 :: s282 :: s283 :: s284 :: s285 :: s286 :: s287 :: s288 :: s289 :: s290 :: s291 :: s292 :: s293 :: s294 :: s295 :: s296 :: s297 :: s298 :: s299 :: s300 :: s301 :: s302 :: s303 :: s304 :: s305 :: s306 :: s307 :: s308 :: s309 :: s310 :: s311 :: s312 :: s313 :: s314 :: s315 :: s316 :: s317 :: s318 :: s319 :: s320 :: s321 :: s322 :: s323 :: s324 :: s325 :: s326 :: s327 :: s328 :: s329 :: s330 :: s331 :: s332 :: s333 :: s334 :: s335 :: s336 :: s337 :: s338 :: s339 :: s340 :: s341 :: s342 :: s343 :: s344 :: s345 :: s346 :: s347 :: s348 :: s349 :: s350 :: s351 :: s352 :: s353 :: s354 :: s355 :: s356 :: s357 :: s358 :: s359 :: s360 :: s361 :: s362 :: s363 :: s364 :: s365 :: s366 :: s367 :: s368 :: s369 :: s370 :: s371 :: s372 :: s373 :: s374 :: s375 :: s376 :: s377 :: s378 :: s379 :: s380 :: s381 :: s382 :: s383 :: s384 :: s385 :: s386 :: s387 :: s388 :: s389 :: s390 :: s391 :: s392 :: s393 :: s394 :: s395 :: s396 :: s397 :: s398 :: s399 :: s400 :: s401 :: s402 :: []).toArray, []⟩ K := by
  conv => arg 2; whnf
  have HC := Lib.hid hC
  have HV := Lib.hid hv
  have HE := Lib.hid hE
  have HXI := Lib.hid hX
  have HYI := Lib.hid hY
  have HFX := Lib.hid hFx
  have HFY := Lib.hid hFy
  have HZ := Lib.hid hz
  have HT := Lib.hid ht
  have HTP := Lib.hid hT
  have HNB := Lib.hid hn
  have HS := Lib.hid hs
  have HSW := Lib.hid hS
  have HSF := Lib.hid hSF
  have HFF := Lib.hid hFF
  have HM := Lib.hid hM
  have HM0 : Hid (E = 0 → pops (planP p) = M0) := fun h0 => by
    have h := hM
    rw [mostR, if_pos (hE.trans h0)] at h
    simp only [Value.tuple.injEq, Array.mk.injEq, List.cons.injEq, Value.int.injEq, true_and] at h
    exact h.1
  obtain ⟨x0, x1, x2, x3, x4, xl'⟩ := boxC_cells hx
  obtain ⟨y0, y1, y2, y3, y4, yl'⟩ := boxC_cells hy
  obtain ⟨V, hV⟩ : ∃ V, V = K.alloc (.cells #[.slice fa fl fc, .int .i64 low, .int .i64 top, .int .i64 bales, .slice xa xl xc, .slice ya fl yc, .int .i64 low, .int .i64 top, .int .i64 bales, .slice wa wl wp] 25) := ⟨_, rfl⟩
  have HROW : Hid (Blk V K.heap.size 25 #[.slice fa fl fc, .int .i64 low, .int .i64 top, .int .i64 bales, .slice xa xl xc, .slice ya fl yc, .int .i64 low, .int .i64 top, .int .i64 bales, .slice wa wl wp]) := by rw [hV]; exact Blk.new K 25 _
  have HBV : Hid (Below K.heap.size K V) := by rw [hV]; exact (Below.refl _ _).alloc (Nat.le_refl _) _
  clear hC hv hE hx hX hFx hy hY hFy hz ht hT hn hs hS hSF hFF hM
  go_wp2
  rw [← hV]
  clear hV x0 x1 x2 x3 x4 xl' y0 y1 y2 y3 y4 yl'
  rename ∀ a w, Code.wp Try.prog (moreTail 16) _ a w → _ => hKT
  have HKT := Lib.hid hKT
  clear hKT
  go_loopw [208] (fun i wr => ∃ k : Nat, k ≤ 2 ∧ i = .int .i64 k ∧ Hid (Below K.heap.size K wr) ∧ Hid (Blk wr K.heap.size 25 #[.slice fa fl fc, .int .i64 low, .int .i64 top, .int .i64 bales, .slice xa xl xc, .slice ya fl yc, .int .i64 low, .int .i64 top, .int .i64 bales, .slice wa wl wp])) (fun i _ => 2 - (intOf i).toNat)
  case atStart => exact ⟨0, by omega, rfl, HBV, HROW⟩
  case round =>
    obtain ⟨k, hk, rfl, HB, HR⟩ := hrel
    by_cases hlt : k < 2
    · go_upto_block 5 with (fail)
      rename ∀ a w, Code.wp Try.prog (Code.region 38 _ _) _ a w → _ => hKR
      have HKR := Lib.hid hKR
      clear hKR
      have fin : ∀ wd, Below wr.heap.size wr wd → Hid (Below K.heap.size K wd) ∧ Hid (Blk wd K.heap.size 25 #[.slice fa fl fc, .int .i64 low, .int .i64 top, .int .i64 bales, .slice xa xl xc, .slice ya fl yc, .int .i64 low, .int .i64 top, .int .i64 bales, .slice wa wl wp]) := fun wd hb => ⟨HB.out.trans (hb.mono HB.out.size), HR.out.below hb HR.out.lt⟩
      have HFIN := Lib.hid fin
      clear fin
      have h01 : k = 0 ∨ k = 1 := by omega
      rcases h01 with rfl | rfl
      · refine more_round (j := 0) HFX.out HV.out HE.out HSW.out HSF.out HFF.out HM0.out (HXI.out.grow HB.out) (HS.out.below HB.out HS.out.lt) (by omega) (HR.out.cell 0) (HR.out.cell 1) (HR.out.cell 2) (HR.out.cell 3) (HR.out.cell 4) (Lib.hid ?_)
        intro v30 v31 v32 v33 v34 v35 v36 v37 v210 v211 v212 v213 v214 v215 v216 v217 v218 v219 v220 v221 v222 v223 v224 v225 v226 v227 v228 v229 v230 v231 v232 v233 v234 v235 v236 v237 v238 v239 v240 v241 v242 v243 v244 v245 v246 v247 v248 v249 v250 v251 v252 v253 v254 v255 v256 v257 v258 v259 v260 v261 v262 v263 v264 v265 v266 v267 v268 v269 v270 v271 v272 v273 v274 v275 v276 v277 v278 v279 v280 v281 v282 v283 v284 wd hb
        have HQ := Lib.hid (HFIN.out wd hb)
        clear hb
        refine HKR.out _ _ ?_
        go_wp2
        go_roundw
        case rel => exact ⟨1, by omega, rfl, HQ.out.1, HQ.out.2⟩
        case measure => simp [intOf]
      · refine more_round (j := 1) HFY.out HV.out HE.out HSW.out HSF.out HFF.out HM0.out (HYI.out.grow HB.out) (HS.out.below HB.out HS.out.lt) (by omega) (HR.out.cell 5) (HR.out.cell 6) (HR.out.cell 7) (HR.out.cell 8) (HR.out.cell 9) (Lib.hid ?_)
        intro v30 v31 v32 v33 v34 v35 v36 v37 v210 v211 v212 v213 v214 v215 v216 v217 v218 v219 v220 v221 v222 v223 v224 v225 v226 v227 v228 v229 v230 v231 v232 v233 v234 v235 v236 v237 v238 v239 v240 v241 v242 v243 v244 v245 v246 v247 v248 v249 v250 v251 v252 v253 v254 v255 v256 v257 v258 v259 v260 v261 v262 v263 v264 v265 v266 v267 v268 v269 v270 v271 v272 v273 v274 v275 v276 v277 v278 v279 v280 v281 v282 v283 v284 wd hb
        have HQ := Lib.hid (HFIN.out wd hb)
        clear hb
        refine HKR.out _ _ ?_
        go_wp2
        go_roundw
        case rel => exact ⟨2, by omega, rfl, HQ.out.1, HQ.out.2⟩
        case measure => simp [intOf]
    · obtain rfl : k = 2 := by omega
      go_wp2_with fail
      exact HKT.out _ _ (more_t16 (HC.out.below HB.out) hwl hfl HV.out HE.out (HZ.out.below HB.out HZ.out.lt) (HT.out.below HB.out HT.out.lt) (HTP.out.grow HB.out) (HNB.out.below HB.out HNB.out.lt) (HS.out.below HB.out HS.out.lt) HSW.out HSF.out HM.out)
end
end Go.Proofs.Ytbfjebglaimcmaa
namespace Go.Proofs.Ytbfjebglaimcmaa
open Go.RowKit Go.Hav
section
variable {w K : World} {b gx gy gz gt gn s : Nat} {fa wa xa ya ta ua A1 A2 : Option Addr} {fl fc wl wp c1 c2 tc uc xl xc yc : Nat} {low top bales : Int} {p px py : PressD}
set_option maxRecDepth 100000 in
set_option maxHeartbeats 6400000 in
theorem more_t11 (hC : MoreC w K b fa fl fc low top bales wa wl wp p A1 A2) (hwl : wl ≤ 100) (hfl : fl ≤ 100) (hv : p.ok = true)
    (hx : Blk K gx 25 (boxC fa fl fc low top bales xa xl xc)) (hX : PressIn K K.heap.size fa fl low top bales xa xl px) (hFx : PressD.Finer p px)
    (hy : Blk K gy 25 (boxC ya fl yc low top bales wa wl wp)) (hY : PressIn K K.heap.size ya fl low top bales wa wl py) (hFy : PressD.Finer p py)
    (hz : Blk K gz 25 (boxC fa fl fc low top (min 5 (p.bales + 1)) wa wl wp)) (ht : Blk K gt 25 (boxC ta fl tc low top bales ua wl uc)) (hT : PressIn K K.heap.size ta fl low top bales ua wl p.turnP)
    (hn : Blk K gn 3 #[.int .i64 fl]) (hSF : s ≤ full p.n) {s0 s1 s2 s3 s5 s6 s7 s8 s9 s15 s17 s18 s19 s22 s23 s24 s25 s26 s27 s28 s29 s30 s31 s32 s33 s34 s35 s36 s37 s38 s39 s40 s41 s42 s43 s44 s45 s46 s47 s48 s49 s50 s51 s52 s53 s54 s55 s56 s57 s58 s59 s60 s61 s62 s63 s64 s65 s66 s67 s68 s69 s70 s71 s72 s73 s74 s75 s76 s77 s78 s79 s80 s81 s82 s83 s84 s85 s86 s87 s88 s89 s90 s91 s92 s93 s94 s95 s96 s97 s98 s99 s100 s101 s102 s103 s104 s105 s106 s107 s108 s109 s110 s111 s112 s113 s114 s115 s116 s117 s118 s119 s120 s121 s122 s123 s124 s125 s126 s127 s128 s129 s130 s131 s132 s133 s134 s135 s136 s137 s138 s139 s140 s141 s142 s143 s144 s145 s146 s147 s148 s149 s150 s151 s152 s153 s154 s155 s156 s157 s158 s159 s160 s161 s162 s163 s164 s165 s166 s167 s168 s169 s170 s171 s172 s173 s174 s175 s176 s177 s178 s179 s180 s181 s182 s183 s184 s185 s186 s187 s188 s189 s190 s191 s192 s193 s194 s195 s196 s197 s198 s199 s200 s201 s202 s203 s204 s205 s206 s207 s208 s209 s210 s211 s212 s213 s214 s215 s216 s217 s218 s219 s220 s221 s222 s223 s224 s225 s226 s227 s228 s229 s230 s231 s232 s233 s234 s235 s236 s237 s238 s239 s240 s241 s242 s243 s244 s245 s246 s247 s248 s249 s250 s251 s252 s253 s254 s255 s256 s257 s258 s259 s260 s261 s262 s263 s264 s265 s266 s267 s268 s269 s270 s271 s272 s273 s274 s275 s276 s277 s278 s279 s280 s281 s282 s283 s284 s285 s286 s287 s288 s289 s290 s291 s292 s293 s294 s295 s296 s297 s298 s299 s300 s301 s302 s303 s304 s305 s306 s307 s308 s309 s310 s311 s312 s313 s314 s315 s316 s317 s318 s319 s320 s321 s322 s323 s324 s325 s326 s327 s328 s329 s330 s331 s332 s333 s334 s335 s336 s337 s338 s339 s340 s341 s342 s343 s344 s345 s346 s347 s348 s349 s350 s351 s352 s353 s354 s355 s356 s357 s358 s359 s360 s361 s362 s363 s364 s365 s366 s367 s368 s369 s370 s371 s372 s373 s374 s375 s376 s377 s378 s379 s380 s381 s382 s383 s384 s385 s386 s387 s388 s389 s390 s391 s392 s393 s394 s395 s396 s397 s398 s399 s400 s401 s402 : Value} :
    Code.wp Try.prog (moreTail 11) (bodyPost Try.prog Try.f10 fun e w' => e = .returned (.bool true) ∧ Below w.heap.size w w') ⟨(s0 :: s1 :: s2 :: s3 :: (.pointer (some ⟨b, 0, none⟩)) :: s5 :: s6 :: s7 :: s8 :: s9 :: (.int .i64 (s : Nat)) :: (.pointer (some ⟨gx, 0, none⟩)) :: (.pointer (some ⟨gy, 0, none⟩)) :: (.pointer (some ⟨gz, 0, none⟩)) :: (.pointer (some ⟨gt, 0, none⟩)) :: s15 :: (.func (.func 43) #[] #[.pointer (some ⟨gn, 0, none⟩)]) :: s17 :: s18 :: s19 :: (.slice A1 fl c1) :: (.slice A2 wl c2) :: s22 :: s23 :: s24 :: s25 :: s26 :: s27 :: s28 :: s29 :: s30 :: s31 :: s32 :: s33 :: s34 :: s35 :: s36 :: s37 :: s38 :: s39 :: s40 :: s41 :: s42 :: s43 :: s44 :: s45 :: s46 :: s47 :: s48 :: s49 :: s50 :: s51 :: s52 :: s53 :: s54 :: s55 :: s56 :: s57 :: s58 :: s59 :: s60 :: s61 :: s62 :: s63 :: s64 :: s65 :: s66 :: s67 :: s68 :: s69 :: s70 :: s71 :: s72 :: s73 :: s74 :: s75 :: s76 :: s77 :: s78 :: s79 :: s80 :: s81 :: s82 :: s83 :: s84 :: s85 :: s86 :: s87 :: s88 :: s89 :: s90 :: s91 :: s92 :: s93 :: s94 :: s95 :: s96 :: s97 :: s98 :: s99 :: s100 :: s101 :: s102 :: s103 :: s104 :: s105 :: s106 :: s107 :: s108 :: s109 :: s110 :: s111 :: s112 :: s113 :: s114 :: s115 :: s116 :: s117 :: s118 :: s119 :: s120 :: s121 :: s122 :: s123 :: s124 :: s125 :: s126 :: s127 :: s128 :: s129 :: s130 :: s131 :: s132 :: s133 :: s134 :: s135 :: s136 :: s137 :: s138 :: s139 :: s140 :: s141 :: s142 :: s143 :: s144 :: s145 :: s146 :: s147 :: s148 :: s149 :: s150 :: s151 :: s152 :: s153 :: s154 :: s155 :: s156 :: s157 :: s158 :: s159 :: s160 :: s161 :: s162 :: s163 :: s164 :: s165 :: s166 :: s167 :: s168 :: s169 :: s170 :: s171 :: s172 :: s173 :: s174 :: s175 :: s176 :: s177 :: s178 :: s179 :: s180 :: s181 :: s182 :: s183 :: s184 :: s185 :: s186 :: s187 :: s188 :: s189 :: s190 :: s191 :: s192 :: s193 :: s194 :: s195 :: s196 :: s197 :: s198 :: s199 :: s200 :: s201 :: s202 :: s203 :: s204 :: s205 :: s206 :: s207 :: s208 :: s209 :: s210 :: s211 :: s212 :: s213 :: s214 :: s215 :: s216 :: s217 :: s218 :: s219 :: s220 :: s221 :: s222 :: s223 :: s224 :: s225 :: s226 :: s227 :: s228 :: s229 :: s230 :: s231 :: s232 :: s233 :: s234 :: s235 :: s236 :: s237 :: s238 :: s239 :: s240 :: s241 :: s242 :: s243 :: s244 :: s245 :: s246 :: s247 :: s248 :: s249 :: s250 :: s251 :: s252 :: s253 :: s254 :: s255 :: s256 :: s257 :: s258 :: s259 :: s260 :: s261 :: s262 :: s263 :: s264 :: s265 :: s266 :: s267 :: s268 :: s269 :: s270 :: s271 :: s272 :: s273 :: s274 :: s275 :: s276 :: s277 :: s278 :: s279 :: s280 :: s281 :: s282 :: s283 :: s284 :: s285 :: s286 :: s287 :: s288 :: s289 :: s290 :: s291 :: s292 :: s293 :: s294 :: s295 :: s296 :: s297 :: s298 :: s299 :: s300 :: s301 :: s302 :: s303 :: s304 :: s305 :: s306 :: s307 :: s308 :: s309 :: s310 :: s311 :: s312 :: s313 :: s314 :: s315 :: s316 :: s317 :: s318 :: s319 :: s320 :: s321 :: s322 :: s323 :: s324 :: s325 :: s326 :: s327 :: s328 :: s329 :: s330 :: s331 :: s332 :: s333 :: s334 :: s335 :: s336 :: s337 :: s338 :: s339 :: s340 :: s341 :: s342 :: s343 :: s344 :: s345 :: s346 :: s347 :: s348 :: s349 :: s350 :: s351 :: s352 :: s353 :: s354 :: s355 :: s356 :: s357 :: s358 :: s359 :: s360 :: s361 :: s362 :: s363 :: s364 :: s365 :: s366 :: s367 :: s368 :: s369 :: s370 :: s371 :: s372 :: s373 :: s374 :: s375 :: s376 :: s377 :: s378 :: s379 :: s380 :: s381 :: s382 :: s383 :: s384 :: s385 :: s386 :: s387 :: s388 :: s389 :: s390 :: s391 :: s392 :: s393 :: s394 :: s395 :: s396 :: s397 :: s398 :: s399 :: s400 :: s401 :: s402 :: []).toArray, []⟩ K := by
  conv => arg 2; whnf
  have HC := Lib.hid hC
  have HV := Lib.hid hv
  have HX := Lib.hid hx
  have HY := Lib.hid hy
  have HXI := Lib.hid hX
  have HYI := Lib.hid hY
  have HFX := Lib.hid hFx
  have HFY := Lib.hid hFy
  have HZ := Lib.hid hz
  have HT := Lib.hid ht
  have HTP := Lib.hid hT
  have HNB := Lib.hid hn
  have HSF := Lib.hid hSF
  obtain ⟨E, hE⟩ : ∃ E, planE p = E := ⟨_, rfl⟩
  obtain ⟨⟨lo, hi⟩, hS⟩ : ∃ sp, weightR p s = sp := ⟨_, rfl⟩
  have hse : setE p (s : Nat) = E := by rw [setE_ok hv hSF, ← hE, planE_ok hv]
  obtain ⟨F, hF⟩ : ∃ F, (if setE p (s : Nat) = 0 then p.fits s else 0) = F := ⟨_, rfl⟩
  obtain ⟨M0, M1, hM, -⟩ := most_ex p
  rw [hE] at hM
  have HFF : Hid (E = 0 → p.fits s = F) := fun h0 => by rw [← hF, hse, if_pos h0]
  have HE := Lib.hid hE
  have HSW := Lib.hid hS
  have HSE := Lib.hid hse
  have HFV := Lib.hid hF
  have HM := Lib.hid hM
  obtain ⟨x0, x1, x2, x3, x4, xl'⟩ := boxC_cells hC.box
  clear hC hv hx hX hFx hy hY hFy hz ht hT hn hSF hE hS hse hF hM
  go_wp2_with fail
  refine (PWeight_any (p := p) (s : Nat) K (by exact HC.out.hp)).mono ?_
  rw [HSE.out, HSW.out]
  unfold spV
  rintro e v2 ⟨rfl, hb2⟩
  obtain ⟨V2, hV2⟩ : ∃ V, V = v2.alloc (.cells #[.int .i64 lo, .int .i64 hi] 29) := ⟨_, rfl⟩
  have HS2 : Hid (Blk V2 v2.heap.size 29 #[.int .i64 lo, .int .i64 hi]) := by rw [hV2]; exact Blk.new v2 29 _
  have HB2 : Hid (Below K.heap.size K V2) := by rw [hV2]; exact hb2.alloc hb2.size _
  have HC2 := Lib.hid (HC.out.below HB2.out)
  clear x0 x1 x2 x3 x4 xl'
  go_upto_region 25 with fail
  rw [← hV2]
  clear hV2 hb2
  obtain ⟨x0, x1, x2, x3, x4, xl'⟩ := boxC_cells HC2.out.box
  go_wp2_with fail
  refine (PFits_any (p := p) (s : Nat) V2 (by exact HC2.out.hp)).mono ?_
  rw [Int.toNat_natCast, HFV.out, HSE.out]
  rintro e v3 ⟨rfl, hb3⟩
  have HB3 : Hid (Below K.heap.size K v3) := HB2.out.trans (hb3.mono HB2.out.size)
  have HC3 := Lib.hid (HC2.out.below hb3)
  have HS3 := Lib.hid (HS2.out.below hb3 HS2.out.lt)
  clear hb3 x0 x1 x2 x3 x4 xl'
  obtain ⟨x0, x1, x2, x3, x4, xl'⟩ := boxC_cells HC3.out.box
  go_wp2_with fail
  refine (PMost_any (p := p) v3 (by exact HC3.out.hp)).mono ?_
  rw [HM.out]
  rintro e v4 ⟨rfl, hb4⟩
  have HB4 : Hid (Below K.heap.size K v4) := HB3.out.trans (hb4.mono HB3.out.size)
  have HC4 := Lib.hid (HC3.out.below hb4)
  have HS4 := Lib.hid (HS3.out.below hb4 HS3.out.lt)
  clear hb4 x0 x1 x2 x3 x4 xl'
  go_upto_region 27 with fail
  rename ∀ a w, Code.wp Try.prog (moreTail 15) _ a w → _ => hKU
  have HKU := Lib.hid hKU
  clear hKU
  go_wp2_with fail
  exact HKU.out _ _ (more_t15 HC4.out hwl hfl HV.out HE.out (HX.out.below HB4.out HX.out.lt) (HXI.out.grow HB4.out) HFX.out (HY.out.below HB4.out HY.out.lt) (HYI.out.grow HB4.out) HFY.out (HZ.out.below HB4.out HZ.out.lt) (HT.out.below HB4.out HT.out.lt) (HTP.out.grow HB4.out) (HNB.out.below HB4.out HNB.out.lt) HS4.out HSW.out HSF.out HFF.out HM.out)
end
end Go.Proofs.Ytbfjebglaimcmaa
