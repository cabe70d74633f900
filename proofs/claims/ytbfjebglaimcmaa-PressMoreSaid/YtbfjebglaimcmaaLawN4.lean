/- PressMore's third loop: a press that is known better. Conditions: what the boxes hold, as hypotheses. -/
import Derived.Test.YtbfjebglaimcmaaLawN3
namespace Go.Proofs.Ytbfjebglaimcmaa
open Go.RowKit Go.Hav
/-- What a press that is known better returns. -/
theorem finer_facts {p q : PressD} (hF : PressD.Finer p q) (hv : p.ok = true) (hq : q.ok = true) {s : Nat} (hs : s ≤ full p.n) (h0 : planE q = 0) :
    planE p = 0 ∧ (weightR p s).lo ≤ (weightR q s).lo ∧ (weightR q s).hi ≤ (weightR p s).hi ∧ (p.fits s ≠ 1 → q.fits s = p.fits s) ∧ pops (planP p) ≤ pops (planP q) := by
  have hw : q.wrong = 0 := by
    rw [planE_ok hq] at h0
    by_cases h : q.wrong = 0
    · exact h
    · rw [if_neg h] at h0; omega
  have hp := hF.right hv hq hw
  have e0 : planE p = 0 := by rw [planE_ok hv, if_pos hp]
  have e1 : setE p (s : Nat) = 0 := by rw [setE_ok hv hs, if_pos hp]
  have e2 : setE q (s : Nat) = 0 := by rw [setE_ok hq (by rw [hF.n]; exact hs), if_pos hw]
  unfold weightR
  rw [e1, e2, if_pos rfl, if_pos rfl, Int.toNat_natCast]
  have h1 := hF.weight hv hq hw s
  exact ⟨e0, h1.1, h1.2, fun h => hF.fits hv hq hw h, hF.best hv hq hw⟩
/-- The block of a round. -/
noncomputable def moreRound : Code := headSeq (dropSeq 2 (innerC (innerC (tailSeq (headSeq (moreTail 15))))))
section
variable {K : World} {gr gs s j vl vc vm vk : Nat} {va vb : Option Addr} {low top vbal E lo hi M0 F : Int} {p q : PressD}
set_option maxRecDepth 100000 in
set_option maxHeartbeats 6400000 in
theorem more_round (hF : PressD.Finer p q) (hv : p.ok = true) (hE : planE p = E) (hS : weightR p s = ⟨lo, hi⟩) (hSF : s ≤ full p.n) (hFF : E = 0 → p.fits s = F) (hM : E = 0 → pops (planP p) = M0)
    (hq : PressIn K K.heap.size va vl low top vbal vb vm q) (hs : Blk K gs 29 #[.int .i64 lo, .int .i64 hi]) (hj : j < 2)
    (k0 : K.cell? ⟨gr, j * 5, none⟩ = some (.slice va vl vc)) (k1 : K.cell? ⟨gr, j * 5 + 1, none⟩ = some (.int .i64 low)) (k2 : K.cell? ⟨gr, j * 5 + 2, none⟩ = some (.int .i64 top)) (k3 : K.cell? ⟨gr, j * 5 + 3, none⟩ = some (.int .i64 vbal)) (k4 : K.cell? ⟨gr, j * 5 + 4, none⟩ = some (.slice vb vm vk))
    {Q : Exit → Act → World → Prop} {s0 s1 s2 s3 s4 s5 s6 s7 s8 s9 s11 s12 s13 s14 s15 s16 s17 s18 s19 s20 s21 s25 s27 s28 s29 s30 s31 s32 s33 s34 s35 s36 s37 s38 s39 s40 s41 s42 s43 s44 s45 s46 s47 s48 s49 s50 s51 s52 s53 s54 s55 s56 s57 s58 s59 s60 s61 s62 s63 s64 s65 s66 s67 s68 s69 s70 s71 s72 s73 s74 s75 s76 s77 s78 s79 s80 s81 s82 s83 s84 s85 s86 s87 s88 s89 s90 s91 s92 s93 s94 s95 s96 s97 s98 s99 s100 s101 s102 s103 s104 s105 s106 s107 s108 s109 s110 s111 s112 s113 s114 s115 s116 s117 s118 s119 s120 s121 s122 s123 s124 s125 s126 s127 s128 s129 s130 s131 s132 s133 s134 s135 s136 s137 s138 s139 s140 s141 s142 s143 s144 s145 s146 s147 s148 s149 s150 s151 s152 s153 s154 s155 s156 s157 s158 s159 s160 s161 s162 s163 s164 s165 s166 s167 s168 s169 s170 s171 s172 s173 s174 s175 s176 s177 s178 s179 s180 s181 s182 s183 s184 s185 s186 s187 s188 s189 s190 s191 s192 s193 s194 s195 s196 s197 s198 s199 s200 s201 s202 s203 s204 s205 s207 s209 s210 s211 s212 s213 s214 s215 s216 s217 s218 s219 s220 s221 s222 s223 s224 s225 s226 s227 s228 s229 s230 s231 s232 s233 s234 s235 s236 s237 s238 s239 s240 s241 s242 s243 s244 s245 s246 s247 s248 s249 s250 s251 s252 s253 s254 s255 s256 s257 s258 s259 s260 s261 s262 s263 s264 s265 s266 s267 s268 s269 s270 s271 s272 s273 s274 s275 s276 s277 s278 s279 s280 s281 s282 s283 s284 s285 s286 s287 s288 s289 s290 s291 s292 s293 s294 s295 s296 s297 s298 s299 s300 s301 s302 s303 s304 s305 s306 s307 s308 s309 s310 s311 s312 s313 s314 s315 s316 s317 s318 s319 s320 s321 s322 s323 s324 s325 s326 s327 s328 s329 s330 s331 s332 s333 s334 s335 s336 s337 s338 s339 s340 s341 s342 s343 s344 s345 s346 s347 s348 s349 s350 s351 s352 s353 s354 s355 s356 s357 s358 s359 s360 s361 s362 s363 s364 s365 s366 s367 s368 s369 s370 s371 s372 s373 s374 s375 s376 s377 s378 s379 s380 s381 s382 s383 s384 s385 s386 s387 s388 s389 s390 s391 s392 s393 s394 s395 s396 s397 s398 s399 s400 s401 s402 : Value}
    (HQ : Hid (∀ (u30 u31 u32 u33 u34 u35 u36 u37 u210 u211 u212 u213 u214 u215 u216 u217 u218 u219 u220 u221 u222 u223 u224 u225 u226 u227 u228 u229 u230 u231 u232 u233 u234 u235 u236 u237 u238 u239 u240 u241 u242 u243 u244 u245 u246 u247 u248 u249 u250 u251 u252 u253 u254 u255 u256 u257 u258 u259 u260 u261 u262 u263 u264 u265 u266 u267 u268 u269 u270 u271 u272 u273 u274 u275 u276 u277 u278 u279 u280 u281 u282 u283 u284 : Value) (w' : World), Below K.heap.size K w' → Q .normal ⟨(s0 :: s1 :: s2 :: s3 :: s4 :: s5 :: s6 :: s7 :: s8 :: s9 :: (.int .i64 (s : Nat)) :: s11 :: s12 :: s13 :: s14 :: s15 :: s16 :: s17 :: s18 :: s19 :: s20 :: s21 :: (.pointer (some ⟨gs, 0, none⟩)) :: (.int .i64 E) :: (.int .i64 F) :: s25 :: (.int .i64 M0) :: s27 :: s28 :: s29 :: u30 :: u31 :: u32 :: u33 :: u34 :: u35 :: u36 :: u37 :: s38 :: s39 :: s40 :: s41 :: s42 :: s43 :: s44 :: s45 :: s46 :: s47 :: s48 :: s49 :: s50 :: s51 :: s52 :: s53 :: s54 :: s55 :: s56 :: s57 :: s58 :: s59 :: s60 :: s61 :: s62 :: s63 :: s64 :: s65 :: s66 :: s67 :: s68 :: s69 :: s70 :: s71 :: s72 :: s73 :: s74 :: s75 :: s76 :: s77 :: s78 :: s79 :: s80 :: s81 :: s82 :: s83 :: s84 :: s85 :: s86 :: s87 :: s88 :: s89 :: s90 :: s91 :: s92 :: s93 :: s94 :: s95 :: s96 :: s97 :: s98 :: s99 :: s100 :: s101 :: s102 :: s103 :: s104 :: s105 :: s106 :: s107 :: s108 :: s109 :: s110 :: s111 :: s112 :: s113 :: s114 :: s115 :: s116 :: s117 :: s118 :: s119 :: s120 :: s121 :: s122 :: s123 :: s124 :: s125 :: s126 :: s127 :: s128 :: s129 :: s130 :: s131 :: s132 :: s133 :: s134 :: s135 :: s136 :: s137 :: s138 :: s139 :: s140 :: s141 :: s142 :: s143 :: s144 :: s145 :: s146 :: s147 :: s148 :: s149 :: s150 :: s151 :: s152 :: s153 :: s154 :: s155 :: s156 :: s157 :: s158 :: s159 :: s160 :: s161 :: s162 :: s163 :: s164 :: s165 :: s166 :: s167 :: s168 :: s169 :: s170 :: s171 :: s172 :: s173 :: s174 :: s175 :: s176 :: s177 :: s178 :: s179 :: s180 :: s181 :: s182 :: s183 :: s184 :: s185 :: s186 :: s187 :: s188 :: s189 :: s190 :: s191 :: s192 :: s193 :: s194 :: s195 :: s196 :: s197 :: s198 :: s199 :: s200 :: s201 :: s202 :: s203 :: s204 :: s205 :: (.slice (some ⟨gr, 0, none⟩) 2 2) :: s207 :: (.int .i64 (j : Nat)) :: s209 :: u210 :: u211 :: u212 :: u213 :: u214 :: u215 :: u216 :: u217 :: u218 :: u219 :: u220 :: u221 :: u222 :: u223 :: u224 :: u225 :: u226 :: u227 :: u228 :: u229 :: u230 :: u231 :: u232 :: u233 :: u234 :: u235 :: u236 :: u237 :: u238 :: u239 :: u240 :: u241 :: u242 :: u243 :: u244 :: u245 :: u246 :: u247 :: u248 :: u249 :: u250 :: u251 :: u252 :: u253 :: u254 :: u255 :: u256 :: u257 :: u258 :: u259 :: u260 :: u261 :: u262 :: u263 :: u264 :: u265 :: u266 :: u267 :: u268 :: u269 :: u270 :: u271 :: u272 :: u273 :: u274 :: u275 :: u276 :: u277 :: u278 :: u279 :: u280 :: u281 :: u282 :: u283 :: u284 :: s285 :: s286 :: s287 :: s288 :: s289 :: s290 :: s291 :: s292 :: s293 :: s294 :: s295 :: s296 :: s297 :: s298 :: s299 :: s300 :: s301 :: s302 :: s303 :: s304 :: s305 :: s306 :: s307 :: s308 :: s309 :: s310 :: s311 :: s312 :: s313 :: s314 :: s315 :: s316 :: s317 :: s318 :: s319 :: s320 :: s321 :: s322 :: s323 :: s324 :: s325 :: s326 :: s327 :: s328 :: s329 :: s330 :: s331 :: s332 :: s333 :: s334 :: s335 :: s336 :: s337 :: s338 :: s339 :: s340 :: s341 :: s342 :: s343 :: s344 :: s345 :: s346 :: s347 :: s348 :: s349 :: s350 :: s351 :: s352 :: s353 :: s354 :: s355 :: s356 :: s357 :: s358 :: s359 :: s360 :: s361 :: s362 :: s363 :: s364 :: s365 :: s366 :: s367 :: s368 :: s369 :: s370 :: s371 :: s372 :: s373 :: s374 :: s375 :: s376 :: s377 :: s378 :: s379 :: s380 :: s381 :: s382 :: s383 :: s384 :: s385 :: s386 :: s387 :: s388 :: s389 :: s390 :: s391 :: s392 :: s393 :: s394 :: s395 :: s396 :: s397 :: s398 :: s399 :: s400 :: s401 :: s402 :: []).toArray, []⟩ w')) :
    Code.wp Try.prog moreRound Q ⟨(s0 :: s1 :: s2 :: s3 :: s4 :: s5 :: s6 :: s7 :: s8 :: s9 :: (.int .i64 (s : Nat)) :: s11 :: s12 :: s13 :: s14 :: s15 :: s16 :: s17 :: s18 :: s19 :: s20 :: s21 :: (.pointer (some ⟨gs, 0, none⟩)) :: (.int .i64 E) :: (.int .i64 F) :: s25 :: (.int .i64 M0) :: s27 :: s28 :: s29 :: s30 :: s31 :: s32 :: s33 :: s34 :: s35 :: s36 :: s37 :: s38 :: s39 :: s40 :: s41 :: s42 :: s43 :: s44 :: s45 :: s46 :: s47 :: s48 :: s49 :: s50 :: s51 :: s52 :: s53 :: s54 :: s55 :: s56 :: s57 :: s58 :: s59 :: s60 :: s61 :: s62 :: s63 :: s64 :: s65 :: s66 :: s67 :: s68 :: s69 :: s70 :: s71 :: s72 :: s73 :: s74 :: s75 :: s76 :: s77 :: s78 :: s79 :: s80 :: s81 :: s82 :: s83 :: s84 :: s85 :: s86 :: s87 :: s88 :: s89 :: s90 :: s91 :: s92 :: s93 :: s94 :: s95 :: s96 :: s97 :: s98 :: s99 :: s100 :: s101 :: s102 :: s103 :: s104 :: s105 :: s106 :: s107 :: s108 :: s109 :: s110 :: s111 :: s112 :: s113 :: s114 :: s115 :: s116 :: s117 :: s118 :: s119 :: s120 :: s121 :: s122 :: s123 :: s124 :: s125 :: s126 :: s127 :: s128 :: s129 :: s130 :: s131 :: s132 :: s133 :: s134 :: s135 :: s136 :: s137 :: s138 :: s139 :: s140 :: s141 :: s142 :: s143 :: s144 :: s145 :: s146 :: s147 :: s148 :: s149 :: s150 :: s151 :: s152 :: s153 :: s154 :: s155 :: s156 :: s157 :: s158 :: s159 :: s160 :: s161 :: s162 :: s163 :: s164 :: s165 :: s166 :: s167 :: s168 :: s169 :: s170 :: s171 :: s172 :: s173 :: s174 :: s175 :: s176 :: s177 :: s178 :: s179 :: s180 :: s181 :: s182 :: s183 :: s184 :: s185 :: s186 :: s187 :: s188 :: s189 :: s190 :: s191 :: s192 :: s193 :: s194 :: s195 :: s196 :: s197 :: s198 :: s199 :: s200 :: s201 :: s202 :: s203 :: s204 :: s205 :: (.slice (some ⟨gr, 0, none⟩) 2 2) :: s207 :: (.int .i64 (j : Nat)) :: s209 :: s210 :: s211 :: s212 :: s213 :: s214 :: s215 :: s216 :: s217 :: s218 :: s219 :: s220 :: s221 :: s222 :: s223 :: s224 :: s225 :: s226 :: s227 :: s228 :: s229 :: s230 :: s231 :: s232 :: s233 :: s234 :: s235 :: s236 :: s237 :: s238 :: s239 :: s240 :: s241 :: s242 :: s243 :: s244 :: s245 :: s246 :: s247 :: s248 :: s249 :: s250 :: s251 :: s252 :: s253 :: s254 :: s255 :: s256 :: s257 :: s258 :: s259 :: s260 :: s261 :: s262 :: s263 :: s264 :: s265 :: s266 :: s267 :: s268 :: s269 :: s270 :: s271 :: s272 :: s273 :: s274 :: s275 :: s276 :: s277 :: s278 :: s279 :: s280 :: s281 :: s282 :: s283 :: s284 :: s285 :: s286 :: s287 :: s288 :: s289 :: s290 :: s291 :: s292 :: s293 :: s294 :: s295 :: s296 :: s297 :: s298 :: s299 :: s300 :: s301 :: s302 :: s303 :: s304 :: s305 :: s306 :: s307 :: s308 :: s309 :: s310 :: s311 :: s312 :: s313 :: s314 :: s315 :: s316 :: s317 :: s318 :: s319 :: s320 :: s321 :: s322 :: s323 :: s324 :: s325 :: s326 :: s327 :: s328 :: s329 :: s330 :: s331 :: s332 :: s333 :: s334 :: s335 :: s336 :: s337 :: s338 :: s339 :: s340 :: s341 :: s342 :: s343 :: s344 :: s345 :: s346 :: s347 :: s348 :: s349 :: s350 :: s351 :: s352 :: s353 :: s354 :: s355 :: s356 :: s357 :: s358 :: s359 :: s360 :: s361 :: s362 :: s363 :: s364 :: s365 :: s366 :: s367 :: s368 :: s369 :: s370 :: s371 :: s372 :: s373 :: s374 :: s375 :: s376 :: s377 :: s378 :: s379 :: s380 :: s381 :: s382 :: s383 :: s384 :: s385 :: s386 :: s387 :: s388 :: s389 :: s390 :: s391 :: s392 :: s393 :: s394 :: s395 :: s396 :: s397 :: s398 :: s399 :: s400 :: s401 :: s402 :: []).toArray, []⟩ K := by
  conv => arg 2; whnf
  have HV := Lib.hid hv
  have HF := Lib.hid hF
  have HE := Lib.hid hE
  have HSP := Lib.hid hS
  have HSF := Lib.hid hSF
  have HFF := Lib.hid hFF
  have HM := Lib.hid hM
  have HQI := Lib.hid hq
  have HS := Lib.hid hs
  clear hF hv hE hS hSF hFF hM hq hs
  obtain ⟨W, hW⟩ : ∃ W, W = K.alloc (Obj.cells #[.slice va vl vc, .int .i64 low, .int .i64 top, .int .i64 vbal, .slice vb vm vk] 25) := ⟨_, rfl⟩
  have HX : Hid (Blk W K.heap.size 25 (boxC va vl vc low top vbal vb vm vk)) := by rw [hW]; exact Blk.new K 25 _
  have HBW : Hid (Below K.heap.size K W) := by rw [hW]; exact (Below.refl _ _).alloc (Nat.le_refl _) _
  go_upto_region 32 with fail
  rw [← hW]
  clear hW k0 k1 k2 k3 k4
  obtain ⟨x0, x1, x2, x3, x4, xl⟩ := boxC_cells HX.out
  go_wp2_with fail
  refine (rpress_any (p := q) W (by exact HQI.out.grow HBW.out)).mono ?_
  rintro e v1 ⟨rfl, hb1⟩
  have HB1 : Hid (Below K.heap.size K v1) := HBW.out.trans (hb1.mono HBW.out.size)
  have HX1 := Lib.hid (HX.out.below hb1 HX.out.lt)
  clear hb1 x0 x1 x2 x3 x4 xl
  cases hq : q.ok
  · clear hq
    go_wp2_with fail
    exact HQ.out _ _ _ _ _ _ _ _ _ _ _ _ _ _ _ _ _ _ _ _ _ _ _ _ _ _ _ _ _ _ _ _ _ _ _ _ _ _ _ _ _ _ _ _ _ _ _ _ _ _ _ _ _ _ _ _ _ _ _ _ _ _ _ _ _ _ _ _ _ _ _ _ _ _ _ _ _ _ _ _ _ _ _ _ HB1.out
  have HOK := Lib.hid hq
  clear hq
  obtain ⟨⟨ql, qh⟩, hqs⟩ : ∃ sp, weightR q s = sp := ⟨_, rfl⟩
  obtain ⟨m0, m1, hqm, -⟩ := most_ex q
  obtain ⟨G, hG⟩ : ∃ G, planE q = G := ⟨_, rfl⟩
  rw [hG] at hqm
  have hsq : setE q (s : Nat) = G := by rw [setE_ok HOK.out (by rw [HF.out.n]; exact HSF.out), ← hG, planE_ok HOK.out]
  obtain ⟨kq, hkq⟩ : ∃ kq, (if G = 0 then q.fits s else 0) = kq := ⟨_, rfl⟩
  have hgg : G = 10 ∨ (G = 0 ∧ E = 0 ∧ lo ≤ ql ∧ qh ≤ hi ∧ (F ≠ 1 → kq = F) ∧ M0 ≤ m0) := by
    by_cases h : G = 0
    · right
      obtain ⟨a1, a2, a3, a4, a5⟩ := finer_facts HF.out HV.out HOK.out HSF.out (hG.trans h)
      rw [HE.out] at a1
      rw [HSP.out, hqs] at a2 a3
      rw [HFF.out a1] at a4
      rw [HM.out a1] at a5
      have e : pops (planP q) = m0 := by
        rw [mostR, if_pos (hG.trans h)] at hqm
        simp only [Value.tuple.injEq, Array.mk.injEq, List.cons.injEq, Value.int.injEq, true_and] at hqm
        exact hqm.1
      rw [e] at a5
      rw [if_pos h] at hkq
      rw [hkq] at a4
      exact ⟨h, a1, a2, a3, a4, a5⟩
    · left
      rw [planE_ok HOK.out] at hG
      by_cases h2 : q.wrong = 0
      · rw [if_pos h2] at hG; exact absurd hG.symm h
      · rw [if_neg h2] at hG; exact hG.symm
  have HSQ := Lib.hid hsq
  have HQS := Lib.hid hqs
  have HQM := Lib.hid hqm
  have HKQ := Lib.hid hkq
  have HGG := Lib.hid hgg
  clear hsq hqs hqm hkq hgg hG
  obtain ⟨x0, x1, x2, x3, x4, xl⟩ := boxC_cells HX1.out
  go_wp2_with fail
  refine (PWeight_any (p := q) (s : Nat) v1 (by exact HQI.out.grow HB1.out)).mono ?_
  rw [HSQ.out, HQS.out]
  unfold spV
  rintro e v2 ⟨rfl, hb2⟩
  obtain ⟨V2, hV2⟩ : ∃ V, V = v2.alloc (.cells #[.int .i64 ql, .int .i64 qh] 29) := ⟨_, rfl⟩
  have HS2 : Hid (Blk V2 v2.heap.size 29 #[.int .i64 ql, .int .i64 qh]) := by rw [hV2]; exact Blk.new v2 29 _
  have HB12 : Hid (Below v1.heap.size v1 V2) := by rw [hV2]; exact hb2.alloc hb2.size _
  have HB2 : Hid (Below K.heap.size K V2) := HB1.out.trans (HB12.out.mono HB1.out.size)
  have HX2 := Lib.hid (HX1.out.below HB12.out HX1.out.lt)
  clear x0 x1 x2 x3 x4 xl
  go_upto_region 34 with fail
  rw [← hV2]
  clear hV2 hb2
  obtain ⟨x0, x1, x2, x3, x4, xl⟩ := boxC_cells HX2.out
  go_wp2_with fail
  refine (PFits_any (p := q) (s : Nat) V2 (by exact HQI.out.grow HB2.out)).mono ?_
  rw [HSQ.out, Int.toNat_natCast, HKQ.out]
  rintro e v3 ⟨rfl, hb3⟩
  have HB3 : Hid (Below K.heap.size K v3) := HB2.out.trans (hb3.mono HB2.out.size)
  have HX3 := Lib.hid (HX2.out.below hb3 HX2.out.lt)
  have HS3 := Lib.hid (HS2.out.below hb3 HS2.out.lt)
  clear hb3 x0 x1 x2 x3 x4 xl
  obtain ⟨x0, x1, x2, x3, x4, xl⟩ := boxC_cells HX3.out
  go_wp2_with fail
  refine (PMost_any (p := q) v3 (by exact HQI.out.grow HB3.out)).mono ?_
  rw [HQM.out]
  rintro e v4 ⟨rfl, hb4⟩
  have HB4 : Hid (Below K.heap.size K v4) := HB3.out.trans (hb4.mono HB3.out.size)
  have hk4 := HS3.out.below hb4 HS3.out.lt
  have y0 := hk4.cell 0
  have y1 := hk4.cell 1
  have yl := hk4.lt
  have hk5 := HS.out.below HB4.out HS.out.lt
  have z0 := hk5.cell 0
  have z1 := hk5.cell 1
  have zl := hk5.lt
  simp at y0 y1 z0 z1
  clear hb4 hk4 hk5 x0 x1 x2 x3 x4 xl
  rcases HGG.out with rfl | ⟨rfl, rfl, h1, h2, h3, h4⟩
  · go_wp2_with fail
    exact HQ.out _ _ _ _ _ _ _ _ _ _ _ _ _ _ _ _ _ _ _ _ _ _ _ _ _ _ _ _ _ _ _ _ _ _ _ _ _ _ _ _ _ _ _ _ _ _ _ _ _ _ _ _ _ _ _ _ _ _ _ _ _ _ _ _ _ _ _ _ _ _ _ _ _ _ _ _ _ _ _ _ _ _ _ _ HB4.out
  · have d1 : decide (ql < lo) = false := by simp; omega
    have d2 : decide (hi < qh) = false := by simp; omega
    have d3 : decide (m0 < M0) = false := by simp; omega
    by_cases hF1 : F = 1
    · subst hF1
      go_wp2_with fail
      exact HQ.out _ _ _ _ _ _ _ _ _ _ _ _ _ _ _ _ _ _ _ _ _ _ _ _ _ _ _ _ _ _ _ _ _ _ _ _ _ _ _ _ _ _ _ _ _ _ _ _ _ _ _ _ _ _ _ _ _ _ _ _ _ _ _ _ _ _ _ _ _ _ _ _ _ _ _ _ _ _ _ _ _ _ _ _ HB4.out
    · obtain rfl : kq = F := h3 hF1
      have d4 : (kq != 1) = true := by simp [hF1]
      go_wp2_with fail
      exact HQ.out _ _ _ _ _ _ _ _ _ _ _ _ _ _ _ _ _ _ _ _ _ _ _ _ _ _ _ _ _ _ _ _ _ _ _ _ _ _ _ _ _ _ _ _ _ _ _ _ _ _ _ _ _ _ _ _ _ _ _ _ _ _ _ _ _ _ _ _ _ _ _ _ _ _ _ _ _ _ _ _ _ _ _ _ HB4.out
end
end Go.Proofs.Ytbfjebglaimcmaa
