/- Printed by gen_more3.py. PayMore's code behind its second loop, a theorem for each loop, from the back; conditions: what the boxes hold, as hypotheses. Printed by gen_more3.py. PayMore's code behind its second loop: the pay whose shearers are numbered otherwise. Conditions: what the boxes hold, as hypotheses. -/
import Derived.Test.YtlcolpnniipgbaaDoorLawM4
import Derived.Test.YtlcolpnniipgbaaDoorLawE0
namespace Go.Proofs.YtlcolpnniipgbaaDoor
open Go.RowKit Go.Hav
/-- The code behind the first n limbs of a chain. -/
def dropSeq : Nat → Code → Code
  | 0, c => c
  | n + 1, .seq _ b => dropSeq n b
  | _ + 1, c => c
def headSeq : Code → Code
  | .seq a _ => a
  | c => c
def tailSeq : Code → Code
  | .seq _ b => b
  | c => c
def innerC : Code → Code
  | .block _ c => c
  | .loop c => c
  | .scope c => c
  | c => c
noncomputable def moreTail (n : Nat) : Code := dropSeq n (Tryd.f11.body.getD .skip)
section
variable {people rate bill : Int} {ra ca da pa : Option Addr} {rl rc cl cc dl dc pl pc : Nat} {p : PayD}
set_option maxRecDepth 100000 in
set_option maxHeartbeats 6400000 in
theorem more_t24 {c0 c1 c2 c3 c5 c6 c7 c8 c9 c10 c11 c12 c13 c14 c15 c16 c18 c19 c20 c21 c22 c23 c24 c25 c26 c27 c28 c29 c30 c31 c32 c33 c34 c35 c36 c37 c38 c39 c40 c41 c42 c43 c44 c45 c46 c47 c48 c49 c50 c51 c52 c53 c54 c55 c56 c57 c58 c59 c60 c61 c62 c63 c64 c65 c66 c67 c68 c69 c70 c71 c72 c73 c74 c75 c76 c77 c78 c79 c80 c81 c82 c83 c84 c85 c86 c87 c88 c89 c90 c91 c92 c93 c94 c95 c96 c97 c98 c99 c100 c101 c102 c103 c104 c105 c106 c107 c108 c109 c110 c111 c112 c113 c114 c115 c116 c117 c118 c119 c120 c121 c122 c123 c124 c125 c126 c127 c128 c129 c130 c131 c132 c133 c134 c135 c136 c137 c138 c139 c140 c141 c142 c143 c144 c145 c146 c147 c148 c149 c150 c151 c152 c153 c154 c155 c156 c157 c158 c159 c160 c161 c162 c163 c164 c165 c166 c167 c168 c169 c170 c171 c172 c173 c174 c175 c176 c177 c178 c179 c180 c181 c182 c183 c184 c185 c186 c187 c188 c189 c190 c191 c192 c193 c194 c195 c196 c197 c198 c199 c200 c201 c202 c203 c204 c205 c206 c207 c208 c209 c210 c211 c212 c213 c214 c215 c216 c217 c218 c219 c220 c221 c222 c223 c224 c225 c226 c227 c228 c229 c230 c231 c232 c233 c234 c235 c236 c237 c238 c239 c240 c241 c242 c243 c244 c245 c246 c247 c248 c249 c250 c251 c252 c253 c254 c255 c256 c257 c258 c259 c260 c261 c262 c263 c264 c265 c266 c267 c268 c269 c270 c271 c272 c273 c274 c275 c276 c277 c278 c279 c280 c281 c282 c283 c284 c285 c286 c287 c288 c289 c290 c291 c292 c293 c294 c295 c296 c297 c298 c299 c300 c301 c302 c303 c304 c305 c306 c307 c308 c309 c310 c311 c312 c313 c314 c315 c316 c317 c318 c319 c320 c321 c322 c323 c324 c325 c326 c327 c328 c329 c330 c331 c332 c333 c334 c335 c336 c337 c338 c339 c340 c341 c342 c343 c344 c345 c346 c347 c348 c349 c350 c351 c352 c353 c354 c355 c356 c357 c358 c359 c360 c361 c362 c363 c364 c365 c366 c367 c368 c369 c370 c371 c372 c373 c374 c375 c376 c377 c378 c379 c380 c381 c382 c383 c384 c385 c386 c387 c388 c389 c390 c391 c392 c393 c394 c395 c396 c397 c398 c399 c400 c401 c402 c403 c404 c405 c406 c407 c408 c409 c410 c411 c412 c413 c414 c415 c416 c417 : Value} {w wk K wr : World} {k1' ck1 k2' ck2 k3' ck3 k4' ck4 : Nat}
    (HF3 : Hid (∀ wv, Below K.heap.size K wv → wv.cell? ⟨w.heap.size, 0, none⟩ = some (.int .i64 people) ∧ wv.cell? ⟨w.heap.size, 1, none⟩ = some (.slice ra rl rc) ∧ wv.cell? ⟨w.heap.size, 2, none⟩ = some (.slice ca cl cc) ∧
          wv.cell? ⟨w.heap.size, 3, none⟩ = some (.int .i64 rate) ∧ wv.cell? ⟨w.heap.size, 4, none⟩ = some (.int .i64 bill) ∧ wv.cell? ⟨w.heap.size, 5, none⟩ = some (.slice da dl dc) ∧ wv.cell? ⟨w.heap.size, 6, none⟩ = some (.slice pa pl pc) ∧ w.heap.size < wv.heap.size ∧ K.heap.size ≤ wv.heap.size))
    (HPB2 : Hid (∀ wv, Below K.heap.size K wv → PayIn wv wv.heap.size people ra rl ca cl rate bill da dl pa pl p)) (HPK : Hid (∀ wv, Below K.heap.size K wv → PayIn wv wv.heap.size people (some ⟨k1', 0, none⟩) rl (some ⟨k2', 0, none⟩) cl rate bill (some ⟨k3', 0, none⟩) dl (some ⟨k4', 0, none⟩) pl p))
    (HFK : Hid (∀ wv, Below K.heap.size K wv → wv.cell? ⟨wk.heap.size, 1, none⟩ = some (.slice (some ⟨k1', 0, none⟩) rl ck1) ∧ wv.cell? ⟨wk.heap.size, 2, none⟩ = some (.slice (some ⟨k2', 0, none⟩) cl ck2) ∧
              wv.cell? ⟨wk.heap.size, 5, none⟩ = some (.slice (some ⟨k3', 0, none⟩) dl ck3) ∧ wv.cell? ⟨wk.heap.size, 6, none⟩ = some (.slice (some ⟨k4', 0, none⟩) pl ck4) ∧ wk.heap.size < wv.heap.size))
    (HRK : Hid (∀ wv, Below K.heap.size K wv → RulesIn wv ∧ Below w.heap.size w wv)) (HLE : Hid (rl ≤ 4 ∧ cl ≤ 12 ∧ dl ≤ 4 ∧ pl ≤ 8)) (HB : Hid (Below K.heap.size K wr)) :
    Code.wp Tryd.prog (moreTail 24) (bodyPost Tryd.prog Tryd.f11 fun e w' => e = .returned (.bool true) ∧ Below w.heap.size w w') ⟨(c0 :: c1 :: c2 :: c3 :: (.pointer (some ⟨w.heap.size, 0, none⟩)) :: c5 :: c6 :: c7 :: c8 :: c9 :: c10 :: c11 :: c12 :: c13 :: c14 :: c15 :: c16 :: (.pointer (some ⟨wk.heap.size, 0, none⟩)) :: c18 :: c19 :: c20 :: c21 :: c22 :: c23 :: c24 :: c25 :: c26 :: c27 :: c28 :: c29 :: c30 :: c31 :: c32 :: c33 :: c34 :: c35 :: c36 :: c37 :: c38 :: c39 :: c40 :: c41 :: c42 :: c43 :: c44 :: c45 :: c46 :: c47 :: c48 :: c49 :: c50 :: c51 :: c52 :: c53 :: c54 :: c55 :: c56 :: c57 :: c58 :: c59 :: c60 :: c61 :: c62 :: c63 :: c64 :: c65 :: c66 :: c67 :: c68 :: c69 :: c70 :: c71 :: c72 :: c73 :: c74 :: c75 :: c76 :: c77 :: c78 :: c79 :: c80 :: c81 :: c82 :: c83 :: c84 :: c85 :: c86 :: c87 :: c88 :: c89 :: c90 :: c91 :: c92 :: c93 :: c94 :: c95 :: c96 :: c97 :: c98 :: c99 :: c100 :: c101 :: c102 :: c103 :: c104 :: c105 :: c106 :: c107 :: c108 :: c109 :: c110 :: c111 :: c112 :: c113 :: c114 :: c115 :: c116 :: c117 :: c118 :: c119 :: c120 :: c121 :: c122 :: c123 :: c124 :: c125 :: c126 :: c127 :: c128 :: c129 :: c130 :: c131 :: c132 :: c133 :: c134 :: c135 :: c136 :: c137 :: c138 :: c139 :: c140 :: c141 :: c142 :: c143 :: c144 :: c145 :: c146 :: c147 :: c148 :: c149 :: c150 :: c151 :: c152 :: c153 :: c154 :: c155 :: c156 :: c157 :: c158 :: c159 :: c160 :: c161 :: c162 :: c163 :: c164 :: c165 :: c166 :: c167 :: c168 :: c169 :: c170 :: c171 :: c172 :: c173 :: c174 :: c175 :: c176 :: c177 :: c178 :: c179 :: c180 :: c181 :: c182 :: c183 :: c184 :: c185 :: c186 :: c187 :: c188 :: c189 :: c190 :: c191 :: c192 :: c193 :: c194 :: c195 :: c196 :: c197 :: c198 :: c199 :: c200 :: c201 :: c202 :: c203 :: c204 :: c205 :: c206 :: c207 :: c208 :: c209 :: c210 :: c211 :: c212 :: c213 :: c214 :: c215 :: c216 :: c217 :: c218 :: c219 :: c220 :: c221 :: c222 :: c223 :: c224 :: c225 :: c226 :: c227 :: c228 :: c229 :: c230 :: c231 :: c232 :: c233 :: c234 :: c235 :: c236 :: c237 :: c238 :: c239 :: c240 :: c241 :: c242 :: c243 :: c244 :: c245 :: c246 :: c247 :: c248 :: c249 :: c250 :: c251 :: c252 :: c253 :: c254 :: c255 :: c256 :: c257 :: c258 :: c259 :: c260 :: c261 :: c262 :: c263 :: c264 :: c265 :: c266 :: c267 :: c268 :: c269 :: c270 :: c271 :: c272 :: c273 :: c274 :: c275 :: c276 :: c277 :: c278 :: c279 :: c280 :: c281 :: c282 :: c283 :: c284 :: c285 :: c286 :: c287 :: c288 :: c289 :: c290 :: c291 :: c292 :: c293 :: c294 :: c295 :: c296 :: c297 :: c298 :: c299 :: c300 :: c301 :: c302 :: c303 :: c304 :: c305 :: c306 :: c307 :: c308 :: c309 :: c310 :: c311 :: c312 :: c313 :: c314 :: c315 :: c316 :: c317 :: c318 :: c319 :: c320 :: c321 :: c322 :: c323 :: c324 :: c325 :: c326 :: c327 :: c328 :: c329 :: c330 :: c331 :: c332 :: c333 :: c334 :: c335 :: c336 :: c337 :: c338 :: c339 :: c340 :: c341 :: c342 :: c343 :: c344 :: c345 :: c346 :: c347 :: c348 :: c349 :: c350 :: c351 :: c352 :: c353 :: c354 :: c355 :: c356 :: c357 :: c358 :: c359 :: c360 :: c361 :: c362 :: c363 :: c364 :: c365 :: c366 :: c367 :: c368 :: c369 :: c370 :: c371 :: c372 :: c373 :: c374 :: c375 :: c376 :: c377 :: c378 :: c379 :: c380 :: c381 :: c382 :: c383 :: c384 :: c385 :: c386 :: c387 :: c388 :: c389 :: c390 :: c391 :: c392 :: c393 :: c394 :: c395 :: c396 :: c397 :: c398 :: c399 :: c400 :: c401 :: c402 :: c403 :: c404 :: c405 :: c406 :: c407 :: c408 :: c409 :: c410 :: c411 :: c412 :: c413 :: c414 :: c415 :: c416 :: c417 :: []).toArray, []⟩ wr := by
  conv => arg 2; whnf
  obtain ⟨a4, a5, hdl, a11⟩ := HLE.out
  obtain ⟨x0, x1, x2, x3, x4, x5, x6, x7, x8⟩ := HF3.out _ HB.out
  obtain ⟨z1, z2, z5, z6, z7⟩ := HFK.out _ HB.out
  go_wp2
  clear x0 x1 x2 x3 x4 x5 x6 x7 x8 z1 z2 z5 z6 z7
  go_loopw [402] (fun i wr => ∃ k : Nat, i = .int .i64 k ∧ k ≤ pl ∧ Hid (Below K.heap.size K wr)) (fun i _ => pl - (intOf i).toNat)
  case atStart => exact ⟨0, rfl, Nat.zero_le _, HB.out⟩
  case round =>
    obtain ⟨k, rfl, hk, HBR⟩ := hrel
    obtain ⟨x0, x1, x2, x3, x4, x5, x6, x7, x8⟩ := HF3.out _ HBR.out
    obtain ⟨z1, z2, z5, z6, z7⟩ := HFK.out _ HBR.out
    by_cases hlt : k < pl
    · obtain ⟨c, hc⟩ : ∃ c, p.paid[k]? = some c := ⟨p.paid[k]'(by have := (HPB2.out _ HBR.out).epl; omega), by simp⟩
      obtain ⟨b, off, rfl, hbl, g0, g1, g2⟩ := (HPB2.out _ HBR.out).hpaid k c hc
      obtain ⟨b', off', he, hbl', h0, h1, h2⟩ := (HPK.out _ HBR.out).hpaid k c hc
      obtain ⟨rfl, rfl⟩ : k4' = b' ∧ 0 = off' := by simpa using he
      rw [Nat.zero_add] at h0 h1 h2
      clear he hc
      have hw1 : IntKind.i64.wrap ((k : Int) + 1) = (k : Int) + 1 := IntWalk.i64_in _ (by omega)
      go_wp2
      refine wp_region_havoc [(0,false),(1,false),(2,false),(3,false),(4,false),(5,false),(6,false),(7,false),(8,false),(9,false),(10,false)] [] (fun _ _ => False) (by kernel_rfl) (by kernel_rfl) (fun _ _ _ _ h => h.elim) ?_
      (apply hav_same (by simp only [List.getElem?_toArray, List.getElem?_cons_zero]; rfl) (by kernel_rfl); (focus (intro wv hgv _; have hcv : ∀ b o, b < _ → wv.cell? ⟨b, o, none⟩ = _ := fun b o hb => Below.cell hgv (p := ⟨b, o, none⟩) hb; go_simp; try rfl; done)); simp only [Act.put, List.setIfInBounds_toArray, List.set_cons_succ, List.set_cons_zero])
      iterate 10 (apply hav_same (by simp only [List.getElem?_toArray, List.getElem?_cons_succ, List.getElem?_cons_zero]; rfl) (by kernel_rfl); (focus (intro wv hgv _; have hcv : ∀ b o, b < _ → wv.cell? ⟨b, o, none⟩ = _ := fun b o hb => Below.cell hgv (p := ⟨b, o, none⟩) hb; go_simp; try rfl; done)); simp only [Act.put, List.setIfInBounds_toArray, List.set_cons_succ, List.set_cons_zero])
      refine hav_end (fun wd hgwd _ => ?_); simp only [List.filterMap]; have hcwd : ∀ b o, b < _ → wd.cell? ⟨b, o, none⟩ = _ := fun b o hb => Below.cell hgwd (p := ⟨b, o, none⟩) hb; have hfwd : ∀ b o, b < _ → wd.frozen? ⟨b, o, none⟩ = _ := fun b o hb => Below.frozen hgwd (p := ⟨b, o, none⟩) hb; have hzwd := Below.size hgwd; (try simp at hzwd)
      have HBd : Hid (Below K.heap.size K wd) := HBR.out.trans (hgwd.mono HBR.out.size)
      clear hgwd hcwd hfwd x0 x1 x2 x3 x4 x5 x6 x7 x8 z1 z2 z5 z6 z7 g0 h0 g1 h1 g2 h2
      go_wp2
      go_roundw
      case rel => exact ⟨k + 1, by go_num, by omega, HBd.out⟩
      case measure => simp [intOf]; omega
    · obtain rfl : pl = k := by omega
      clear x0 x1 x2 x3 x4 x5 x6 x7 x8 z1 z2 z5 z6 z7
      go_wp2_with fail
      refine (awake_any _ (by exact (HRK.out _ HBR.out).1)).mono ?_
      rintro e20 wz ⟨rfl, hbz⟩
      go_wp2
      go_ret
      exact ⟨rfl, (HRK.out _ HBR.out).2.trans (hbz.mono (HRK.out _ HBR.out).2.size)⟩
set_option maxRecDepth 100000 in
set_option maxHeartbeats 6400000 in
theorem more_t23 {c0 c1 c2 c3 c5 c6 c7 c8 c9 c10 c11 c12 c13 c14 c15 c16 c18 c19 c20 c21 c22 c23 c24 c25 c26 c27 c28 c29 c30 c31 c32 c33 c34 c35 c36 c37 c38 c39 c40 c41 c42 c43 c44 c45 c46 c47 c48 c49 c50 c51 c52 c53 c54 c55 c56 c57 c58 c59 c60 c61 c62 c63 c64 c65 c66 c67 c68 c69 c70 c71 c72 c73 c74 c75 c76 c77 c78 c79 c80 c81 c82 c83 c84 c85 c86 c87 c88 c89 c90 c91 c92 c93 c94 c95 c96 c97 c98 c99 c100 c101 c102 c103 c104 c105 c106 c107 c108 c109 c110 c111 c112 c113 c114 c115 c116 c117 c118 c119 c120 c121 c122 c123 c124 c125 c126 c127 c128 c129 c130 c131 c132 c133 c134 c135 c136 c137 c138 c139 c140 c141 c142 c143 c144 c145 c146 c147 c148 c149 c150 c151 c152 c153 c154 c155 c156 c157 c158 c159 c160 c161 c162 c163 c164 c165 c166 c167 c168 c169 c170 c171 c172 c173 c174 c175 c176 c177 c178 c179 c180 c181 c182 c183 c184 c185 c186 c187 c188 c189 c190 c191 c192 c193 c194 c195 c196 c197 c198 c199 c200 c201 c202 c203 c204 c205 c206 c207 c208 c209 c210 c211 c212 c213 c214 c215 c216 c217 c218 c219 c220 c221 c222 c223 c224 c225 c226 c227 c228 c229 c230 c231 c232 c233 c234 c235 c236 c237 c238 c239 c240 c241 c242 c243 c244 c245 c246 c247 c248 c249 c250 c251 c252 c253 c254 c255 c256 c257 c258 c259 c260 c261 c262 c263 c264 c265 c266 c267 c268 c269 c270 c271 c272 c273 c274 c275 c276 c277 c278 c279 c280 c281 c282 c283 c284 c285 c286 c287 c288 c289 c290 c291 c292 c293 c294 c295 c296 c297 c298 c299 c300 c301 c302 c303 c304 c305 c306 c307 c308 c309 c310 c311 c312 c313 c314 c315 c316 c317 c318 c319 c320 c321 c322 c323 c324 c325 c326 c327 c328 c329 c330 c331 c332 c333 c334 c335 c336 c337 c338 c339 c340 c341 c342 c343 c344 c345 c346 c347 c348 c349 c350 c351 c352 c353 c354 c355 c356 c357 c358 c359 c360 c361 c362 c363 c364 c365 c366 c367 c368 c369 c370 c371 c372 c373 c374 c375 c376 c377 c378 c379 c380 c381 c382 c383 c384 c385 c386 c387 c388 c389 c390 c391 c392 c393 c394 c395 c396 c397 c398 c399 c400 c401 c402 c403 c404 c405 c406 c407 c408 c409 c410 c411 c412 c413 c414 c415 c416 c417 : Value} {w wk K wr : World} {k1' ck1 k2' ck2 k3' ck3 k4' ck4 : Nat}
    (HF3 : Hid (∀ wv, Below K.heap.size K wv → wv.cell? ⟨w.heap.size, 0, none⟩ = some (.int .i64 people) ∧ wv.cell? ⟨w.heap.size, 1, none⟩ = some (.slice ra rl rc) ∧ wv.cell? ⟨w.heap.size, 2, none⟩ = some (.slice ca cl cc) ∧
          wv.cell? ⟨w.heap.size, 3, none⟩ = some (.int .i64 rate) ∧ wv.cell? ⟨w.heap.size, 4, none⟩ = some (.int .i64 bill) ∧ wv.cell? ⟨w.heap.size, 5, none⟩ = some (.slice da dl dc) ∧ wv.cell? ⟨w.heap.size, 6, none⟩ = some (.slice pa pl pc) ∧ w.heap.size < wv.heap.size ∧ K.heap.size ≤ wv.heap.size))
    (HPB2 : Hid (∀ wv, Below K.heap.size K wv → PayIn wv wv.heap.size people ra rl ca cl rate bill da dl pa pl p)) (HPK : Hid (∀ wv, Below K.heap.size K wv → PayIn wv wv.heap.size people (some ⟨k1', 0, none⟩) rl (some ⟨k2', 0, none⟩) cl rate bill (some ⟨k3', 0, none⟩) dl (some ⟨k4', 0, none⟩) pl p))
    (HFK : Hid (∀ wv, Below K.heap.size K wv → wv.cell? ⟨wk.heap.size, 1, none⟩ = some (.slice (some ⟨k1', 0, none⟩) rl ck1) ∧ wv.cell? ⟨wk.heap.size, 2, none⟩ = some (.slice (some ⟨k2', 0, none⟩) cl ck2) ∧
              wv.cell? ⟨wk.heap.size, 5, none⟩ = some (.slice (some ⟨k3', 0, none⟩) dl ck3) ∧ wv.cell? ⟨wk.heap.size, 6, none⟩ = some (.slice (some ⟨k4', 0, none⟩) pl ck4) ∧ wk.heap.size < wv.heap.size))
    (HRK : Hid (∀ wv, Below K.heap.size K wv → RulesIn wv ∧ Below w.heap.size w wv)) (HLE : Hid (rl ≤ 4 ∧ cl ≤ 12 ∧ dl ≤ 4 ∧ pl ≤ 8)) (HB : Hid (Below K.heap.size K wr)) :
    Code.wp Tryd.prog (moreTail 23) (bodyPost Tryd.prog Tryd.f11 fun e w' => e = .returned (.bool true) ∧ Below w.heap.size w w') ⟨(c0 :: c1 :: c2 :: c3 :: (.pointer (some ⟨w.heap.size, 0, none⟩)) :: c5 :: c6 :: c7 :: c8 :: c9 :: c10 :: c11 :: c12 :: c13 :: c14 :: c15 :: c16 :: (.pointer (some ⟨wk.heap.size, 0, none⟩)) :: c18 :: c19 :: c20 :: c21 :: c22 :: c23 :: c24 :: c25 :: c26 :: c27 :: c28 :: c29 :: c30 :: c31 :: c32 :: c33 :: c34 :: c35 :: c36 :: c37 :: c38 :: c39 :: c40 :: c41 :: c42 :: c43 :: c44 :: c45 :: c46 :: c47 :: c48 :: c49 :: c50 :: c51 :: c52 :: c53 :: c54 :: c55 :: c56 :: c57 :: c58 :: c59 :: c60 :: c61 :: c62 :: c63 :: c64 :: c65 :: c66 :: c67 :: c68 :: c69 :: c70 :: c71 :: c72 :: c73 :: c74 :: c75 :: c76 :: c77 :: c78 :: c79 :: c80 :: c81 :: c82 :: c83 :: c84 :: c85 :: c86 :: c87 :: c88 :: c89 :: c90 :: c91 :: c92 :: c93 :: c94 :: c95 :: c96 :: c97 :: c98 :: c99 :: c100 :: c101 :: c102 :: c103 :: c104 :: c105 :: c106 :: c107 :: c108 :: c109 :: c110 :: c111 :: c112 :: c113 :: c114 :: c115 :: c116 :: c117 :: c118 :: c119 :: c120 :: c121 :: c122 :: c123 :: c124 :: c125 :: c126 :: c127 :: c128 :: c129 :: c130 :: c131 :: c132 :: c133 :: c134 :: c135 :: c136 :: c137 :: c138 :: c139 :: c140 :: c141 :: c142 :: c143 :: c144 :: c145 :: c146 :: c147 :: c148 :: c149 :: c150 :: c151 :: c152 :: c153 :: c154 :: c155 :: c156 :: c157 :: c158 :: c159 :: c160 :: c161 :: c162 :: c163 :: c164 :: c165 :: c166 :: c167 :: c168 :: c169 :: c170 :: c171 :: c172 :: c173 :: c174 :: c175 :: c176 :: c177 :: c178 :: c179 :: c180 :: c181 :: c182 :: c183 :: c184 :: c185 :: c186 :: c187 :: c188 :: c189 :: c190 :: c191 :: c192 :: c193 :: c194 :: c195 :: c196 :: c197 :: c198 :: c199 :: c200 :: c201 :: c202 :: c203 :: c204 :: c205 :: c206 :: c207 :: c208 :: c209 :: c210 :: c211 :: c212 :: c213 :: c214 :: c215 :: c216 :: c217 :: c218 :: c219 :: c220 :: c221 :: c222 :: c223 :: c224 :: c225 :: c226 :: c227 :: c228 :: c229 :: c230 :: c231 :: c232 :: c233 :: c234 :: c235 :: c236 :: c237 :: c238 :: c239 :: c240 :: c241 :: c242 :: c243 :: c244 :: c245 :: c246 :: c247 :: c248 :: c249 :: c250 :: c251 :: c252 :: c253 :: c254 :: c255 :: c256 :: c257 :: c258 :: c259 :: c260 :: c261 :: c262 :: c263 :: c264 :: c265 :: c266 :: c267 :: c268 :: c269 :: c270 :: c271 :: c272 :: c273 :: c274 :: c275 :: c276 :: c277 :: c278 :: c279 :: c280 :: c281 :: c282 :: c283 :: c284 :: c285 :: c286 :: c287 :: c288 :: c289 :: c290 :: c291 :: c292 :: c293 :: c294 :: c295 :: c296 :: c297 :: c298 :: c299 :: c300 :: c301 :: c302 :: c303 :: c304 :: c305 :: c306 :: c307 :: c308 :: c309 :: c310 :: c311 :: c312 :: c313 :: c314 :: c315 :: c316 :: c317 :: c318 :: c319 :: c320 :: c321 :: c322 :: c323 :: c324 :: c325 :: c326 :: c327 :: c328 :: c329 :: c330 :: c331 :: c332 :: c333 :: c334 :: c335 :: c336 :: c337 :: c338 :: c339 :: c340 :: c341 :: c342 :: c343 :: c344 :: c345 :: c346 :: c347 :: c348 :: c349 :: c350 :: c351 :: c352 :: c353 :: c354 :: c355 :: c356 :: c357 :: c358 :: c359 :: c360 :: c361 :: c362 :: c363 :: c364 :: c365 :: c366 :: c367 :: c368 :: c369 :: c370 :: c371 :: c372 :: c373 :: c374 :: c375 :: c376 :: c377 :: c378 :: c379 :: c380 :: c381 :: c382 :: c383 :: c384 :: c385 :: c386 :: c387 :: c388 :: c389 :: c390 :: c391 :: c392 :: c393 :: c394 :: c395 :: c396 :: c397 :: c398 :: c399 :: c400 :: c401 :: c402 :: c403 :: c404 :: c405 :: c406 :: c407 :: c408 :: c409 :: c410 :: c411 :: c412 :: c413 :: c414 :: c415 :: c416 :: c417 :: []).toArray, []⟩ wr := by
  conv => arg 2; whnf
  obtain ⟨a4, a5, hdl, a11⟩ := HLE.out
  obtain ⟨x0, x1, x2, x3, x4, x5, x6, x7, x8⟩ := HF3.out _ HB.out
  obtain ⟨z1, z2, z5, z6, z7⟩ := HFK.out _ HB.out
  go_wp2
  clear x0 x1 x2 x3 x4 x5 x6 x7 x8 z1 z2 z5 z6 z7
  rename ∀ a w, Code.wp Tryd.prog (moreTail 24) _ a w → _ => hKT
  have HKT := Lib.hid hKT
  clear hKT
  go_loopw [384] (fun i wr => ∃ k : Nat, i = .int .i64 k ∧ k ≤ dl ∧ Hid (Below K.heap.size K wr)) (fun i _ => dl - (intOf i).toNat)
  case atStart => exact ⟨0, rfl, Nat.zero_le _, HB.out⟩
  case round =>
    obtain ⟨k, rfl, hk, HBR⟩ := hrel
    obtain ⟨x0, x1, x2, x3, x4, x5, x6, x7, x8⟩ := HF3.out _ HBR.out
    obtain ⟨z1, z2, z5, z6, z7⟩ := HFK.out _ HBR.out
    by_cases hlt : k < dl
    · obtain ⟨c, hc⟩ : ∃ c, p.days[k]? = some c := ⟨p.days[k]'(by have := (HPB2.out _ HBR.out).edl; omega), by simp⟩
      obtain ⟨b, off, rfl, hbl, g0⟩ := (HPB2.out _ HBR.out).hdays k c hc
      obtain ⟨b', off', he, hbl', h0⟩ := (HPK.out _ HBR.out).hdays k c hc
      obtain ⟨rfl, rfl⟩ : k3' = b' ∧ 0 = off' := by simpa using he
      rw [Nat.zero_add] at h0
      clear he hc
      have hw1 : IntKind.i64.wrap ((k : Int) + 1) = (k : Int) + 1 := IntWalk.i64_in _ (by omega)
      go_wp2
      refine wp_region_havoc [(0,false),(1,false),(2,false),(3,false),(4,false),(5,false),(6,false),(7,false),(8,false),(9,false),(10,false)] [] (fun _ _ => False) (by kernel_rfl) (by kernel_rfl) (fun _ _ _ _ h => h.elim) ?_
      (apply hav_same (by simp only [List.getElem?_toArray, List.getElem?_cons_zero]; rfl) (by kernel_rfl); (focus (intro wv hgv _; have hcv : ∀ b o, b < _ → wv.cell? ⟨b, o, none⟩ = _ := fun b o hb => Below.cell hgv (p := ⟨b, o, none⟩) hb; go_simp; try rfl; done)); simp only [Act.put, List.setIfInBounds_toArray, List.set_cons_succ, List.set_cons_zero])
      iterate 10 (apply hav_same (by simp only [List.getElem?_toArray, List.getElem?_cons_succ, List.getElem?_cons_zero]; rfl) (by kernel_rfl); (focus (intro wv hgv _; have hcv : ∀ b o, b < _ → wv.cell? ⟨b, o, none⟩ = _ := fun b o hb => Below.cell hgv (p := ⟨b, o, none⟩) hb; go_simp; try rfl; done)); simp only [Act.put, List.setIfInBounds_toArray, List.set_cons_succ, List.set_cons_zero])
      refine hav_end (fun wd hgwd _ => ?_); simp only [List.filterMap]; have hcwd : ∀ b o, b < _ → wd.cell? ⟨b, o, none⟩ = _ := fun b o hb => Below.cell hgwd (p := ⟨b, o, none⟩) hb; have hfwd : ∀ b o, b < _ → wd.frozen? ⟨b, o, none⟩ = _ := fun b o hb => Below.frozen hgwd (p := ⟨b, o, none⟩) hb; have hzwd := Below.size hgwd; (try simp at hzwd)
      have HBd : Hid (Below K.heap.size K wd) := HBR.out.trans (hgwd.mono HBR.out.size)
      clear hgwd hcwd hfwd x0 x1 x2 x3 x4 x5 x6 x7 x8 z1 z2 z5 z6 z7 g0 h0
      go_wp2
      go_roundw
      case rel => exact ⟨k + 1, by go_num, by omega, HBd.out⟩
      case measure => simp [intOf]; omega
    · obtain rfl : dl = k := by omega
      clear x0 x1 x2 x3 x4 x5 x6 x7 x8 z1 z2 z5 z6 z7
      go_wp2_with fail
      exact HKT.out _ _ (more_t24 HF3 HPB2 HPK HFK HRK HLE HBR)
set_option maxRecDepth 100000 in
set_option maxHeartbeats 6400000 in
theorem more_t22 {c0 c1 c2 c3 c5 c6 c7 c8 c9 c10 c11 c12 c13 c14 c15 c16 c18 c19 c20 c21 c22 c23 c24 c25 c26 c27 c28 c29 c30 c31 c32 c33 c34 c35 c36 c37 c38 c39 c40 c41 c42 c43 c44 c45 c46 c47 c48 c49 c50 c51 c52 c53 c54 c55 c56 c57 c58 c59 c60 c61 c62 c63 c64 c65 c66 c67 c68 c69 c70 c71 c72 c73 c74 c75 c76 c77 c78 c79 c80 c81 c82 c83 c84 c85 c86 c87 c88 c89 c90 c91 c92 c93 c94 c95 c96 c97 c98 c99 c100 c101 c102 c103 c104 c105 c106 c107 c108 c109 c110 c111 c112 c113 c114 c115 c116 c117 c118 c119 c120 c121 c122 c123 c124 c125 c126 c127 c128 c129 c130 c131 c132 c133 c134 c135 c136 c137 c138 c139 c140 c141 c142 c143 c144 c145 c146 c147 c148 c149 c150 c151 c152 c153 c154 c155 c156 c157 c158 c159 c160 c161 c162 c163 c164 c165 c166 c167 c168 c169 c170 c171 c172 c173 c174 c175 c176 c177 c178 c179 c180 c181 c182 c183 c184 c185 c186 c187 c188 c189 c190 c191 c192 c193 c194 c195 c196 c197 c198 c199 c200 c201 c202 c203 c204 c205 c206 c207 c208 c209 c210 c211 c212 c213 c214 c215 c216 c217 c218 c219 c220 c221 c222 c223 c224 c225 c226 c227 c228 c229 c230 c231 c232 c233 c234 c235 c236 c237 c238 c239 c240 c241 c242 c243 c244 c245 c246 c247 c248 c249 c250 c251 c252 c253 c254 c255 c256 c257 c258 c259 c260 c261 c262 c263 c264 c265 c266 c267 c268 c269 c270 c271 c272 c273 c274 c275 c276 c277 c278 c279 c280 c281 c282 c283 c284 c285 c286 c287 c288 c289 c290 c291 c292 c293 c294 c295 c296 c297 c298 c299 c300 c301 c302 c303 c304 c305 c306 c307 c308 c309 c310 c311 c312 c313 c314 c315 c316 c317 c318 c319 c320 c321 c322 c323 c324 c325 c326 c327 c328 c329 c330 c331 c332 c333 c334 c335 c336 c337 c338 c339 c340 c341 c342 c343 c344 c345 c346 c347 c348 c349 c350 c351 c352 c353 c354 c355 c356 c357 c358 c359 c360 c361 c362 c363 c364 c365 c366 c367 c368 c369 c370 c371 c372 c373 c374 c375 c376 c377 c378 c379 c380 c381 c382 c383 c384 c385 c386 c387 c388 c389 c390 c391 c392 c393 c394 c395 c396 c397 c398 c399 c400 c401 c402 c403 c404 c405 c406 c407 c408 c409 c410 c411 c412 c413 c414 c415 c416 c417 : Value} {w wk K wr : World} {k1' ck1 k2' ck2 k3' ck3 k4' ck4 : Nat}
    (HF3 : Hid (∀ wv, Below K.heap.size K wv → wv.cell? ⟨w.heap.size, 0, none⟩ = some (.int .i64 people) ∧ wv.cell? ⟨w.heap.size, 1, none⟩ = some (.slice ra rl rc) ∧ wv.cell? ⟨w.heap.size, 2, none⟩ = some (.slice ca cl cc) ∧
          wv.cell? ⟨w.heap.size, 3, none⟩ = some (.int .i64 rate) ∧ wv.cell? ⟨w.heap.size, 4, none⟩ = some (.int .i64 bill) ∧ wv.cell? ⟨w.heap.size, 5, none⟩ = some (.slice da dl dc) ∧ wv.cell? ⟨w.heap.size, 6, none⟩ = some (.slice pa pl pc) ∧ w.heap.size < wv.heap.size ∧ K.heap.size ≤ wv.heap.size))
    (HPB2 : Hid (∀ wv, Below K.heap.size K wv → PayIn wv wv.heap.size people ra rl ca cl rate bill da dl pa pl p)) (HPK : Hid (∀ wv, Below K.heap.size K wv → PayIn wv wv.heap.size people (some ⟨k1', 0, none⟩) rl (some ⟨k2', 0, none⟩) cl rate bill (some ⟨k3', 0, none⟩) dl (some ⟨k4', 0, none⟩) pl p))
    (HFK : Hid (∀ wv, Below K.heap.size K wv → wv.cell? ⟨wk.heap.size, 1, none⟩ = some (.slice (some ⟨k1', 0, none⟩) rl ck1) ∧ wv.cell? ⟨wk.heap.size, 2, none⟩ = some (.slice (some ⟨k2', 0, none⟩) cl ck2) ∧
              wv.cell? ⟨wk.heap.size, 5, none⟩ = some (.slice (some ⟨k3', 0, none⟩) dl ck3) ∧ wv.cell? ⟨wk.heap.size, 6, none⟩ = some (.slice (some ⟨k4', 0, none⟩) pl ck4) ∧ wk.heap.size < wv.heap.size))
    (HRK : Hid (∀ wv, Below K.heap.size K wv → RulesIn wv ∧ Below w.heap.size w wv)) (HLE : Hid (rl ≤ 4 ∧ cl ≤ 12 ∧ dl ≤ 4 ∧ pl ≤ 8)) (HB : Hid (Below K.heap.size K wr)) :
    Code.wp Tryd.prog (moreTail 22) (bodyPost Tryd.prog Tryd.f11 fun e w' => e = .returned (.bool true) ∧ Below w.heap.size w w') ⟨(c0 :: c1 :: c2 :: c3 :: (.pointer (some ⟨w.heap.size, 0, none⟩)) :: c5 :: c6 :: c7 :: c8 :: c9 :: c10 :: c11 :: c12 :: c13 :: c14 :: c15 :: c16 :: (.pointer (some ⟨wk.heap.size, 0, none⟩)) :: c18 :: c19 :: c20 :: c21 :: c22 :: c23 :: c24 :: c25 :: c26 :: c27 :: c28 :: c29 :: c30 :: c31 :: c32 :: c33 :: c34 :: c35 :: c36 :: c37 :: c38 :: c39 :: c40 :: c41 :: c42 :: c43 :: c44 :: c45 :: c46 :: c47 :: c48 :: c49 :: c50 :: c51 :: c52 :: c53 :: c54 :: c55 :: c56 :: c57 :: c58 :: c59 :: c60 :: c61 :: c62 :: c63 :: c64 :: c65 :: c66 :: c67 :: c68 :: c69 :: c70 :: c71 :: c72 :: c73 :: c74 :: c75 :: c76 :: c77 :: c78 :: c79 :: c80 :: c81 :: c82 :: c83 :: c84 :: c85 :: c86 :: c87 :: c88 :: c89 :: c90 :: c91 :: c92 :: c93 :: c94 :: c95 :: c96 :: c97 :: c98 :: c99 :: c100 :: c101 :: c102 :: c103 :: c104 :: c105 :: c106 :: c107 :: c108 :: c109 :: c110 :: c111 :: c112 :: c113 :: c114 :: c115 :: c116 :: c117 :: c118 :: c119 :: c120 :: c121 :: c122 :: c123 :: c124 :: c125 :: c126 :: c127 :: c128 :: c129 :: c130 :: c131 :: c132 :: c133 :: c134 :: c135 :: c136 :: c137 :: c138 :: c139 :: c140 :: c141 :: c142 :: c143 :: c144 :: c145 :: c146 :: c147 :: c148 :: c149 :: c150 :: c151 :: c152 :: c153 :: c154 :: c155 :: c156 :: c157 :: c158 :: c159 :: c160 :: c161 :: c162 :: c163 :: c164 :: c165 :: c166 :: c167 :: c168 :: c169 :: c170 :: c171 :: c172 :: c173 :: c174 :: c175 :: c176 :: c177 :: c178 :: c179 :: c180 :: c181 :: c182 :: c183 :: c184 :: c185 :: c186 :: c187 :: c188 :: c189 :: c190 :: c191 :: c192 :: c193 :: c194 :: c195 :: c196 :: c197 :: c198 :: c199 :: c200 :: c201 :: c202 :: c203 :: c204 :: c205 :: c206 :: c207 :: c208 :: c209 :: c210 :: c211 :: c212 :: c213 :: c214 :: c215 :: c216 :: c217 :: c218 :: c219 :: c220 :: c221 :: c222 :: c223 :: c224 :: c225 :: c226 :: c227 :: c228 :: c229 :: c230 :: c231 :: c232 :: c233 :: c234 :: c235 :: c236 :: c237 :: c238 :: c239 :: c240 :: c241 :: c242 :: c243 :: c244 :: c245 :: c246 :: c247 :: c248 :: c249 :: c250 :: c251 :: c252 :: c253 :: c254 :: c255 :: c256 :: c257 :: c258 :: c259 :: c260 :: c261 :: c262 :: c263 :: c264 :: c265 :: c266 :: c267 :: c268 :: c269 :: c270 :: c271 :: c272 :: c273 :: c274 :: c275 :: c276 :: c277 :: c278 :: c279 :: c280 :: c281 :: c282 :: c283 :: c284 :: c285 :: c286 :: c287 :: c288 :: c289 :: c290 :: c291 :: c292 :: c293 :: c294 :: c295 :: c296 :: c297 :: c298 :: c299 :: c300 :: c301 :: c302 :: c303 :: c304 :: c305 :: c306 :: c307 :: c308 :: c309 :: c310 :: c311 :: c312 :: c313 :: c314 :: c315 :: c316 :: c317 :: c318 :: c319 :: c320 :: c321 :: c322 :: c323 :: c324 :: c325 :: c326 :: c327 :: c328 :: c329 :: c330 :: c331 :: c332 :: c333 :: c334 :: c335 :: c336 :: c337 :: c338 :: c339 :: c340 :: c341 :: c342 :: c343 :: c344 :: c345 :: c346 :: c347 :: c348 :: c349 :: c350 :: c351 :: c352 :: c353 :: c354 :: c355 :: c356 :: c357 :: c358 :: c359 :: c360 :: c361 :: c362 :: c363 :: c364 :: c365 :: c366 :: c367 :: c368 :: c369 :: c370 :: c371 :: c372 :: c373 :: c374 :: c375 :: c376 :: c377 :: c378 :: c379 :: c380 :: c381 :: c382 :: c383 :: c384 :: c385 :: c386 :: c387 :: c388 :: c389 :: c390 :: c391 :: c392 :: c393 :: c394 :: c395 :: c396 :: c397 :: c398 :: c399 :: c400 :: c401 :: c402 :: c403 :: c404 :: c405 :: c406 :: c407 :: c408 :: c409 :: c410 :: c411 :: c412 :: c413 :: c414 :: c415 :: c416 :: c417 :: []).toArray, []⟩ wr := by
  conv => arg 2; whnf
  obtain ⟨a4, a5, hdl, a11⟩ := HLE.out
  obtain ⟨x0, x1, x2, x3, x4, x5, x6, x7, x8⟩ := HF3.out _ HB.out
  obtain ⟨z1, z2, z5, z6, z7⟩ := HFK.out _ HB.out
  go_wp2
  clear x0 x1 x2 x3 x4 x5 x6 x7 x8 z1 z2 z5 z6 z7
  rename ∀ a w, Code.wp Tryd.prog (moreTail 23) _ a w → _ => hKT
  have HKT := Lib.hid hKT
  clear hKT
  go_loopw [366] (fun i wr => ∃ k : Nat, i = .int .i64 k ∧ k ≤ rl ∧ Hid (Below K.heap.size K wr)) (fun i _ => rl - (intOf i).toNat)
  case atStart => exact ⟨0, rfl, Nat.zero_le _, HB.out⟩
  case round =>
    obtain ⟨k, rfl, hk, HBR⟩ := hrel
    obtain ⟨x0, x1, x2, x3, x4, x5, x6, x7, x8⟩ := HF3.out _ HBR.out
    obtain ⟨z1, z2, z5, z6, z7⟩ := HFK.out _ HBR.out
    by_cases hlt : k < rl
    · obtain ⟨c, hc⟩ : ∃ c, p.runs[k]? = some c := ⟨p.runs[k]'(by have := (HPB2.out _ HBR.out).erl; omega), by simp⟩
      obtain ⟨b, off, rfl, hbl, g0, g1⟩ := (HPB2.out _ HBR.out).hruns k c hc
      obtain ⟨b', off', he, hbl', h0, h1⟩ := (HPK.out _ HBR.out).hruns k c hc
      obtain ⟨rfl, rfl⟩ : k1' = b' ∧ 0 = off' := by simpa using he
      rw [Nat.zero_add] at h0 h1
      clear he hc
      have hw1 : IntKind.i64.wrap ((k : Int) + 1) = (k : Int) + 1 := IntWalk.i64_in _ (by omega)
      go_wp2
      refine wp_region_havoc [(0,false),(1,false),(2,false),(3,false),(4,false),(5,false),(6,false),(7,false),(8,false),(9,false),(10,false)] [] (fun _ _ => False) (by kernel_rfl) (by kernel_rfl) (fun _ _ _ _ h => h.elim) ?_
      (apply hav_same (by simp only [List.getElem?_toArray, List.getElem?_cons_zero]; rfl) (by kernel_rfl); (focus (intro wv hgv _; have hcv : ∀ b o, b < _ → wv.cell? ⟨b, o, none⟩ = _ := fun b o hb => Below.cell hgv (p := ⟨b, o, none⟩) hb; go_simp; try rfl; done)); simp only [Act.put, List.setIfInBounds_toArray, List.set_cons_succ, List.set_cons_zero])
      iterate 10 (apply hav_same (by simp only [List.getElem?_toArray, List.getElem?_cons_succ, List.getElem?_cons_zero]; rfl) (by kernel_rfl); (focus (intro wv hgv _; have hcv : ∀ b o, b < _ → wv.cell? ⟨b, o, none⟩ = _ := fun b o hb => Below.cell hgv (p := ⟨b, o, none⟩) hb; go_simp; try rfl; done)); simp only [Act.put, List.setIfInBounds_toArray, List.set_cons_succ, List.set_cons_zero])
      refine hav_end (fun wd hgwd _ => ?_); simp only [List.filterMap]; have hcwd : ∀ b o, b < _ → wd.cell? ⟨b, o, none⟩ = _ := fun b o hb => Below.cell hgwd (p := ⟨b, o, none⟩) hb; have hfwd : ∀ b o, b < _ → wd.frozen? ⟨b, o, none⟩ = _ := fun b o hb => Below.frozen hgwd (p := ⟨b, o, none⟩) hb; have hzwd := Below.size hgwd; (try simp at hzwd)
      have HBd : Hid (Below K.heap.size K wd) := HBR.out.trans (hgwd.mono HBR.out.size)
      clear hgwd hcwd hfwd x0 x1 x2 x3 x4 x5 x6 x7 x8 z1 z2 z5 z6 z7 g0 h0 g1 h1
      go_wp2
      go_roundw
      case rel => exact ⟨k + 1, by go_num, by omega, HBd.out⟩
      case measure => simp [intOf]; omega
    · obtain rfl : rl = k := by omega
      clear x0 x1 x2 x3 x4 x5 x6 x7 x8 z1 z2 z5 z6 z7
      go_wp2_with fail
      exact HKT.out _ _ (more_t23 HF3 HPB2 HPK HFK HRK HLE HBR)
set_option maxRecDepth 100000 in
set_option maxHeartbeats 6400000 in
theorem more_t21 {c0 c1 c2 c3 c5 c6 c7 c8 c9 c10 c11 c12 c13 c14 c15 c16 c18 c19 c20 c21 c22 c23 c24 c25 c26 c27 c28 c29 c30 c31 c32 c33 c34 c35 c36 c37 c38 c39 c40 c41 c42 c43 c44 c45 c46 c47 c48 c49 c50 c51 c52 c53 c54 c55 c56 c57 c58 c59 c60 c61 c62 c63 c64 c65 c66 c67 c68 c69 c70 c71 c72 c73 c74 c75 c76 c77 c78 c79 c80 c81 c82 c83 c84 c85 c86 c87 c88 c89 c90 c91 c92 c93 c94 c95 c96 c97 c98 c99 c100 c101 c102 c103 c104 c105 c106 c107 c108 c109 c110 c111 c112 c113 c114 c115 c116 c117 c118 c119 c120 c121 c122 c123 c124 c125 c126 c127 c128 c129 c130 c131 c132 c133 c134 c135 c136 c137 c138 c139 c140 c141 c142 c143 c144 c145 c146 c147 c148 c149 c150 c151 c152 c153 c154 c155 c156 c157 c158 c159 c160 c161 c162 c163 c164 c165 c166 c167 c168 c169 c170 c171 c172 c173 c174 c175 c176 c177 c178 c179 c180 c181 c182 c183 c184 c185 c186 c187 c188 c189 c190 c191 c192 c193 c194 c195 c196 c197 c198 c199 c200 c201 c202 c203 c204 c205 c206 c207 c208 c209 c210 c211 c212 c213 c214 c215 c216 c217 c218 c219 c220 c221 c222 c223 c224 c225 c226 c227 c228 c229 c230 c231 c232 c233 c234 c235 c236 c237 c238 c239 c240 c241 c242 c243 c244 c245 c246 c247 c248 c249 c250 c251 c252 c253 c254 c255 c256 c257 c258 c259 c260 c261 c262 c263 c264 c265 c266 c267 c268 c269 c270 c271 c272 c273 c274 c275 c276 c277 c278 c279 c280 c281 c282 c283 c284 c285 c286 c287 c288 c289 c290 c291 c292 c293 c294 c295 c296 c297 c298 c299 c300 c301 c302 c303 c304 c305 c306 c307 c308 c309 c310 c311 c312 c313 c314 c315 c316 c317 c318 c319 c320 c321 c322 c323 c324 c325 c326 c327 c328 c329 c330 c331 c332 c333 c334 c335 c336 c337 c338 c339 c340 c341 c342 c343 c344 c345 c346 c347 c348 c349 c350 c351 c352 c353 c354 c355 c356 c357 c358 c359 c360 c361 c362 c363 c364 c365 c366 c367 c368 c369 c370 c371 c372 c373 c374 c375 c376 c377 c378 c379 c380 c381 c382 c383 c384 c385 c386 c387 c388 c389 c390 c391 c392 c393 c394 c395 c396 c397 c398 c399 c400 c401 c402 c403 c404 c405 c406 c407 c408 c409 c410 c411 c412 c413 c414 c415 c416 c417 : Value} {w wk K wr : World} {k1' ck1 k2' ck2 k3' ck3 k4' ck4 : Nat}
    (HF3 : Hid (∀ wv, Below K.heap.size K wv → wv.cell? ⟨w.heap.size, 0, none⟩ = some (.int .i64 people) ∧ wv.cell? ⟨w.heap.size, 1, none⟩ = some (.slice ra rl rc) ∧ wv.cell? ⟨w.heap.size, 2, none⟩ = some (.slice ca cl cc) ∧
          wv.cell? ⟨w.heap.size, 3, none⟩ = some (.int .i64 rate) ∧ wv.cell? ⟨w.heap.size, 4, none⟩ = some (.int .i64 bill) ∧ wv.cell? ⟨w.heap.size, 5, none⟩ = some (.slice da dl dc) ∧ wv.cell? ⟨w.heap.size, 6, none⟩ = some (.slice pa pl pc) ∧ w.heap.size < wv.heap.size ∧ K.heap.size ≤ wv.heap.size))
    (HPB2 : Hid (∀ wv, Below K.heap.size K wv → PayIn wv wv.heap.size people ra rl ca cl rate bill da dl pa pl p)) (HPK : Hid (∀ wv, Below K.heap.size K wv → PayIn wv wv.heap.size people (some ⟨k1', 0, none⟩) rl (some ⟨k2', 0, none⟩) cl rate bill (some ⟨k3', 0, none⟩) dl (some ⟨k4', 0, none⟩) pl p))
    (HFK : Hid (∀ wv, Below K.heap.size K wv → wv.cell? ⟨wk.heap.size, 1, none⟩ = some (.slice (some ⟨k1', 0, none⟩) rl ck1) ∧ wv.cell? ⟨wk.heap.size, 2, none⟩ = some (.slice (some ⟨k2', 0, none⟩) cl ck2) ∧
              wv.cell? ⟨wk.heap.size, 5, none⟩ = some (.slice (some ⟨k3', 0, none⟩) dl ck3) ∧ wv.cell? ⟨wk.heap.size, 6, none⟩ = some (.slice (some ⟨k4', 0, none⟩) pl ck4) ∧ wk.heap.size < wv.heap.size))
    (HRK : Hid (∀ wv, Below K.heap.size K wv → RulesIn wv ∧ Below w.heap.size w wv)) (HLE : Hid (rl ≤ 4 ∧ cl ≤ 12 ∧ dl ≤ 4 ∧ pl ≤ 8)) (HB : Hid (Below K.heap.size K wr)) :
    Code.wp Tryd.prog (moreTail 21) (bodyPost Tryd.prog Tryd.f11 fun e w' => e = .returned (.bool true) ∧ Below w.heap.size w w') ⟨(c0 :: c1 :: c2 :: c3 :: (.pointer (some ⟨w.heap.size, 0, none⟩)) :: c5 :: c6 :: c7 :: c8 :: c9 :: c10 :: c11 :: c12 :: c13 :: c14 :: c15 :: c16 :: (.pointer (some ⟨wk.heap.size, 0, none⟩)) :: c18 :: c19 :: c20 :: c21 :: c22 :: c23 :: c24 :: c25 :: c26 :: c27 :: c28 :: c29 :: c30 :: c31 :: c32 :: c33 :: c34 :: c35 :: c36 :: c37 :: c38 :: c39 :: c40 :: c41 :: c42 :: c43 :: c44 :: c45 :: c46 :: c47 :: c48 :: c49 :: c50 :: c51 :: c52 :: c53 :: c54 :: c55 :: c56 :: c57 :: c58 :: c59 :: c60 :: c61 :: c62 :: c63 :: c64 :: c65 :: c66 :: c67 :: c68 :: c69 :: c70 :: c71 :: c72 :: c73 :: c74 :: c75 :: c76 :: c77 :: c78 :: c79 :: c80 :: c81 :: c82 :: c83 :: c84 :: c85 :: c86 :: c87 :: c88 :: c89 :: c90 :: c91 :: c92 :: c93 :: c94 :: c95 :: c96 :: c97 :: c98 :: c99 :: c100 :: c101 :: c102 :: c103 :: c104 :: c105 :: c106 :: c107 :: c108 :: c109 :: c110 :: c111 :: c112 :: c113 :: c114 :: c115 :: c116 :: c117 :: c118 :: c119 :: c120 :: c121 :: c122 :: c123 :: c124 :: c125 :: c126 :: c127 :: c128 :: c129 :: c130 :: c131 :: c132 :: c133 :: c134 :: c135 :: c136 :: c137 :: c138 :: c139 :: c140 :: c141 :: c142 :: c143 :: c144 :: c145 :: c146 :: c147 :: c148 :: c149 :: c150 :: c151 :: c152 :: c153 :: c154 :: c155 :: c156 :: c157 :: c158 :: c159 :: c160 :: c161 :: c162 :: c163 :: c164 :: c165 :: c166 :: c167 :: c168 :: c169 :: c170 :: c171 :: c172 :: c173 :: c174 :: c175 :: c176 :: c177 :: c178 :: c179 :: c180 :: c181 :: c182 :: c183 :: c184 :: c185 :: c186 :: c187 :: c188 :: c189 :: c190 :: c191 :: c192 :: c193 :: c194 :: c195 :: c196 :: c197 :: c198 :: c199 :: c200 :: c201 :: c202 :: c203 :: c204 :: c205 :: c206 :: c207 :: c208 :: c209 :: c210 :: c211 :: c212 :: c213 :: c214 :: c215 :: c216 :: c217 :: c218 :: c219 :: c220 :: c221 :: c222 :: c223 :: c224 :: c225 :: c226 :: c227 :: c228 :: c229 :: c230 :: c231 :: c232 :: c233 :: c234 :: c235 :: c236 :: c237 :: c238 :: c239 :: c240 :: c241 :: c242 :: c243 :: c244 :: c245 :: c246 :: c247 :: c248 :: c249 :: c250 :: c251 :: c252 :: c253 :: c254 :: c255 :: c256 :: c257 :: c258 :: c259 :: c260 :: c261 :: c262 :: c263 :: c264 :: c265 :: c266 :: c267 :: c268 :: c269 :: c270 :: c271 :: c272 :: c273 :: c274 :: c275 :: c276 :: c277 :: c278 :: c279 :: c280 :: c281 :: c282 :: c283 :: c284 :: c285 :: c286 :: c287 :: c288 :: c289 :: c290 :: c291 :: c292 :: c293 :: c294 :: c295 :: c296 :: c297 :: c298 :: c299 :: c300 :: c301 :: c302 :: c303 :: c304 :: c305 :: c306 :: c307 :: c308 :: c309 :: c310 :: c311 :: c312 :: c313 :: c314 :: c315 :: c316 :: c317 :: c318 :: c319 :: c320 :: c321 :: c322 :: c323 :: c324 :: c325 :: c326 :: c327 :: c328 :: c329 :: c330 :: c331 :: c332 :: c333 :: c334 :: c335 :: c336 :: c337 :: c338 :: c339 :: c340 :: c341 :: c342 :: c343 :: c344 :: c345 :: c346 :: c347 :: c348 :: c349 :: c350 :: c351 :: c352 :: c353 :: c354 :: c355 :: c356 :: c357 :: c358 :: c359 :: c360 :: c361 :: c362 :: c363 :: c364 :: c365 :: c366 :: c367 :: c368 :: c369 :: c370 :: c371 :: c372 :: c373 :: c374 :: c375 :: c376 :: c377 :: c378 :: c379 :: c380 :: c381 :: c382 :: c383 :: c384 :: c385 :: c386 :: c387 :: c388 :: c389 :: c390 :: c391 :: c392 :: c393 :: c394 :: c395 :: c396 :: c397 :: c398 :: c399 :: c400 :: c401 :: c402 :: c403 :: c404 :: c405 :: c406 :: c407 :: c408 :: c409 :: c410 :: c411 :: c412 :: c413 :: c414 :: c415 :: c416 :: c417 :: []).toArray, []⟩ wr := by
  conv => arg 2; whnf
  obtain ⟨a4, a5, hdl, a11⟩ := HLE.out
  obtain ⟨x0, x1, x2, x3, x4, x5, x6, x7, x8⟩ := HF3.out _ HB.out
  obtain ⟨z1, z2, z5, z6, z7⟩ := HFK.out _ HB.out
  go_wp2
  clear x0 x1 x2 x3 x4 x5 x6 x7 x8 z1 z2 z5 z6 z7
  rename ∀ a w, Code.wp Tryd.prog (moreTail 22) _ a w → _ => hKT
  have HKT := Lib.hid hKT
  clear hKT
  go_loopw [348] (fun i wr => ∃ k : Nat, i = .int .i64 k ∧ k ≤ cl ∧ Hid (Below K.heap.size K wr)) (fun i _ => cl - (intOf i).toNat)
  case atStart => exact ⟨0, rfl, Nat.zero_le _, HB.out⟩
  case round =>
    obtain ⟨k, rfl, hk, HBR⟩ := hrel
    obtain ⟨x0, x1, x2, x3, x4, x5, x6, x7, x8⟩ := HF3.out _ HBR.out
    obtain ⟨z1, z2, z5, z6, z7⟩ := HFK.out _ HBR.out
    by_cases hlt : k < cl
    · obtain ⟨c, hc⟩ : ∃ c, p.calls[k]? = some c := ⟨p.calls[k]'(by have := (HPB2.out _ HBR.out).ecl; omega), by simp⟩
      obtain ⟨b, off, rfl, hbl, g0, g1, g2, g3, g4⟩ := (HPB2.out _ HBR.out).hcalls k c hc
      obtain ⟨b', off', he, hbl', h0, h1, h2, h3, h4⟩ := (HPK.out _ HBR.out).hcalls k c hc
      obtain ⟨rfl, rfl⟩ : k2' = b' ∧ 0 = off' := by simpa using he
      rw [Nat.zero_add] at h0 h1 h2 h3 h4
      clear he hc
      have hw1 : IntKind.i64.wrap ((k : Int) + 1) = (k : Int) + 1 := IntWalk.i64_in _ (by omega)
      go_wp2
      refine wp_region_havoc [(0,false),(1,false),(2,false),(3,false),(4,false),(5,false),(6,false),(7,false),(8,false),(9,false),(10,false)] [] (fun _ _ => False) (by kernel_rfl) (by kernel_rfl) (fun _ _ _ _ h => h.elim) ?_
      (apply hav_same (by simp only [List.getElem?_toArray, List.getElem?_cons_zero]; rfl) (by kernel_rfl); (focus (intro wv hgv _; have hcv : ∀ b o, b < _ → wv.cell? ⟨b, o, none⟩ = _ := fun b o hb => Below.cell hgv (p := ⟨b, o, none⟩) hb; go_simp; try rfl; done)); simp only [Act.put, List.setIfInBounds_toArray, List.set_cons_succ, List.set_cons_zero])
      iterate 10 (apply hav_same (by simp only [List.getElem?_toArray, List.getElem?_cons_succ, List.getElem?_cons_zero]; rfl) (by kernel_rfl); (focus (intro wv hgv _; have hcv : ∀ b o, b < _ → wv.cell? ⟨b, o, none⟩ = _ := fun b o hb => Below.cell hgv (p := ⟨b, o, none⟩) hb; go_simp; try rfl; done)); simp only [Act.put, List.setIfInBounds_toArray, List.set_cons_succ, List.set_cons_zero])
      refine hav_end (fun wd hgwd _ => ?_); simp only [List.filterMap]; have hcwd : ∀ b o, b < _ → wd.cell? ⟨b, o, none⟩ = _ := fun b o hb => Below.cell hgwd (p := ⟨b, o, none⟩) hb; have hfwd : ∀ b o, b < _ → wd.frozen? ⟨b, o, none⟩ = _ := fun b o hb => Below.frozen hgwd (p := ⟨b, o, none⟩) hb; have hzwd := Below.size hgwd; (try simp at hzwd)
      have HBd : Hid (Below K.heap.size K wd) := HBR.out.trans (hgwd.mono HBR.out.size)
      clear hgwd hcwd hfwd x0 x1 x2 x3 x4 x5 x6 x7 x8 z1 z2 z5 z6 z7 g0 h0 g1 h1 g2 h2 g3 h3 g4 h4
      go_wp2
      go_roundw
      case rel => exact ⟨k + 1, by go_num, by omega, HBd.out⟩
      case measure => simp [intOf]; omega
    · obtain rfl : cl = k := by omega
      clear x0 x1 x2 x3 x4 x5 x6 x7 x8 z1 z2 z5 z6 z7
      go_wp2_with fail
      exact HKT.out _ _ (more_t22 HF3 HPB2 HPK HFK HRK HLE HBR)
end
end Go.Proofs.YtlcolpnniipgbaaDoor
namespace Go.Proofs.YtlcolpnniipgbaaDoor
open Go.RowKit Go.Hav
/-- A block of a span, read in a later world. -/
theorem span_cells {L wv : World} {b : Nat} {x y : Int} (h : Blk L b 34 #[.int .i64 x, .int .i64 y]) (hb : Below L.heap.size L wv) : wv.cell? ⟨b, 0, none⟩ = some (.int .i64 x) ∧ wv.cell? ⟨b, 1, none⟩ = some (.int .i64 y) ∧ b < wv.heap.size := by
  have h' := h.below hb h.lt
  exact ⟨h'.cell 0, h'.cell 1, h'.lt⟩
/-- What is returned of a pay whose shearers are numbered otherwise. -/
theorem turn_ans {p : PayD} {b b' : Bool} (hv : payB p = true) (hb : b = true) (hb' : b' = true) {s s' S : Sp} {e : Int} (h1 : spanR (checkE p b true) s = (S, e)) (hs : s' = s) : spanR (checkE (turnP p) b' true) s' = (S, e) := by
  subst hs
  by_cases ht : wrongI p = 0
  · rw [spanR_ok hv ht hb] at h1
    rw [spanR_ok (payB_turn hv) ((wrong_turn hv).trans ht) hb']; exact h1
  · rw [spanR_clash hv ht hb] at h1
    rw [spanR_clash (payB_turn hv) (by rw [wrong_turn hv]; exact ht) hb']; exact h1
section
variable {people rate bill : Int} {ra ca da pa : Option Addr} {rl rc cl cc dl dc pl pc : Nat} {p : PayD}
set_option maxRecDepth 100000 in
set_option maxHeartbeats 6400000 in
theorem more_t18 {c0 c1 c2 c3 c5 c6 c7 c8 c11 c12 c13 c15 c16 c18 c23 c24 c25 c26 c27 c28 c29 c30 c31 c32 c33 c34 c35 c36 c37 c38 c39 c40 c41 c42 c43 c44 c45 c46 c47 c48 c49 c50 c51 c52 c53 c54 c55 c56 c57 c58 c59 c60 c61 c62 c63 c64 c65 c66 c67 c68 c69 c70 c71 c72 c73 c74 c75 c76 c77 c78 c79 c80 c81 c82 c83 c84 c85 c86 c87 c88 c89 c90 c91 c92 c93 c94 c95 c96 c97 c98 c99 c100 c101 c102 c103 c104 c105 c106 c107 c108 c109 c110 c111 c112 c113 c114 c115 c116 c117 c118 c119 c120 c121 c122 c123 c124 c125 c126 c127 c128 c129 c130 c131 c132 c133 c134 c135 c136 c137 c138 c139 c140 c141 c142 c143 c144 c145 c146 c147 c148 c149 c150 c151 c152 c153 c154 c155 c156 c157 c158 c159 c160 c161 c162 c163 c164 c165 c166 c167 c168 c169 c170 c171 c172 c173 c174 c175 c176 c177 c178 c179 c180 c181 c182 c183 c184 c185 c186 c187 c188 c189 c190 c191 c192 c193 c194 c195 c196 c197 c198 c199 c200 c201 c202 c203 c204 c205 c206 c207 c208 c209 c210 c211 c212 c213 c214 c215 c216 c217 c218 c219 c220 c221 c222 c223 c224 c225 c226 c227 c228 c229 c230 c231 c232 c233 c234 c235 c236 c237 c238 c239 c240 c241 c242 c243 c244 c245 c246 c247 c248 c249 c250 c251 c252 c253 c254 c255 c256 c257 c258 c259 c260 c261 c262 c263 c264 c265 c266 c267 c268 c269 c270 c271 c272 c273 c274 c275 c276 c277 c278 c279 c280 c281 c282 c283 c284 c285 c286 c287 c288 c289 c290 c291 c292 c293 c294 c295 c296 c297 c298 c299 c300 c301 c302 c303 c304 c305 c306 c307 c308 c309 c310 c311 c312 c313 c314 c315 c316 c317 c318 c319 c320 c321 c322 c323 c324 c325 c326 c327 c328 c329 c330 c331 c332 c333 c334 c335 c336 c337 c338 c339 c340 c341 c342 c343 c344 c345 c346 c347 c348 c349 c350 c351 c352 c353 c354 c355 c356 c357 c358 c359 c360 c361 c362 c363 c364 c365 c366 c367 c368 c369 c370 c371 c372 c373 c374 c375 c376 c377 c378 c379 c380 c381 c382 c383 c384 c385 c386 c387 c388 c389 c390 c391 c392 c393 c394 c395 c396 c397 c398 c399 c400 c401 c402 c403 c404 c405 c406 c407 c408 c409 c410 c411 c412 c413 c414 c415 c416 c417 : Value} {w wk K wr : World} {k1' ck1 k2' ck2 k3' ck3 k4' ck4 : Nat}
    (HF3 : Hid (∀ wv, Below K.heap.size K wv → wv.cell? ⟨w.heap.size, 0, none⟩ = some (.int .i64 people) ∧ wv.cell? ⟨w.heap.size, 1, none⟩ = some (.slice ra rl rc) ∧ wv.cell? ⟨w.heap.size, 2, none⟩ = some (.slice ca cl cc) ∧
          wv.cell? ⟨w.heap.size, 3, none⟩ = some (.int .i64 rate) ∧ wv.cell? ⟨w.heap.size, 4, none⟩ = some (.int .i64 bill) ∧ wv.cell? ⟨w.heap.size, 5, none⟩ = some (.slice da dl dc) ∧ wv.cell? ⟨w.heap.size, 6, none⟩ = some (.slice pa pl pc) ∧ w.heap.size < wv.heap.size ∧ K.heap.size ≤ wv.heap.size))
    (HPB2 : Hid (∀ wv, Below K.heap.size K wv → PayIn wv wv.heap.size people ra rl ca cl rate bill da dl pa pl p)) (HPK : Hid (∀ wv, Below K.heap.size K wv → PayIn wv wv.heap.size people (some ⟨k1', 0, none⟩) rl (some ⟨k2', 0, none⟩) cl rate bill (some ⟨k3', 0, none⟩) dl (some ⟨k4', 0, none⟩) pl p))
    (HFK : Hid (∀ wv, Below K.heap.size K wv → wv.cell? ⟨wk.heap.size, 1, none⟩ = some (.slice (some ⟨k1', 0, none⟩) rl ck1) ∧ wv.cell? ⟨wk.heap.size, 2, none⟩ = some (.slice (some ⟨k2', 0, none⟩) cl ck2) ∧
              wv.cell? ⟨wk.heap.size, 5, none⟩ = some (.slice (some ⟨k3', 0, none⟩) dl ck3) ∧ wv.cell? ⟨wk.heap.size, 6, none⟩ = some (.slice (some ⟨k4', 0, none⟩) pl ck4) ∧ wk.heap.size < wv.heap.size))
    (HRK : Hid (∀ wv, Below K.heap.size K wv → RulesIn wv ∧ Below w.heap.size w wv)) (HLE : Hid (rl ≤ 4 ∧ cl ≤ 12 ∧ dl ≤ 4 ∧ pl ≤ 8)) (HB : Hid (Below K.heap.size K wr)) {X4 bA bB gt1 ct1 gt2 ct2 gt3 ct3 gt4 ct4 run : Nat} {A1 A2 B1 B2 E who : Int}
    (HX : Hid (∀ wv, Below K.heap.size K wv → wv.cell? ⟨X4, 0, none⟩ = some (.int .i64 people) ∧ wv.cell? ⟨X4, 1, none⟩ = some (.slice (some ⟨gt1, 0, none⟩) rl ct1) ∧ wv.cell? ⟨X4, 2, none⟩ = some (.slice (some ⟨gt2, 0, none⟩) cl ct2) ∧
      wv.cell? ⟨X4, 3, none⟩ = some (.int .i64 rate) ∧ wv.cell? ⟨X4, 4, none⟩ = some (.int .i64 bill) ∧ wv.cell? ⟨X4, 5, none⟩ = some (.slice (some ⟨gt3, 0, none⟩) dl ct3) ∧ wv.cell? ⟨X4, 6, none⟩ = some (.slice (some ⟨gt4, 0, none⟩) pl ct4) ∧ X4 < wv.heap.size))
    (HPT : Hid (∀ wv, Below K.heap.size K wv → PayIn wv wv.heap.size people (some ⟨gt1, 0, none⟩) rl (some ⟨gt2, 0, none⟩) cl rate bill (some ⟨gt3, 0, none⟩) dl (some ⟨gt4, 0, none⟩) pl (turnP p)))
    (HTA : Hid (spanR (checkE (turnP p) (whoB (turnP p) (people - 1 - who) && runB (turnP p) run) true) (sheepS (turnP p) (people - 1 - who) run) = (⟨A1, A2⟩, E)))
    (HTB : Hid (spanR (checkE (turnP p) (whoB (turnP p) (people - 1 - who)) true) (wagesP (turnP p) (people - 1 - who)) = (⟨B1, B2⟩, E)))
    (HA : Hid (Blk wr bA 34 #[.int .i64 A1, .int .i64 A2])) (HBb : Hid (Blk wr bB 34 #[.int .i64 B1, .int .i64 B2])) (who0 : 0 ≤ who) (who1 : who < people) (hp4 : people ≤ 4) :
    Code.wp Tryd.prog (moreTail 18) (bodyPost Tryd.prog Tryd.f11 fun e w' => e = .returned (.bool true) ∧ Below w.heap.size w w') ⟨(c0 :: c1 :: c2 :: c3 :: (.pointer (some ⟨w.heap.size, 0, none⟩)) :: c5 :: c6 :: c7 :: c8 :: (.int .i64 (run : Int)) :: (.int .i64 who) :: c11 :: c12 :: c13 :: (.pointer (some ⟨X4, 0, none⟩)) :: c15 :: c16 :: (.pointer (some ⟨wk.heap.size, 0, none⟩)) :: c18 :: (.pointer (some ⟨bA, 0, none⟩)) :: (.int .i64 E) :: (.pointer (some ⟨bB, 0, none⟩)) :: (.int .i64 E) :: c23 :: c24 :: c25 :: c26 :: c27 :: c28 :: c29 :: c30 :: c31 :: c32 :: c33 :: c34 :: c35 :: c36 :: c37 :: c38 :: c39 :: c40 :: c41 :: c42 :: c43 :: c44 :: c45 :: c46 :: c47 :: c48 :: c49 :: c50 :: c51 :: c52 :: c53 :: c54 :: c55 :: c56 :: c57 :: c58 :: c59 :: c60 :: c61 :: c62 :: c63 :: c64 :: c65 :: c66 :: c67 :: c68 :: c69 :: c70 :: c71 :: c72 :: c73 :: c74 :: c75 :: c76 :: c77 :: c78 :: c79 :: c80 :: c81 :: c82 :: c83 :: c84 :: c85 :: c86 :: c87 :: c88 :: c89 :: c90 :: c91 :: c92 :: c93 :: c94 :: c95 :: c96 :: c97 :: c98 :: c99 :: c100 :: c101 :: c102 :: c103 :: c104 :: c105 :: c106 :: c107 :: c108 :: c109 :: c110 :: c111 :: c112 :: c113 :: c114 :: c115 :: c116 :: c117 :: c118 :: c119 :: c120 :: c121 :: c122 :: c123 :: c124 :: c125 :: c126 :: c127 :: c128 :: c129 :: c130 :: c131 :: c132 :: c133 :: c134 :: c135 :: c136 :: c137 :: c138 :: c139 :: c140 :: c141 :: c142 :: c143 :: c144 :: c145 :: c146 :: c147 :: c148 :: c149 :: c150 :: c151 :: c152 :: c153 :: c154 :: c155 :: c156 :: c157 :: c158 :: c159 :: c160 :: c161 :: c162 :: c163 :: c164 :: c165 :: c166 :: c167 :: c168 :: c169 :: c170 :: c171 :: c172 :: c173 :: c174 :: c175 :: c176 :: c177 :: c178 :: c179 :: c180 :: c181 :: c182 :: c183 :: c184 :: c185 :: c186 :: c187 :: c188 :: c189 :: c190 :: c191 :: c192 :: c193 :: c194 :: c195 :: c196 :: c197 :: c198 :: c199 :: c200 :: c201 :: c202 :: c203 :: c204 :: c205 :: c206 :: c207 :: c208 :: c209 :: c210 :: c211 :: c212 :: c213 :: c214 :: c215 :: c216 :: c217 :: c218 :: c219 :: c220 :: c221 :: c222 :: c223 :: c224 :: c225 :: c226 :: c227 :: c228 :: c229 :: c230 :: c231 :: c232 :: c233 :: c234 :: c235 :: c236 :: c237 :: c238 :: c239 :: c240 :: c241 :: c242 :: c243 :: c244 :: c245 :: c246 :: c247 :: c248 :: c249 :: c250 :: c251 :: c252 :: c253 :: c254 :: c255 :: c256 :: c257 :: c258 :: c259 :: c260 :: c261 :: c262 :: c263 :: c264 :: c265 :: c266 :: c267 :: c268 :: c269 :: c270 :: c271 :: c272 :: c273 :: c274 :: c275 :: c276 :: c277 :: c278 :: c279 :: c280 :: c281 :: c282 :: c283 :: c284 :: c285 :: c286 :: c287 :: c288 :: c289 :: c290 :: c291 :: c292 :: c293 :: c294 :: c295 :: c296 :: c297 :: c298 :: c299 :: c300 :: c301 :: c302 :: c303 :: c304 :: c305 :: c306 :: c307 :: c308 :: c309 :: c310 :: c311 :: c312 :: c313 :: c314 :: c315 :: c316 :: c317 :: c318 :: c319 :: c320 :: c321 :: c322 :: c323 :: c324 :: c325 :: c326 :: c327 :: c328 :: c329 :: c330 :: c331 :: c332 :: c333 :: c334 :: c335 :: c336 :: c337 :: c338 :: c339 :: c340 :: c341 :: c342 :: c343 :: c344 :: c345 :: c346 :: c347 :: c348 :: c349 :: c350 :: c351 :: c352 :: c353 :: c354 :: c355 :: c356 :: c357 :: c358 :: c359 :: c360 :: c361 :: c362 :: c363 :: c364 :: c365 :: c366 :: c367 :: c368 :: c369 :: c370 :: c371 :: c372 :: c373 :: c374 :: c375 :: c376 :: c377 :: c378 :: c379 :: c380 :: c381 :: c382 :: c383 :: c384 :: c385 :: c386 :: c387 :: c388 :: c389 :: c390 :: c391 :: c392 :: c393 :: c394 :: c395 :: c396 :: c397 :: c398 :: c399 :: c400 :: c401 :: c402 :: c403 :: c404 :: c405 :: c406 :: c407 :: c408 :: c409 :: c410 :: c411 :: c412 :: c413 :: c414 :: c415 :: c416 :: c417 :: []).toArray, []⟩ wr := by
  conv => arg 2; whnf
  have j1 : IntKind.i64.wrap (people - 1) = people - 1 := IntWalk.i64_in _ (by omega)
  have j2 : IntKind.i64.wrap (people - 1 - who) = people - 1 - who := IntWalk.i64_in _ (by omega)
  obtain ⟨x0, x1, x2, x3, x4, x5, x6, x7, x8⟩ := HF3.out _ HB.out
  obtain ⟨z0, z1, z2, z3, z4, z5, z6, z7⟩ := HX.out _ HB.out
  go_wp2_with fail
  refine (PSheep_any (p := turnP p) (people - 1 - who) run _ (by exact HPT.out _ HB.out)).mono ?_
  rw [HTA.out]
  simp only [spV]
  rintro e9 wf ⟨rfl, hbf⟩
  have HBf : Hid (Below wr.heap.size wr wf) := hbf
  have HBfK : Hid (Below K.heap.size K wf) := HB.out.trans (hbf.mono HB.out.size)
  clear hbf x0 x1 x2 x3 x4 x5 x6 x7 x8 z0 z1 z2 z3 z4 z5 z6 z7
  obtain ⟨x0, x1, x2, x3, x4, x5, x6, x7, x8⟩ := HF3.out _ HBfK.out
  obtain ⟨z0, z1, z2, z3, z4, z5, z6, z7⟩ := HX.out _ HBfK.out
  go_wp2_with fail
  refine (PWages_any (p := turnP p) (people - 1 - who) _ (by exact HPT.out _ (HBfK.out.alloc x8 _))).mono ?_
  rw [HTB.out]
  simp only [spV]
  rintro e10 wg ⟨rfl, hbg⟩
  have HBg : Hid (Below wr.heap.size wr wg) := (HBf.out.alloc HBf.out.size _).trans (hbg.mono (HBf.out.alloc HBf.out.size _).size)
  have HBgK : Hid (Below K.heap.size K wg) := HB.out.trans (HBg.out.mono HB.out.size)
  have HKv1 : Hid (Blk wg wf.heap.size 34 #[.int .i64 A1, .int .i64 A2]) := (Blk.new_ rfl _ _).below hbg (by simp)
  have HA2 : Hid (Blk wg bA 34 #[.int .i64 A1, .int .i64 A2]) := HA.out.below HBg.out HA.out.lt
  have HB2 : Hid (Blk wg bB 34 #[.int .i64 B1, .int .i64 B2]) := HBb.out.below HBg.out HBb.out.lt
  clear hbg x0 x1 x2 x3 x4 x5 x6 x7 x8 z0 z1 z2 z3 z4 z5 z6 z7
  obtain ⟨cc0, cc1, cc2⟩ := span_cells HKv1.out (Below.refl _ _)
  obtain ⟨dd0, dd1, dd2⟩ := span_cells HA2.out (Below.refl _ _)
  obtain ⟨dd3, dd4, dd5⟩ := span_cells HB2.out (Below.refl _ _)
  have HBgB : Hid (Below K.heap.size K (wg.alloc (.cells #[.int .i64 B1, .int .i64 B2] 34))) := HBgK.out.alloc HBgK.out.size _
  go_upto_region 37 with fail
  rename ∀ a w, Code.wp Tryd.prog (moreTail 21) _ a w → _ => hKT
  have HKT := Lib.hid hKT
  clear hKT
  go_wp2_with fail
  exact HKT.out _ _ (more_t21 HF3 HPB2 HPK HFK HRK HLE HBgB)
end
end Go.Proofs.YtlcolpnniipgbaaDoor
