/- PressMore's code from behind: the two loops that look whether the arguments were changed. Conditions: what the boxes hold, as hypotheses. PressMore's code from behind: what the plan returns is written over, and the plan is asked for again. Conditions: what the boxes hold, as hypotheses. -/
import Derived.Test.YtbfjebglaimcmaaLawN0
import Derived.Test.YtbfjebglaimcmaaPlain7
namespace Go.Proofs.Ytbfjebglaimcmaa
open Go.RowKit Go.Hav
/-- The code behind the first n limbs of a chain. -/
def dropSeq : Nat → Code → Code
  | 0, c => c
  | n + 1, .seq _ b => dropSeq n b
  | _ + 1, c => c
def headSeq : Code → Code
  | .seq a _ => a
  | c => c
def tailSeq : Code → Code
  | .seq _ b => b
  | c => c
def innerC : Code → Code
  | .block _ c => c
  | .loop c => c
  | .scope c => c
  | c => c
noncomputable def moreTail (n : Nat) : Code := dropSeq n (Try.f10.body.getD .skip)
def boxC (fa : Option Addr) (fl fc : Nat) (low top bales : Int) (wa : Option Addr) (wl wp : Nat) : Array Value := #[.slice fa fl fc, .int .i64 low, .int .i64 top, .int .i64 bales, .slice wa wl wp]
theorem boxC_cells {w : World} {b : Nat} {fa wa : Option Addr} {fl fc wl wp : Nat} {low top bales : Int} (h : Blk w b 25 (boxC fa fl fc low top bales wa wl wp)) :
    w.cell? ⟨b, 0, none⟩ = some (.slice fa fl fc) ∧ w.cell? ⟨b, 1, none⟩ = some (.int .i64 low) ∧ w.cell? ⟨b, 2, none⟩ = some (.int .i64 top) ∧ w.cell? ⟨b, 3, none⟩ = some (.int .i64 bales) ∧ w.cell? ⟨b, 4, none⟩ = some (.slice wa wl wp) ∧ b < w.heap.size :=
  ⟨h.cell 0, h.cell 1, h.cell 2, h.cell 3, h.cell 4, h.lt⟩
/-- What the end of PressMore leans on: the box of the press, and copies of its lists. -/
structure MoreC (w K : World) (b : Nat) (fa : Option Addr) (fl fc : Nat) (low top bales : Int) (wa : Option Addr) (wl wp : Nat) (p : PressD) (A1 A2 : Option Addr) : Prop where
  bw : Below w.heap.size w K
  box : Blk K b 25 (boxC fa fl fc low top bales wa wl wp)
  hp : PressIn K K.heap.size fa fl low top bales wa wl p
  h1 : RdG flF 3 K K.heap.size A1 p.fl
  h2 : RdG baF 3 K K.heap.size A2 p.weighed
theorem MoreC.below {w K K' : World} {b : Nat} {fa : Option Addr} {fl fc : Nat} {low top bales : Int} {wa : Option Addr} {wl wp : Nat} {p : PressD} {A1 A2 : Option Addr} (h : MoreC w K b fa fl fc low top bales wa wl wp p A1 A2) (hb : Below K.heap.size K K') : MoreC w K' b fa fl fc low top bales wa wl wp p A1 A2 :=
  ⟨h.bw.trans (hb.mono h.bw.size), h.box.below hb h.box.lt, h.hp.grow hb, h.h1.grow hb, h.h2.grow hb⟩
section
variable {w K : World} {b : Nat} {fa wa A1 A2 : Option Addr} {fl fc wl wp c1 c2 : Nat} {low top bales : Int} {p : PressD}
set_option maxRecDepth 100000 in
set_option maxHeartbeats 6400000 in
theorem more_t25 (hC : MoreC w K b fa fl fc low top bales wa wl wp p A1 A2) (hwl : wl ≤ 100) {s0 s1 s2 s3 s5 s6 s7 s8 s9 s10 s11 s12 s13 s14 s15 s16 s17 s18 s19 s20 s22 s23 s24 s25 s26 s27 s28 s29 s30 s31 s32 s33 s34 s35 s36 s37 s38 s39 s40 s41 s42 s43 s44 s45 s46 s47 s48 s49 s50 s51 s52 s53 s54 s55 s56 s57 s58 s59 s60 s61 s62 s63 s64 s65 s66 s67 s68 s69 s70 s71 s72 s73 s74 s75 s76 s77 s78 s79 s80 s81 s82 s83 s84 s85 s86 s87 s88 s89 s90 s91 s92 s93 s94 s95 s96 s97 s98 s99 s100 s101 s102 s103 s104 s105 s106 s107 s108 s109 s110 s111 s112 s113 s114 s115 s116 s117 s118 s119 s120 s121 s122 s123 s124 s125 s126 s127 s128 s129 s130 s131 s132 s133 s134 s135 s136 s137 s138 s139 s140 s141 s142 s143 s144 s145 s146 s147 s148 s149 s150 s151 s152 s153 s154 s155 s156 s157 s158 s159 s160 s161 s162 s163 s164 s165 s166 s167 s168 s169 s170 s171 s172 s173 s174 s175 s176 s177 s178 s179 s180 s181 s182 s183 s184 s185 s186 s187 s188 s189 s190 s191 s192 s193 s194 s195 s196 s197 s198 s199 s200 s201 s202 s203 s204 s205 s206 s207 s208 s209 s210 s211 s212 s213 s214 s215 s216 s217 s218 s219 s220 s221 s222 s223 s224 s225 s226 s227 s228 s229 s230 s231 s232 s233 s234 s235 s236 s237 s238 s239 s240 s241 s242 s243 s244 s245 s246 s247 s248 s249 s250 s251 s252 s253 s254 s255 s256 s257 s258 s259 s260 s261 s262 s263 s264 s265 s266 s267 s268 s269 s270 s271 s272 s273 s274 s275 s276 s277 s278 s279 s280 s281 s282 s283 s284 s285 s286 s287 s288 s289 s290 s291 s292 s293 s294 s295 s296 s297 s298 s299 s300 s301 s302 s303 s304 s305 s306 s307 s308 s309 s310 s311 s312 s313 s314 s315 s316 s317 s318 s319 s320 s321 s322 s323 s324 s325 s326 s327 s328 s329 s330 s331 s332 s333 s334 s335 s336 s337 s338 s339 s340 s341 s342 s343 s344 s345 s346 s347 s348 s349 s350 s351 s352 s353 s354 s355 s356 s357 s358 s359 s360 s361 s362 s363 s364 s365 s366 s367 s368 s369 s370 s371 s372 s373 s374 s375 s376 s377 s378 s379 s380 s381 s382 s383 s384 s385 s386 s387 s388 s389 s390 s391 s392 s393 s394 s395 s396 s397 s398 s399 s400 s401 s402 : Value} :
    Code.wp Try.prog (moreTail 25) (bodyPost Try.prog Try.f10 fun e w' => e = .returned (.bool true) ∧ Below w.heap.size w w') ⟨(s0 :: s1 :: s2 :: s3 :: (.pointer (some ⟨b, 0, none⟩)) :: s5 :: s6 :: s7 :: s8 :: s9 :: s10 :: s11 :: s12 :: s13 :: s14 :: s15 :: s16 :: s17 :: s18 :: s19 :: s20 :: (.slice A2 wl c2) :: s22 :: s23 :: s24 :: s25 :: s26 :: s27 :: s28 :: s29 :: s30 :: s31 :: s32 :: s33 :: s34 :: s35 :: s36 :: s37 :: s38 :: s39 :: s40 :: s41 :: s42 :: s43 :: s44 :: s45 :: s46 :: s47 :: s48 :: s49 :: s50 :: s51 :: s52 :: s53 :: s54 :: s55 :: s56 :: s57 :: s58 :: s59 :: s60 :: s61 :: s62 :: s63 :: s64 :: s65 :: s66 :: s67 :: s68 :: s69 :: s70 :: s71 :: s72 :: s73 :: s74 :: s75 :: s76 :: s77 :: s78 :: s79 :: s80 :: s81 :: s82 :: s83 :: s84 :: s85 :: s86 :: s87 :: s88 :: s89 :: s90 :: s91 :: s92 :: s93 :: s94 :: s95 :: s96 :: s97 :: s98 :: s99 :: s100 :: s101 :: s102 :: s103 :: s104 :: s105 :: s106 :: s107 :: s108 :: s109 :: s110 :: s111 :: s112 :: s113 :: s114 :: s115 :: s116 :: s117 :: s118 :: s119 :: s120 :: s121 :: s122 :: s123 :: s124 :: s125 :: s126 :: s127 :: s128 :: s129 :: s130 :: s131 :: s132 :: s133 :: s134 :: s135 :: s136 :: s137 :: s138 :: s139 :: s140 :: s141 :: s142 :: s143 :: s144 :: s145 :: s146 :: s147 :: s148 :: s149 :: s150 :: s151 :: s152 :: s153 :: s154 :: s155 :: s156 :: s157 :: s158 :: s159 :: s160 :: s161 :: s162 :: s163 :: s164 :: s165 :: s166 :: s167 :: s168 :: s169 :: s170 :: s171 :: s172 :: s173 :: s174 :: s175 :: s176 :: s177 :: s178 :: s179 :: s180 :: s181 :: s182 :: s183 :: s184 :: s185 :: s186 :: s187 :: s188 :: s189 :: s190 :: s191 :: s192 :: s193 :: s194 :: s195 :: s196 :: s197 :: s198 :: s199 :: s200 :: s201 :: s202 :: s203 :: s204 :: s205 :: s206 :: s207 :: s208 :: s209 :: s210 :: s211 :: s212 :: s213 :: s214 :: s215 :: s216 :: s217 :: s218 :: s219 :: s220 :: s221 :: s222 :: s223 :: s224 :: s225 :: s226 :: s227 :: s228 :: s229 :: s230 :: s231 :: s232 :: s233 :: s234 :: s235 :: s236 :: s237 :: s238 :: s239 :: s240 :: s241 :: s242 :: s243 :: s244 :: s245 :: s246 :: s247 :: s248 :: s249 :: s250 :: s251 :: s252 :: s253 :: s254 :: s255 :: s256 :: s257 :: s258 :: s259 :: s260 :: s261 :: s262 :: s263 :: s264 :: s265 :: s266 :: s267 :: s268 :: s269 :: s270 :: s271 :: s272 :: s273 :: s274 :: s275 :: s276 :: s277 :: s278 :: s279 :: s280 :: s281 :: s282 :: s283 :: s284 :: s285 :: s286 :: s287 :: s288 :: s289 :: s290 :: s291 :: s292 :: s293 :: s294 :: s295 :: s296 :: s297 :: s298 :: s299 :: s300 :: s301 :: s302 :: s303 :: s304 :: s305 :: s306 :: s307 :: s308 :: s309 :: s310 :: s311 :: s312 :: s313 :: s314 :: s315 :: s316 :: s317 :: s318 :: s319 :: s320 :: s321 :: s322 :: s323 :: s324 :: s325 :: s326 :: s327 :: s328 :: s329 :: s330 :: s331 :: s332 :: s333 :: s334 :: s335 :: s336 :: s337 :: s338 :: s339 :: s340 :: s341 :: s342 :: s343 :: s344 :: s345 :: s346 :: s347 :: s348 :: s349 :: s350 :: s351 :: s352 :: s353 :: s354 :: s355 :: s356 :: s357 :: s358 :: s359 :: s360 :: s361 :: s362 :: s363 :: s364 :: s365 :: s366 :: s367 :: s368 :: s369 :: s370 :: s371 :: s372 :: s373 :: s374 :: s375 :: s376 :: s377 :: s378 :: s379 :: s380 :: s381 :: s382 :: s383 :: s384 :: s385 :: s386 :: s387 :: s388 :: s389 :: s390 :: s391 :: s392 :: s393 :: s394 :: s395 :: s396 :: s397 :: s398 :: s399 :: s400 :: s401 :: s402 :: []).toArray, []⟩ K := by
  conv => arg 2; whnf
  have HC := Lib.hid hC
  have HEW : Hid (p.weighed.length = wl) := hC.hp.ewl
  clear hC
  go_wp2
  go_loopw [388] (fun i wr => ∃ k : Nat, k ≤ wl ∧ i = .int .i64 k ∧ Hid (MoreC w wr b fa fl fc low top bales wa wl wp p A1 A2)) (fun i _ => wl - (intOf i).toNat)
  case atStart => exact ⟨0, Nat.zero_le _, rfl, HC⟩
  case round =>
    obtain ⟨k, hk, rfl, HR⟩ := hrel
    obtain ⟨x0, x1, x2, x3, x4, xl⟩ := boxC_cells HR.out.box
    by_cases hlt : k < wl
    · obtain ⟨c, hc⟩ : ∃ c, p.weighed[k]? = some c := ⟨_, List.getElem?_eq_getElem (by rw [HEW.out]; exact hlt)⟩
      obtain ⟨g, off, hA, hgl, g0, g1, g2⟩ := rd_ba HR.out.hp.hwl k c hc
      obtain ⟨g', off', hA', hgl', h0, h1, h2⟩ := rd_ba HR.out.h2 k c hc
      subst hA hA'
      clear hc
      go_wp2
      refine wp_region_havoc [(0,false),(1,false),(2,false),(3,false),(4,false),(5,false),(6,false),(7,false),(8,false),(9,false)] [] (fun _ _ => False) (by kernel_rfl) (by kernel_rfl) (fun _ _ _ _ h => h.elim) ?_
      (apply hav_same (by simp only [List.getElem?_toArray, List.getElem?_cons_zero]; rfl) (by kernel_rfl); (focus (intro wv hgv _; have hcv : ∀ b o, b < _ → wv.cell? ⟨b, o, none⟩ = _ := fun b o hb => Below.cell hgv (p := ⟨b, o, none⟩) hb; (try go_simp); try rfl; done)); simp only [Act.put, List.setIfInBounds_toArray, List.set_cons_succ, List.set_cons_zero])
      iterate 9 (apply hav_same (by simp only [List.getElem?_toArray, List.getElem?_cons_succ, List.getElem?_cons_zero]; rfl) (by kernel_rfl); (focus (intro wv hgv _; have hcv : ∀ b o, b < _ → wv.cell? ⟨b, o, none⟩ = _ := fun b o hb => Below.cell hgv (p := ⟨b, o, none⟩) hb; (try go_simp); try rfl; done)); simp only [Act.put, List.setIfInBounds_toArray, List.set_cons_succ, List.set_cons_zero])
      refine hav_end (fun wd hgwd _ => ?_); simp only [List.filterMap]; have hcwd : ∀ b o, b < _ → wd.cell? ⟨b, o, none⟩ = _ := fun b o hb => Below.cell hgwd (p := ⟨b, o, none⟩) hb; have hfwd : ∀ b o, b < _ → wd.frozen? ⟨b, o, none⟩ = _ := fun b o hb => Below.frozen hgwd (p := ⟨b, o, none⟩) hb; have hzwd := Below.size hgwd; (try simp at hzwd)
      have HRd := Lib.hid (HR.out.below hgwd)
      clear hgwd hcwd hfwd x0 x1 x2 x3 x4 xl g0 g1 g2 h0 h1 h2
      go_wp2
      go_roundw
      case rel => exact ⟨k + 1, by omega, by go_num, HRd⟩
      case measure => simp [intOf]; omega
    · obtain rfl : wl = k := by omega
      clear x0 x1 x2 x3 x4 xl
      go_wp2_with fail
      refine (awake_any _).mono ?_
      rintro e wz ⟨rfl, hbz⟩
      go_wp2
      go_ret
      exact ⟨rfl, HR.out.bw.trans (hbz.mono HR.out.bw.size)⟩
set_option maxRecDepth 100000 in
set_option maxHeartbeats 6400000 in
theorem more_t24 (hC : MoreC w K b fa fl fc low top bales wa wl wp p A1 A2) (hwl : wl ≤ 100) (hfl : fl ≤ 100) {s0 s1 s2 s3 s5 s6 s7 s8 s9 s10 s11 s12 s13 s14 s15 s16 s17 s18 s19 s22 s23 s24 s25 s26 s27 s28 s29 s30 s31 s32 s33 s34 s35 s36 s37 s38 s39 s40 s41 s42 s43 s44 s45 s46 s47 s48 s49 s50 s51 s52 s53 s54 s55 s56 s57 s58 s59 s60 s61 s62 s63 s64 s65 s66 s67 s68 s69 s70 s71 s72 s73 s74 s75 s76 s77 s78 s79 s80 s81 s82 s83 s84 s85 s86 s87 s88 s89 s90 s91 s92 s93 s94 s95 s96 s97 s98 s99 s100 s101 s102 s103 s104 s105 s106 s107 s108 s109 s110 s111 s112 s113 s114 s115 s116 s117 s118 s119 s120 s121 s122 s123 s124 s125 s126 s127 s128 s129 s130 s131 s132 s133 s134 s135 s136 s137 s138 s139 s140 s141 s142 s143 s144 s145 s146 s147 s148 s149 s150 s151 s152 s153 s154 s155 s156 s157 s158 s159 s160 s161 s162 s163 s164 s165 s166 s167 s168 s169 s170 s171 s172 s173 s174 s175 s176 s177 s178 s179 s180 s181 s182 s183 s184 s185 s186 s187 s188 s189 s190 s191 s192 s193 s194 s195 s196 s197 s198 s199 s200 s201 s202 s203 s204 s205 s206 s207 s208 s209 s210 s211 s212 s213 s214 s215 s216 s217 s218 s219 s220 s221 s222 s223 s224 s225 s226 s227 s228 s229 s230 s231 s232 s233 s234 s235 s236 s237 s238 s239 s240 s241 s242 s243 s244 s245 s246 s247 s248 s249 s250 s251 s252 s253 s254 s255 s256 s257 s258 s259 s260 s261 s262 s263 s264 s265 s266 s267 s268 s269 s270 s271 s272 s273 s274 s275 s276 s277 s278 s279 s280 s281 s282 s283 s284 s285 s286 s287 s288 s289 s290 s291 s292 s293 s294 s295 s296 s297 s298 s299 s300 s301 s302 s303 s304 s305 s306 s307 s308 s309 s310 s311 s312 s313 s314 s315 s316 s317 s318 s319 s320 s321 s322 s323 s324 s325 s326 s327 s328 s329 s330 s331 s332 s333 s334 s335 s336 s337 s338 s339 s340 s341 s342 s343 s344 s345 s346 s347 s348 s349 s350 s351 s352 s353 s354 s355 s356 s357 s358 s359 s360 s361 s362 s363 s364 s365 s366 s367 s368 s369 s370 s371 s372 s373 s374 s375 s376 s377 s378 s379 s380 s381 s382 s383 s384 s385 s386 s387 s388 s389 s390 s391 s392 s393 s394 s395 s396 s397 s398 s399 s400 s401 s402 : Value} :
    Code.wp Try.prog (moreTail 24) (bodyPost Try.prog Try.f10 fun e w' => e = .returned (.bool true) ∧ Below w.heap.size w w') ⟨(s0 :: s1 :: s2 :: s3 :: (.pointer (some ⟨b, 0, none⟩)) :: s5 :: s6 :: s7 :: s8 :: s9 :: s10 :: s11 :: s12 :: s13 :: s14 :: s15 :: s16 :: s17 :: s18 :: s19 :: (.slice A1 fl c1) :: (.slice A2 wl c2) :: s22 :: s23 :: s24 :: s25 :: s26 :: s27 :: s28 :: s29 :: s30 :: s31 :: s32 :: s33 :: s34 :: s35 :: s36 :: s37 :: s38 :: s39 :: s40 :: s41 :: s42 :: s43 :: s44 :: s45 :: s46 :: s47 :: s48 :: s49 :: s50 :: s51 :: s52 :: s53 :: s54 :: s55 :: s56 :: s57 :: s58 :: s59 :: s60 :: s61 :: s62 :: s63 :: s64 :: s65 :: s66 :: s67 :: s68 :: s69 :: s70 :: s71 :: s72 :: s73 :: s74 :: s75 :: s76 :: s77 :: s78 :: s79 :: s80 :: s81 :: s82 :: s83 :: s84 :: s85 :: s86 :: s87 :: s88 :: s89 :: s90 :: s91 :: s92 :: s93 :: s94 :: s95 :: s96 :: s97 :: s98 :: s99 :: s100 :: s101 :: s102 :: s103 :: s104 :: s105 :: s106 :: s107 :: s108 :: s109 :: s110 :: s111 :: s112 :: s113 :: s114 :: s115 :: s116 :: s117 :: s118 :: s119 :: s120 :: s121 :: s122 :: s123 :: s124 :: s125 :: s126 :: s127 :: s128 :: s129 :: s130 :: s131 :: s132 :: s133 :: s134 :: s135 :: s136 :: s137 :: s138 :: s139 :: s140 :: s141 :: s142 :: s143 :: s144 :: s145 :: s146 :: s147 :: s148 :: s149 :: s150 :: s151 :: s152 :: s153 :: s154 :: s155 :: s156 :: s157 :: s158 :: s159 :: s160 :: s161 :: s162 :: s163 :: s164 :: s165 :: s166 :: s167 :: s168 :: s169 :: s170 :: s171 :: s172 :: s173 :: s174 :: s175 :: s176 :: s177 :: s178 :: s179 :: s180 :: s181 :: s182 :: s183 :: s184 :: s185 :: s186 :: s187 :: s188 :: s189 :: s190 :: s191 :: s192 :: s193 :: s194 :: s195 :: s196 :: s197 :: s198 :: s199 :: s200 :: s201 :: s202 :: s203 :: s204 :: s205 :: s206 :: s207 :: s208 :: s209 :: s210 :: s211 :: s212 :: s213 :: s214 :: s215 :: s216 :: s217 :: s218 :: s219 :: s220 :: s221 :: s222 :: s223 :: s224 :: s225 :: s226 :: s227 :: s228 :: s229 :: s230 :: s231 :: s232 :: s233 :: s234 :: s235 :: s236 :: s237 :: s238 :: s239 :: s240 :: s241 :: s242 :: s243 :: s244 :: s245 :: s246 :: s247 :: s248 :: s249 :: s250 :: s251 :: s252 :: s253 :: s254 :: s255 :: s256 :: s257 :: s258 :: s259 :: s260 :: s261 :: s262 :: s263 :: s264 :: s265 :: s266 :: s267 :: s268 :: s269 :: s270 :: s271 :: s272 :: s273 :: s274 :: s275 :: s276 :: s277 :: s278 :: s279 :: s280 :: s281 :: s282 :: s283 :: s284 :: s285 :: s286 :: s287 :: s288 :: s289 :: s290 :: s291 :: s292 :: s293 :: s294 :: s295 :: s296 :: s297 :: s298 :: s299 :: s300 :: s301 :: s302 :: s303 :: s304 :: s305 :: s306 :: s307 :: s308 :: s309 :: s310 :: s311 :: s312 :: s313 :: s314 :: s315 :: s316 :: s317 :: s318 :: s319 :: s320 :: s321 :: s322 :: s323 :: s324 :: s325 :: s326 :: s327 :: s328 :: s329 :: s330 :: s331 :: s332 :: s333 :: s334 :: s335 :: s336 :: s337 :: s338 :: s339 :: s340 :: s341 :: s342 :: s343 :: s344 :: s345 :: s346 :: s347 :: s348 :: s349 :: s350 :: s351 :: s352 :: s353 :: s354 :: s355 :: s356 :: s357 :: s358 :: s359 :: s360 :: s361 :: s362 :: s363 :: s364 :: s365 :: s366 :: s367 :: s368 :: s369 :: s370 :: s371 :: s372 :: s373 :: s374 :: s375 :: s376 :: s377 :: s378 :: s379 :: s380 :: s381 :: s382 :: s383 :: s384 :: s385 :: s386 :: s387 :: s388 :: s389 :: s390 :: s391 :: s392 :: s393 :: s394 :: s395 :: s396 :: s397 :: s398 :: s399 :: s400 :: s401 :: s402 :: []).toArray, []⟩ K := by
  conv => arg 2; whnf
  have HC := Lib.hid hC
  have HEW : Hid (p.fl.length = fl) := hC.hp.efl
  clear hC
  go_wp2
  rename ∀ a w, Code.wp Try.prog (moreTail 25) _ a w → _ => hKT
  have HKT := Lib.hid hKT
  clear hKT
  go_loopw [372] (fun i wr => ∃ k : Nat, k ≤ fl ∧ i = .int .i64 k ∧ Hid (MoreC w wr b fa fl fc low top bales wa wl wp p A1 A2)) (fun i _ => fl - (intOf i).toNat)
  case atStart => exact ⟨0, Nat.zero_le _, rfl, HC⟩
  case round =>
    obtain ⟨k, hk, rfl, HR⟩ := hrel
    obtain ⟨x0, x1, x2, x3, x4, xl⟩ := boxC_cells HR.out.box
    by_cases hlt : k < fl
    · obtain ⟨c, hc⟩ : ∃ c, p.fl[k]? = some c := ⟨_, List.getElem?_eq_getElem (by rw [HEW.out]; exact hlt)⟩
      obtain ⟨g, off, hA, hgl, g0, g1, g2⟩ := rd_fl HR.out.hp.hfl k c hc
      obtain ⟨g', off', hA', hgl', h0, h1, h2⟩ := rd_fl HR.out.h1 k c hc
      subst hA hA'
      clear hc
      go_wp2
      refine wp_region_havoc [(0,false),(1,false),(2,false),(3,false),(4,false),(5,false),(6,false),(7,false),(8,false),(9,false)] [] (fun _ _ => False) (by kernel_rfl) (by kernel_rfl) (fun _ _ _ _ h => h.elim) ?_
      (apply hav_same (by simp only [List.getElem?_toArray, List.getElem?_cons_zero]; rfl) (by kernel_rfl); (focus (intro wv hgv _; have hcv : ∀ b o, b < _ → wv.cell? ⟨b, o, none⟩ = _ := fun b o hb => Below.cell hgv (p := ⟨b, o, none⟩) hb; (try go_simp); try rfl; done)); simp only [Act.put, List.setIfInBounds_toArray, List.set_cons_succ, List.set_cons_zero])
      iterate 9 (apply hav_same (by simp only [List.getElem?_toArray, List.getElem?_cons_succ, List.getElem?_cons_zero]; rfl) (by kernel_rfl); (focus (intro wv hgv _; have hcv : ∀ b o, b < _ → wv.cell? ⟨b, o, none⟩ = _ := fun b o hb => Below.cell hgv (p := ⟨b, o, none⟩) hb; (try go_simp); try rfl; done)); simp only [Act.put, List.setIfInBounds_toArray, List.set_cons_succ, List.set_cons_zero])
      refine hav_end (fun wd hgwd _ => ?_); simp only [List.filterMap]; have hcwd : ∀ b o, b < _ → wd.cell? ⟨b, o, none⟩ = _ := fun b o hb => Below.cell hgwd (p := ⟨b, o, none⟩) hb; have hfwd : ∀ b o, b < _ → wd.frozen? ⟨b, o, none⟩ = _ := fun b o hb => Below.frozen hgwd (p := ⟨b, o, none⟩) hb; have hzwd := Below.size hgwd; (try simp at hzwd)
      have HRd := Lib.hid (HR.out.below hgwd)
      clear hgwd hcwd hfwd x0 x1 x2 x3 x4 xl g0 g1 g2 h0 h1 h2
      go_wp2
      go_roundw
      case rel => exact ⟨k + 1, by omega, by go_num, HRd⟩
      case measure => simp [intOf]; omega
    · obtain rfl : fl = k := by omega
      clear x0 x1 x2 x3 x4 xl
      go_wp2_with fail
      exact HKT.out _ _ (more_t25 HR.out hwl)
end
end Go.Proofs.Ytbfjebglaimcmaa
namespace Go.Proofs.Ytbfjebglaimcmaa
open Go.RowKit Go.Hav
theorem inF_one (x : Int) : ∀ u ∈ inF x, u.oneCell' = true := fun u hu => by simp [inF] at hu; subst hu; rfl
section
variable {w K : World} {b : Nat} {fa wa A1 A2 : Option Addr} {fl fc wl wp c1 c2 : Nat} {low top bales E : Int} {p : PressD}
set_option maxRecDepth 100000 in
set_option maxHeartbeats 6400000 in
theorem more_t20 (hC : MoreC w K b fa fl fc low top bales wa wl wp p A1 A2) (hwl : wl ≤ 100) (hfl : fl ≤ 100) (hv : p.ok = true) (hE : planE p = E) {s0 s1 s2 s3 s5 s6 s7 s8 s9 s10 s11 s12 s13 s14 s15 s16 s17 s18 s19 s22 s24 s25 s26 s27 s28 s29 s30 s31 s32 s33 s34 s35 s36 s37 s38 s39 s40 s41 s42 s43 s44 s45 s46 s47 s48 s49 s50 s51 s52 s53 s54 s55 s56 s57 s58 s59 s60 s61 s62 s63 s64 s65 s66 s67 s68 s69 s70 s71 s72 s73 s74 s75 s76 s77 s78 s79 s80 s81 s82 s83 s84 s85 s86 s87 s88 s89 s90 s91 s92 s93 s94 s95 s96 s97 s98 s99 s100 s101 s102 s103 s104 s105 s106 s107 s108 s109 s110 s111 s112 s113 s114 s115 s116 s117 s118 s119 s120 s121 s122 s123 s124 s125 s126 s127 s128 s129 s130 s131 s132 s133 s134 s135 s136 s137 s138 s139 s140 s141 s142 s143 s144 s145 s146 s147 s148 s149 s150 s151 s152 s153 s154 s155 s156 s157 s158 s159 s160 s161 s162 s163 s164 s165 s166 s167 s168 s169 s170 s171 s172 s173 s174 s175 s176 s177 s178 s179 s180 s181 s182 s183 s184 s185 s186 s187 s188 s189 s190 s191 s192 s193 s194 s195 s196 s197 s198 s199 s200 s201 s202 s203 s204 s205 s206 s207 s208 s209 s210 s211 s212 s213 s214 s215 s216 s217 s218 s219 s220 s221 s222 s223 s224 s225 s226 s227 s228 s229 s230 s231 s232 s233 s234 s235 s236 s237 s238 s239 s240 s241 s242 s243 s244 s245 s246 s247 s248 s249 s250 s251 s252 s253 s254 s255 s256 s257 s258 s259 s260 s261 s262 s263 s264 s265 s266 s267 s268 s269 s270 s271 s272 s273 s274 s275 s276 s277 s278 s279 s280 s281 s282 s283 s284 s285 s286 s287 s288 s289 s290 s291 s292 s293 s294 s295 s296 s297 s298 s299 s300 s301 s302 s303 s304 s305 s306 s307 s308 s309 s310 s311 s312 s313 s314 s315 s316 s317 s318 s319 s320 s321 s322 s323 s324 s325 s326 s327 s328 s329 s330 s331 s332 s333 s334 s335 s336 s337 s338 s339 s340 s341 s342 s343 s344 s345 s346 s347 s348 s349 s350 s351 s352 s353 s354 s355 s356 s357 s358 s359 s360 s361 s362 s363 s364 s365 s366 s367 s368 s369 s370 s371 s372 s373 s374 s375 s376 s377 s378 s379 s380 s381 s382 s383 s384 s385 s386 s387 s388 s389 s390 s391 s392 s393 s394 s395 s396 s397 s398 s399 s400 s401 s402 : Value} :
    Code.wp Try.prog (moreTail 20) (bodyPost Try.prog Try.f10 fun e w' => e = .returned (.bool true) ∧ Below w.heap.size w w') ⟨(s0 :: s1 :: s2 :: s3 :: (.pointer (some ⟨b, 0, none⟩)) :: s5 :: s6 :: s7 :: s8 :: s9 :: s10 :: s11 :: s12 :: s13 :: s14 :: s15 :: s16 :: s17 :: s18 :: s19 :: (.slice A1 fl c1) :: (.slice A2 wl c2) :: s22 :: (.int .i64 E) :: s24 :: s25 :: s26 :: s27 :: s28 :: s29 :: s30 :: s31 :: s32 :: s33 :: s34 :: s35 :: s36 :: s37 :: s38 :: s39 :: s40 :: s41 :: s42 :: s43 :: s44 :: s45 :: s46 :: s47 :: s48 :: s49 :: s50 :: s51 :: s52 :: s53 :: s54 :: s55 :: s56 :: s57 :: s58 :: s59 :: s60 :: s61 :: s62 :: s63 :: s64 :: s65 :: s66 :: s67 :: s68 :: s69 :: s70 :: s71 :: s72 :: s73 :: s74 :: s75 :: s76 :: s77 :: s78 :: s79 :: s80 :: s81 :: s82 :: s83 :: s84 :: s85 :: s86 :: s87 :: s88 :: s89 :: s90 :: s91 :: s92 :: s93 :: s94 :: s95 :: s96 :: s97 :: s98 :: s99 :: s100 :: s101 :: s102 :: s103 :: s104 :: s105 :: s106 :: s107 :: s108 :: s109 :: s110 :: s111 :: s112 :: s113 :: s114 :: s115 :: s116 :: s117 :: s118 :: s119 :: s120 :: s121 :: s122 :: s123 :: s124 :: s125 :: s126 :: s127 :: s128 :: s129 :: s130 :: s131 :: s132 :: s133 :: s134 :: s135 :: s136 :: s137 :: s138 :: s139 :: s140 :: s141 :: s142 :: s143 :: s144 :: s145 :: s146 :: s147 :: s148 :: s149 :: s150 :: s151 :: s152 :: s153 :: s154 :: s155 :: s156 :: s157 :: s158 :: s159 :: s160 :: s161 :: s162 :: s163 :: s164 :: s165 :: s166 :: s167 :: s168 :: s169 :: s170 :: s171 :: s172 :: s173 :: s174 :: s175 :: s176 :: s177 :: s178 :: s179 :: s180 :: s181 :: s182 :: s183 :: s184 :: s185 :: s186 :: s187 :: s188 :: s189 :: s190 :: s191 :: s192 :: s193 :: s194 :: s195 :: s196 :: s197 :: s198 :: s199 :: s200 :: s201 :: s202 :: s203 :: s204 :: s205 :: s206 :: s207 :: s208 :: s209 :: s210 :: s211 :: s212 :: s213 :: s214 :: s215 :: s216 :: s217 :: s218 :: s219 :: s220 :: s221 :: s222 :: s223 :: s224 :: s225 :: s226 :: s227 :: s228 :: s229 :: s230 :: s231 :: s232 :: s233 :: s234 :: s235 :: s236 :: s237 :: s238 :: s239 :: s240 :: s241 :: s242 :: s243 :: s244 :: s245 :: s246 :: s247 :: s248 :: s249 :: s250 :: s251 :: s252 :: s253 :: s254 :: s255 :: s256 :: s257 :: s258 :: s259 :: s260 :: s261 :: s262 :: s263 :: s264 :: s265 :: s266 :: s267 :: s268 :: s269 :: s270 :: s271 :: s272 :: s273 :: s274 :: s275 :: s276 :: s277 :: s278 :: s279 :: s280 :: s281 :: s282 :: s283 :: s284 :: s285 :: s286 :: s287 :: s288 :: s289 :: s290 :: s291 :: s292 :: s293 :: s294 :: s295 :: s296 :: s297 :: s298 :: s299 :: s300 :: s301 :: s302 :: s303 :: s304 :: s305 :: s306 :: s307 :: s308 :: s309 :: s310 :: s311 :: s312 :: s313 :: s314 :: s315 :: s316 :: s317 :: s318 :: s319 :: s320 :: s321 :: s322 :: s323 :: s324 :: s325 :: s326 :: s327 :: s328 :: s329 :: s330 :: s331 :: s332 :: s333 :: s334 :: s335 :: s336 :: s337 :: s338 :: s339 :: s340 :: s341 :: s342 :: s343 :: s344 :: s345 :: s346 :: s347 :: s348 :: s349 :: s350 :: s351 :: s352 :: s353 :: s354 :: s355 :: s356 :: s357 :: s358 :: s359 :: s360 :: s361 :: s362 :: s363 :: s364 :: s365 :: s366 :: s367 :: s368 :: s369 :: s370 :: s371 :: s372 :: s373 :: s374 :: s375 :: s376 :: s377 :: s378 :: s379 :: s380 :: s381 :: s382 :: s383 :: s384 :: s385 :: s386 :: s387 :: s388 :: s389 :: s390 :: s391 :: s392 :: s393 :: s394 :: s395 :: s396 :: s397 :: s398 :: s399 :: s400 :: s401 :: s402 :: []).toArray, []⟩ K := by
  conv => arg 2; whnf
  have HC := Lib.hid hC
  have HE := Lib.hid hE
  obtain ⟨Z, hZ⟩ : ∃ Z, intsP p = Z := ⟨_, rfl⟩
  obtain ⟨n, hn⟩ : ∃ n, Z.length = n := ⟨_, rfl⟩
  have hn5 : n ≤ 5 := by
    rw [← hn, ← hZ]
    unfold intsP
    split
    · rw [intZ_len]; exact (planP_bd hv).1
    · simp
  have HZ := Lib.hid hZ
  have HN := Lib.hid hn
  obtain ⟨x0, x1, x2, x3, x4, xl⟩ := boxC_cells hC.box
  clear hC hE hZ hn hv
  go_wp2_with fail
  refine (PPlan_any (p := p) K (by exact HC.out.hp)).mono ?_
  rw [HE.out, HZ.out]
  rintro e v2 ⟨v, rfl, hown, hb2⟩
  have HB2 : Hid (Below K.heap.size K v2) := hb2
  have hrow : ∃ LA lc, v = .slice LA n lc ∧ RdG inF 1 v2 v2.heap.size LA Z ∧ (0 < n → ∃ g cur, LA = some ⟨g, 0, none⟩ ∧ K.heap.size ≤ g ∧ Blk v2 g 3 cur ∧ n ≤ cur.size) := by
    rw [HN.out] at hown
    obtain ⟨LA, lc, rfl, hrd, -⟩ := own_rd (l := Z) inF_len (by decide) (by rw [HN.out]; exact hown)
    rw [HN.out] at hown ⊢
    refine ⟨LA, lc, rfl, hrd, fun h0 => ?_⟩
    rcases hown.2 with ⟨_, h⟩ | ⟨g, cap, cur, h, hg, hh, hle, hm, hsz, ht⟩
    · omega
    · injection h with h1 _ _
      exact ⟨g, cur, h1, hg, hh, by omega⟩
  obtain ⟨LA, lc, rfl, hrd, hblk⟩ := hrow
  have HR2 := Lib.hid hrd
  have HK2 := Lib.hid hblk
  clear hown hb2 hrd hblk x0 x1 x2 x3 x4 xl
  have hs2 := HB2.out.size
  obtain ⟨i0, hi, hz0, hz1, hz2⟩ := info_parts Try.infoE3
  have HI := Lib.hid hi
  have HI0 := Lib.hid hz0
  have HI1 := Lib.hid hz1
  have HI2 := Lib.hid hz2
  clear hi hz0 hz1 hz2
  have HOWN := Lib.hid (ownsRow_empty (w := v2) (g := v2.heap.size) rfl 3 1)
  have HBA : Hid (Below v2.heap.size v2 (v2.alloc (Obj.cells #[] 3))) := (Below.refl _ _).alloc (Nat.le_refl _) _
  have HRA := Lib.hid (HR2.out.below HBA.out)
  go_wp2_with (at_builtin; refine wpList_append_row rfl _ _ 38 rfl v2.heap.size 3 i0 _ 1 8 Try.underlying38 HI.out HI0.out HI1.out HI2.out rfl (by decide) inF_len inF_one v2.heap.size 0 0 [] rfl HOWN.out LA n lc _ Z rfl HN.out HRA.out (by omega) (by omega) (by simp) ?_)
  intro g3 c3 v3 hown3 hb3
  have hown3 : v3.ownsRow v2.heap.size 3 1 (.slice (some ⟨g3, 0, none⟩) n c3) n (Z.flatMap inF) := by simpa using hown3
  have HG3 : Hid (v2.heap.size ≤ g3) := (own_blk hown3).choose_spec.2.1
  have HR3 : Hid (RdG inF 1 v3 v3.heap.size (some ⟨g3, 0, none⟩) Z) := RdG.of_own inF_len (by decide) hown3 (Nat.le_refl _) rfl
  have HB23 : Hid (Below v2.heap.size v2 v3) := HBA.out.trans hb3
  have HB3 : Hid (Below K.heap.size K v3) := HB2.out.trans (HB23.out.mono hs2)
  have HK3 : Hid (0 < n → ∃ g cur, LA = some ⟨g, 0, none⟩ ∧ K.heap.size ≤ g ∧ g < v2.heap.size ∧ Blk v3 g 3 cur ∧ n ≤ cur.size) := fun h0 => by
    obtain ⟨g, cur, h1, h2, h3, h4⟩ := HK2.out h0
    exact ⟨g, cur, h1, h2, h3.lt, h3.below HB23.out h3.lt, h4⟩
  clear hown3 hb3
  go_wp2
  rename ∀ a w, Code.wp Try.prog (moreTail 23) _ a w → _ => hKT
  have HKT := Lib.hid hKT
  clear hKT
  go_loopw [349] (fun i wr => ∃ k : Nat, k ≤ n ∧ i = .int .i64 k ∧ Hid (Below K.heap.size K wr) ∧ Hid (RdG inF 1 wr wr.heap.size (some ⟨g3, 0, none⟩) Z) ∧ Hid (0 < n → ∃ g cur, LA = some ⟨g, 0, none⟩ ∧ K.heap.size ≤ g ∧ g < v2.heap.size ∧ Blk wr g 3 cur ∧ n ≤ cur.size)) (fun i _ => n - (intOf i).toNat)
  case atStart => exact ⟨0, Nat.zero_le _, rfl, HB3, HR3, HK3⟩
  case round =>
    obtain ⟨k, hk, rfl, HB, HR, HK⟩ := hrel
    by_cases hlt : k < n
    · obtain ⟨g, cur, hLA, hg1, hg2, hbk, hcs⟩ := HK.out (by omega)
      subst hLA
      have z0 := hbk.cell k
      have zf := hbk.frozen k
      have zl := hbk.lt
      obtain ⟨u, hu⟩ : ∃ u, cur[k]? = some u := ⟨_, Array.getElem?_eq_getElem (by omega)⟩
      rw [hu] at z0
      have HBS : Hid (Below K.heap.size K (wr.setCell ⟨g, k, none⟩ (.int .i64 (-9)))) := setCell_below HB.out hg1 _ _
      have HRS : Hid (RdG inF 1 (wr.setCell ⟨g, k, none⟩ (.int .i64 (-9))) (wr.setCell ⟨g, k, none⟩ (.int .i64 (-9))).heap.size (some ⟨g3, 0, none⟩) Z) := by
        have h := HR.out.keep (w' := wr.setCell ⟨g, k, none⟩ (.int .i64 (-9))) (fun b' _ ⟨off, e⟩ => by
          injection e with e
          injection e with e _
          exact Below.heap_setCell wr ⟨g, k, none⟩ _ b' (by have := HG3.out; show b' ≠ g; omega))
        have h2 : RdG inF 1 (wr.setCell ⟨g, k, none⟩ (.int .i64 (-9))) (wr.setCell ⟨g, k, none⟩ (.int .i64 (-9))).heap.size (some ⟨g3, 0, none⟩) Z := by simpa using h
        exact h2
      have HKS : Hid (0 < n → ∃ g' cur, some (⟨g, 0, none⟩ : Addr) = some ⟨g', 0, none⟩ ∧ K.heap.size ≤ g' ∧ g' < v2.heap.size ∧ Blk (wr.setCell ⟨g, k, none⟩ (.int .i64 (-9))) g' 3 cur ∧ n ≤ cur.size) := fun _ => ⟨g, _, rfl, hg1, hg2, hbk.set_ k _, by simp; exact hcs⟩
      clear hbk hcs hu
      go_wp2
      go_roundw
      case rel => exact ⟨k + 1, by omega, by go_num, HBS, HRS, HKS⟩
      case measure => simp [intOf]; omega
    · obtain rfl : n = k := by omega
      have hC := HC.out.below HB.out
      have HC4 := Lib.hid hC
      obtain ⟨x0, x1, x2, x3, x4, xl⟩ := boxC_cells hC.box
      clear hC
      go_wp2_with fail
      refine HKT.out _ _ ?_
      clear HKT
      conv => arg 2; whnf
      go_wp2_with fail
      rename ∀ a w, Code.wp Try.prog (moreTail 24) _ a w → _ => hKU
      have HKU := Lib.hid hKU
      clear hKU
      refine (PPlan_any (p := p) wr (by exact HC4.out.hp)).mono ?_
      rw [HE.out, HZ.out]
      rintro e v5 ⟨v, rfl, hown, hb5⟩
      obtain ⟨LB, ld, rfl, hrd, -⟩ := own_rd (l := Z) inF_len (by decide) hown
      rw [HN.out]
      have HR5 := Lib.hid hrd
      have HO5 : Hid (RdG inF 1 v5 v5.heap.size (some ⟨g3, 0, none⟩) Z) := HR.out.grow hb5
      have HC5 := Lib.hid (HC4.out.below hb5)
      clear hown hrd hb5 x0 x1 x2 x3 x4 xl
      go_wp2_with fail
      refine (ints_any (l := Z) (l2 := Z) (by omega) HN.out (by omega) HN.out v5 HR5.out HO5.out).mono ?_
      rw [decide_eq_true rfl]
      rintro e v6 ⟨rfl, hb6⟩
      have HC6 := Lib.hid (HC5.out.below hb6)
      clear hb6
      go_wp2_with fail
      exact HKU.out _ _ (more_t24 HC6.out hwl hfl)
end
end Go.Proofs.Ytbfjebglaimcmaa
