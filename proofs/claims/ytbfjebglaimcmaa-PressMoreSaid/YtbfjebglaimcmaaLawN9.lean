/- PressMore's code from where a fleece is known better on. Conditions: what the boxes hold, as hypotheses. -/
import Derived.Test.YtbfjebglaimcmaaLawN8
import Derived.Deep.Cut
namespace Go.Proofs.Ytbfjebglaimcmaa
open Go.RowKit Go.Hav
/-- The boxes of PressMore before one of them is given a bale more to press. -/
structure MoreA (w K : World) (gt b gx gy gz gn : Nat) (fa : Option Addr) (fl fc : Nat) (low top bales : Int) (wa : Option Addr) (wl wp : Nat) (xa : Option Addr) (xl xc : Nat) (ya : Option Addr) (yc : Nat) (px py : PressD) : Prop where
  hgt : w.heap.size ≤ gt
  hgz : w.heap.size ≤ gz
  bw : Below w.heap.size w K
  box : Blk K b 25 (boxC fa fl fc low top bales wa wl wp)
  bx : Blk K gx 25 (boxC fa fl fc low top bales xa xl xc)
  by_ : Blk K gy 25 (boxC ya fl yc low top bales wa wl wp)
  bz : Blk K gz 25 (boxC fa fl fc low top bales wa wl wp)
  bt : Blk K gt 25 (boxC none 0 0 low top bales none 0 0)
  bn : Blk K gn 3 #[.int .i64 fl]
  ne : b ≠ gt ∧ gx ≠ gt ∧ gy ≠ gt ∧ gz ≠ gt ∧ b ≠ gz ∧ gx ≠ gz ∧ gy ≠ gz
  ox : K.ownsRow w.heap.size 56 3 (.slice xa xl xc) xl (px.weighed.flatMap baF)
  oy : K.ownsRow w.heap.size 58 3 (.slice ya fl yc) fl (py.fl.flatMap flF)
theorem blk_ne {K : World} {g g' : Nat} {t t' : TypeId} {cs cs' : Array Value} (h : Blk K g t cs) (h' : Blk K g' t' cs') (ht : t ≠ t') : g ≠ g' := fun e => by
  subst e
  have h1 : K.heap[g]? = some (.cells cs t (0, 0)) := h
  have h2 : K.heap[g]? = some (.cells cs' t' (0, 0)) := h'
  rw [h1] at h2
  injection h2 with h2
  injection h2 with _ h2 _
  exact ht h2
theorem own_setFar {K : World} {e t sz n B g o : Nat} {v u : Value} {xs : List Value} {cs : Array Value} (h : K.ownsRow B e sz v n xs) (hb : Blk K g t cs) (ht : e ≠ t) : (K.setCell ⟨g, o, none⟩ u).ownsRow B e sz v n xs :=
  own_keep h fun g' e' => Below.heap_setCell K ⟨g, o, none⟩ u g' (fun e2 => own_not h hb ht (by rw [e']; exact congrArg some e2))
section
variable {w K : World} {gt b gx gy gz gn : Nat} {fa wa xa ya : Option Addr} {fl fc wl wp xl xc yc s : Nat} {low top bales : Int} {p px py : PressD}
theorem MoreA.below {K' : World} (h : MoreA w K gt b gx gy gz gn fa fl fc low top bales wa wl wp xa xl xc ya yc px py) (hb : Below K.heap.size K K') : MoreA w K' gt b gx gy gz gn fa fl fc low top bales wa wl wp xa xl xc ya yc px py :=
  ⟨h.hgt, h.hgz, h.bw.trans (hb.mono h.bw.size), h.box.below hb h.box.lt, h.bx.below hb h.bx.lt, h.by_.below hb h.by_.lt, h.bz.below hb h.bz.lt, h.bt.below hb h.bt.lt, h.bn.below hb h.bn.lt, h.ne, own_below h.ox hb, own_below h.oy hb⟩
theorem MoreA.setZ (h : MoreA w K gt b gx gy gz gn fa fl fc low top bales wa wl wp xa xl xc ya yc px py) {m : Int} (hm : min 5 (p.bales + 1) = m) : MoreB w (K.setCell ⟨gz, 3, none⟩ (.int .i64 m)) gt b gx gy gz gn fa fl fc low top bales wa wl wp xa xl xc ya yc p px py ∧ Blk (K.setCell ⟨gz, 3, none⟩ (.int .i64 m)) gt 25 (boxC none 0 0 low top bales none 0 0) := by
  obtain ⟨n1, n2, n3, n4, n5, n6, n7⟩ := h.ne
  have n8 := blk_ne h.bn h.bz (by decide)
  have hz := h.bz.set_ 3 (.int .i64 m)
  refine ⟨⟨h.hgt, setCell_below h.bw h.hgz _ _, h.box.far (p := ⟨gz, 3, none⟩) n5 _, h.bx.far (p := ⟨gz, 3, none⟩) n6 _, h.by_.far (p := ⟨gz, 3, none⟩) n7 _, ?_, h.bn.far (p := ⟨gz, 3, none⟩) n8 _, ⟨n1, n2, n3, n4⟩, own_setFar h.ox h.bz (by decide), own_setFar h.oy h.bz (by decide)⟩, h.bt.far (p := ⟨gz, 3, none⟩) (Ne.symm n4) _⟩
  rw [hm]
  exact hz
/-- The k-th fleece of y has other weights. -/
theorem MoreA.setY (h : MoreA w K gt b gx gy gz gn fa fl fc low top bales wa wl wp xa xl xc ya yc px py) {g j o : Nat} {u : Value} {c c' : Fl} (hg : ya = some ⟨g, 0, none⟩) (hc : py.fl[j]? = some c) (ho : o < 3) (hu : flF c' = (flF c).set o u) {py' : PressD} (hp : py'.fl = py.fl.set j c') :
    MoreA w (K.setCell ⟨g, j * 3 + o, none⟩ u) gt b gx gy gz gn fa fl fc low top bales wa wl wp xa xl xc ya yc px py' := by
  have hoy := h.oy
  rw [hg] at hoy
  obtain ⟨cur, hk, hBg, -⟩ := own_blk hoy
  have n1 := blk_ne h.box hk (by decide)
  have n2 := blk_ne h.bx hk (by decide)
  have n3 := blk_ne h.by_ hk (by decide)
  have n4 := blk_ne h.bz hk (by decide)
  have n5 := blk_ne h.bt hk (by decide)
  have n6 := blk_ne h.bn hk (by decide)
  refine ⟨h.hgt, h.hgz, setCell_below h.bw hBg _ _, h.box.far (p := ⟨g, j * 3 + o, none⟩) n1 _, h.bx.far (p := ⟨g, j * 3 + o, none⟩) n2 _, h.by_.far (p := ⟨g, j * 3 + o, none⟩) n3 _, h.bz.far (p := ⟨g, j * 3 + o, none⟩) n4 _, h.bt.far (p := ⟨g, j * 3 + o, none⟩) n5 _, h.bn.far (p := ⟨g, j * 3 + o, none⟩) n6 _, h.ne, own_setFar h.ox hk (by decide), ?_⟩
  have h2 := own_set hoy (j * 3 + o) u
  rw [flat_set flF_len ho hc hu, ← hp, ← hg] at h2
  exact h2
set_option maxRecDepth 100000 in
set_option maxHeartbeats 6400000 in
theorem more_t6 (hP : PressIn w w.heap.size fa fl low top bales wa wl p) (hv : p.ok = true) (hA : MoreA w K gt b gx gy gz gn fa fl fc low top bales wa wl wp xa xl xc ya yc px py)
    (hFx : PressD.Finer p px) (hxl : px.weighed.length = xl) (hxs : xl ≤ 100) (hxf : px.fl = p.fl) (hFy : PressD.Finer p py) (hyw : py.weighed = p.weighed) (hSF : s ≤ full p.n) {s0 s1 s2 s3 s5 s6 s7 s8 s15 s16 s17 s18 s19 s20 s21 s22 s23 s24 s25 s26 s27 s28 s29 s30 s31 s32 s33 s34 s35 s36 s37 s38 s39 s40 s41 s42 s43 s44 s45 s46 s47 s48 s49 s50 s51 s52 s53 s54 s55 s56 s57 s58 s59 s60 s61 s62 s63 s64 s65 s66 s67 s68 s69 s70 s71 s72 s73 s74 s75 s76 s77 s78 s79 s80 s81 s82 s83 s84 s85 s86 s87 s88 s89 s90 s91 s92 s93 s94 s95 s96 s97 s98 s99 s100 s101 s102 s103 s104 s105 s106 s107 s108 s109 s110 s111 s112 s113 s114 s115 s116 s117 s118 s119 s120 s121 s122 s123 s124 s125 s126 s127 s128 s129 s130 s131 s132 s133 s134 s135 s136 s137 s138 s139 s140 s141 s142 s143 s144 s145 s146 s147 s148 s149 s150 s151 s152 s153 s154 s155 s156 s157 s158 s159 s160 s161 s162 s163 s164 s165 s166 s167 s168 s169 s170 s171 s172 s173 s174 s175 s176 s177 s178 s179 s180 s181 s182 s183 s184 s185 s186 s187 s188 s189 s190 s191 s192 s193 s194 s195 s196 s197 s198 s199 s200 s201 s202 s203 s204 s205 s206 s207 s208 s209 s210 s211 s212 s213 s214 s215 s216 s217 s218 s219 s220 s221 s222 s223 s224 s225 s226 s227 s228 s229 s230 s231 s232 s233 s234 s235 s236 s237 s238 s239 s240 s241 s242 s243 s244 s245 s246 s247 s248 s249 s250 s251 s252 s253 s254 s255 s256 s257 s258 s259 s260 s261 s262 s263 s264 s265 s266 s267 s268 s269 s270 s271 s272 s273 s274 s275 s276 s277 s278 s279 s280 s281 s282 s283 s284 s285 s286 s287 s288 s289 s290 s291 s292 s293 s294 s295 s296 s297 s298 s299 s300 s301 s302 s303 s304 s305 s306 s307 s308 s309 s310 s311 s312 s313 s314 s315 s316 s317 s318 s319 s320 s321 s322 s323 s324 s325 s326 s327 s328 s329 s330 s331 s332 s333 s334 s335 s336 s337 s338 s339 s340 s341 s342 s343 s344 s345 s346 s347 s348 s349 s350 s351 s352 s353 s354 s355 s356 s357 s358 s359 s360 s361 s362 s363 s364 s365 s366 s367 s368 s369 s370 s371 s372 s373 s374 s375 s376 s377 s378 s379 s380 s381 s382 s383 s384 s385 s386 s387 s388 s389 s390 s391 s392 s393 s394 s395 s396 s397 s398 s399 s400 s401 s402 : Value} :
    Code.wp Try.prog (moreTail 6) (bodyPost Try.prog Try.f10 fun e w' => e = .returned (.bool true) ∧ Below w.heap.size w w') ⟨(s0 :: s1 :: s2 :: s3 :: (.pointer (some ⟨b, 0, none⟩)) :: s5 :: s6 :: s7 :: s8 :: (.pointer (some ⟨gn, 0, none⟩)) :: (.int .i64 (s : Nat)) :: (.pointer (some ⟨gx, 0, none⟩)) :: (.pointer (some ⟨gy, 0, none⟩)) :: (.pointer (some ⟨gz, 0, none⟩)) :: (.pointer (some ⟨gt, 0, none⟩)) :: s15 :: s16 :: s17 :: s18 :: s19 :: s20 :: s21 :: s22 :: s23 :: s24 :: s25 :: s26 :: s27 :: s28 :: s29 :: s30 :: s31 :: s32 :: s33 :: s34 :: s35 :: s36 :: s37 :: s38 :: s39 :: s40 :: s41 :: s42 :: s43 :: s44 :: s45 :: s46 :: s47 :: s48 :: s49 :: s50 :: s51 :: s52 :: s53 :: s54 :: s55 :: s56 :: s57 :: s58 :: s59 :: s60 :: s61 :: s62 :: s63 :: s64 :: s65 :: s66 :: s67 :: s68 :: s69 :: s70 :: s71 :: s72 :: s73 :: s74 :: s75 :: s76 :: s77 :: s78 :: s79 :: s80 :: s81 :: s82 :: s83 :: s84 :: s85 :: s86 :: s87 :: s88 :: s89 :: s90 :: s91 :: s92 :: s93 :: s94 :: s95 :: s96 :: s97 :: s98 :: s99 :: s100 :: s101 :: s102 :: s103 :: s104 :: s105 :: s106 :: s107 :: s108 :: s109 :: s110 :: s111 :: s112 :: s113 :: s114 :: s115 :: s116 :: s117 :: s118 :: s119 :: s120 :: s121 :: s122 :: s123 :: s124 :: s125 :: s126 :: s127 :: s128 :: s129 :: s130 :: s131 :: s132 :: s133 :: s134 :: s135 :: s136 :: s137 :: s138 :: s139 :: s140 :: s141 :: s142 :: s143 :: s144 :: s145 :: s146 :: s147 :: s148 :: s149 :: s150 :: s151 :: s152 :: s153 :: s154 :: s155 :: s156 :: s157 :: s158 :: s159 :: s160 :: s161 :: s162 :: s163 :: s164 :: s165 :: s166 :: s167 :: s168 :: s169 :: s170 :: s171 :: s172 :: s173 :: s174 :: s175 :: s176 :: s177 :: s178 :: s179 :: s180 :: s181 :: s182 :: s183 :: s184 :: s185 :: s186 :: s187 :: s188 :: s189 :: s190 :: s191 :: s192 :: s193 :: s194 :: s195 :: s196 :: s197 :: s198 :: s199 :: s200 :: s201 :: s202 :: s203 :: s204 :: s205 :: s206 :: s207 :: s208 :: s209 :: s210 :: s211 :: s212 :: s213 :: s214 :: s215 :: s216 :: s217 :: s218 :: s219 :: s220 :: s221 :: s222 :: s223 :: s224 :: s225 :: s226 :: s227 :: s228 :: s229 :: s230 :: s231 :: s232 :: s233 :: s234 :: s235 :: s236 :: s237 :: s238 :: s239 :: s240 :: s241 :: s242 :: s243 :: s244 :: s245 :: s246 :: s247 :: s248 :: s249 :: s250 :: s251 :: s252 :: s253 :: s254 :: s255 :: s256 :: s257 :: s258 :: s259 :: s260 :: s261 :: s262 :: s263 :: s264 :: s265 :: s266 :: s267 :: s268 :: s269 :: s270 :: s271 :: s272 :: s273 :: s274 :: s275 :: s276 :: s277 :: s278 :: s279 :: s280 :: s281 :: s282 :: s283 :: s284 :: s285 :: s286 :: s287 :: s288 :: s289 :: s290 :: s291 :: s292 :: s293 :: s294 :: s295 :: s296 :: s297 :: s298 :: s299 :: s300 :: s301 :: s302 :: s303 :: s304 :: s305 :: s306 :: s307 :: s308 :: s309 :: s310 :: s311 :: s312 :: s313 :: s314 :: s315 :: s316 :: s317 :: s318 :: s319 :: s320 :: s321 :: s322 :: s323 :: s324 :: s325 :: s326 :: s327 :: s328 :: s329 :: s330 :: s331 :: s332 :: s333 :: s334 :: s335 :: s336 :: s337 :: s338 :: s339 :: s340 :: s341 :: s342 :: s343 :: s344 :: s345 :: s346 :: s347 :: s348 :: s349 :: s350 :: s351 :: s352 :: s353 :: s354 :: s355 :: s356 :: s357 :: s358 :: s359 :: s360 :: s361 :: s362 :: s363 :: s364 :: s365 :: s366 :: s367 :: s368 :: s369 :: s370 :: s371 :: s372 :: s373 :: s374 :: s375 :: s376 :: s377 :: s378 :: s379 :: s380 :: s381 :: s382 :: s383 :: s384 :: s385 :: s386 :: s387 :: s388 :: s389 :: s390 :: s391 :: s392 :: s393 :: s394 :: s395 :: s396 :: s397 :: s398 :: s399 :: s400 :: s401 :: s402 :: []).toArray, []⟩ K := by
  conv => arg 2; whnf
  have hb := PressD.ok_head hv
  have heb : p.bales = bales := hP.ebales
  obtain ⟨m, hm⟩ : ∃ m, min 5 (p.bales + 1) = m := ⟨_, rfl⟩
  have hmin : ∀ w, (Builtin.min_ #[3, 3] 3 #[.int .i64 5, .int .i64 (bales + 1)]).run Try.prog w = .ok (.int .i64 m) w := fun w => by rw [min_run, ← hm, heb]
  have hw1 : IntKind.i64.wrap (bales + 1) = bales + 1 := wrap_i64 (by omega) (by omega)
  have HA := Lib.hid hA
  have HZ := Lib.hid (hA.setZ (p := p) hm)
  have HP := Lib.hid hP
  have HV := Lib.hid hv
  have HFX := Lib.hid hFx
  have HFY := Lib.hid hFy
  have HXE : Hid (px.weighed.length = xl ∧ px.fl = p.fl ∧ py.weighed = p.weighed ∧ s ≤ full p.n) := ⟨hxl, hxf, hyw, hSF⟩
  obtain ⟨x0, x1, x2, x3, x4, xl'⟩ := boxC_cells hA.box
  obtain ⟨y0, y1, y2, y3, y4, yl'⟩ := boxC_cells hA.bz
  have yf := hA.bz.frozen 3
  clear hb heb hm hA hP hv hFx hFy hxl hxf hyw hSF
  go_upto_region 12 with fail
  rename ∀ a w, Code.wp Try.prog (moreTail 8) _ a w → _ => hKU
  have HKU := Lib.hid hKU
  clear hKU x0 x1 x2 x3 x4 xl' y0 y1 y2 y3 y4 yl' yf hmin hw1
  go_wp2_with fail
  obtain ⟨e1, e2, e3, e4⟩ := HXE.out
  exact HKU.out _ _ (more_t8 HP.out HV.out HZ.out.1 HFX.out e1 hxs e2 HFY.out e3 HZ.out.2 e4)
theorem know_fl {j : Nat} {l h q : Int} (hc : p.fl[j]? = some ⟨⟨l, h⟩, q⟩) (v : Sp) : (p.knowB j v).fl = p.fl.set j ⟨v, q⟩ := by
  unfold PressD.knowB
  simp only [hc, Option.elim_some]
set_option maxRecDepth 100000 in
set_option maxHeartbeats 6400000 in
theorem more_t5 {what : Int} (k0 : 0 ≤ what) (k1 : what ≤ 255) (hP : PressIn w w.heap.size fa fl low top bales wa wl p) (hv : p.ok = true) (hA : MoreA w K gt b gx gy gz gn fa fl fc low top bales wa wl wp xa xl xc ya yc px p)
    (hFx : PressD.Finer p px) (hxl : px.weighed.length = xl) (hxs : xl ≤ 100) (hxf : px.fl = p.fl) (hSF : s ≤ full p.n) {s0 s1 s2 s5 s6 s7 s8 s15 s16 s17 s18 s19 s20 s21 s22 s23 s24 s25 s26 s27 s28 s29 s30 s31 s32 s33 s34 s35 s36 s37 s38 s39 s40 s41 s42 s43 s44 s45 s46 s47 s48 s49 s50 s51 s52 s53 s54 s55 s56 s57 s58 s59 s60 s61 s62 s63 s64 s65 s66 s67 s68 s69 s70 s71 s72 s73 s74 s75 s76 s77 s78 s79 s80 s81 s82 s83 s84 s85 s86 s87 s88 s89 s90 s91 s92 s93 s94 s95 s96 s97 s98 s99 s100 s101 s102 s103 s104 s105 s106 s107 s108 s109 s110 s111 s112 s113 s114 s115 s116 s117 s118 s119 s120 s121 s122 s123 s124 s125 s126 s127 s128 s129 s130 s131 s132 s133 s134 s135 s136 s137 s138 s139 s140 s141 s142 s143 s144 s145 s146 s147 s148 s149 s150 s151 s152 s153 s154 s155 s156 s157 s158 s159 s160 s161 s162 s163 s164 s165 s166 s167 s168 s169 s170 s171 s172 s173 s174 s175 s176 s177 s178 s179 s180 s181 s182 s183 s184 s185 s186 s187 s188 s189 s190 s191 s192 s193 s194 s195 s196 s197 s198 s199 s200 s201 s202 s203 s204 s205 s206 s207 s208 s209 s210 s211 s212 s213 s214 s215 s216 s217 s218 s219 s220 s221 s222 s223 s224 s225 s226 s227 s228 s229 s230 s231 s232 s233 s234 s235 s236 s237 s238 s239 s240 s241 s242 s243 s244 s245 s246 s247 s248 s249 s250 s251 s252 s253 s254 s255 s256 s257 s258 s259 s260 s261 s262 s263 s264 s265 s266 s267 s268 s269 s270 s271 s272 s273 s274 s275 s276 s277 s278 s279 s280 s281 s282 s283 s284 s285 s286 s287 s288 s289 s290 s291 s292 s293 s294 s295 s296 s297 s298 s299 s300 s301 s302 s303 s304 s305 s306 s307 s308 s309 s310 s311 s312 s313 s314 s315 s316 s317 s318 s319 s320 s321 s322 s323 s324 s325 s326 s327 s328 s329 s330 s331 s332 s333 s334 s335 s336 s337 s338 s339 s340 s341 s342 s343 s344 s345 s346 s347 s348 s349 s350 s351 s352 s353 s354 s355 s356 s357 s358 s359 s360 s361 s362 s363 s364 s365 s366 s367 s368 s369 s370 s371 s372 s373 s374 s375 s376 s377 s378 s379 s380 s381 s382 s383 s384 s385 s386 s387 s388 s389 s390 s391 s392 s393 s394 s395 s396 s397 s398 s399 s400 s401 s402 : Value} :
    Code.wp Try.prog (moreTail 5) (bodyPost Try.prog Try.f10 fun e w' => e = .returned (.bool true) ∧ Below w.heap.size w w') ⟨(s0 :: s1 :: s2 :: (.int .u8 what) :: (.pointer (some ⟨b, 0, none⟩)) :: s5 :: s6 :: s7 :: s8 :: (.pointer (some ⟨gn, 0, none⟩)) :: (.int .i64 (s : Nat)) :: (.pointer (some ⟨gx, 0, none⟩)) :: (.pointer (some ⟨gy, 0, none⟩)) :: (.pointer (some ⟨gz, 0, none⟩)) :: (.pointer (some ⟨gt, 0, none⟩)) :: s15 :: s16 :: s17 :: s18 :: s19 :: s20 :: s21 :: s22 :: s23 :: s24 :: s25 :: s26 :: s27 :: s28 :: s29 :: s30 :: s31 :: s32 :: s33 :: s34 :: s35 :: s36 :: s37 :: s38 :: s39 :: s40 :: s41 :: s42 :: s43 :: s44 :: s45 :: s46 :: s47 :: s48 :: s49 :: s50 :: s51 :: s52 :: s53 :: s54 :: s55 :: s56 :: s57 :: s58 :: s59 :: s60 :: s61 :: s62 :: s63 :: s64 :: s65 :: s66 :: s67 :: s68 :: s69 :: s70 :: s71 :: s72 :: s73 :: s74 :: s75 :: s76 :: s77 :: s78 :: s79 :: s80 :: s81 :: s82 :: s83 :: s84 :: s85 :: s86 :: s87 :: s88 :: s89 :: s90 :: s91 :: s92 :: s93 :: s94 :: s95 :: s96 :: s97 :: s98 :: s99 :: s100 :: s101 :: s102 :: s103 :: s104 :: s105 :: s106 :: s107 :: s108 :: s109 :: s110 :: s111 :: s112 :: s113 :: s114 :: s115 :: s116 :: s117 :: s118 :: s119 :: s120 :: s121 :: s122 :: s123 :: s124 :: s125 :: s126 :: s127 :: s128 :: s129 :: s130 :: s131 :: s132 :: s133 :: s134 :: s135 :: s136 :: s137 :: s138 :: s139 :: s140 :: s141 :: s142 :: s143 :: s144 :: s145 :: s146 :: s147 :: s148 :: s149 :: s150 :: s151 :: s152 :: s153 :: s154 :: s155 :: s156 :: s157 :: s158 :: s159 :: s160 :: s161 :: s162 :: s163 :: s164 :: s165 :: s166 :: s167 :: s168 :: s169 :: s170 :: s171 :: s172 :: s173 :: s174 :: s175 :: s176 :: s177 :: s178 :: s179 :: s180 :: s181 :: s182 :: s183 :: s184 :: s185 :: s186 :: s187 :: s188 :: s189 :: s190 :: s191 :: s192 :: s193 :: s194 :: s195 :: s196 :: s197 :: s198 :: s199 :: s200 :: s201 :: s202 :: s203 :: s204 :: s205 :: s206 :: s207 :: s208 :: s209 :: s210 :: s211 :: s212 :: s213 :: s214 :: s215 :: s216 :: s217 :: s218 :: s219 :: s220 :: s221 :: s222 :: s223 :: s224 :: s225 :: s226 :: s227 :: s228 :: s229 :: s230 :: s231 :: s232 :: s233 :: s234 :: s235 :: s236 :: s237 :: s238 :: s239 :: s240 :: s241 :: s242 :: s243 :: s244 :: s245 :: s246 :: s247 :: s248 :: s249 :: s250 :: s251 :: s252 :: s253 :: s254 :: s255 :: s256 :: s257 :: s258 :: s259 :: s260 :: s261 :: s262 :: s263 :: s264 :: s265 :: s266 :: s267 :: s268 :: s269 :: s270 :: s271 :: s272 :: s273 :: s274 :: s275 :: s276 :: s277 :: s278 :: s279 :: s280 :: s281 :: s282 :: s283 :: s284 :: s285 :: s286 :: s287 :: s288 :: s289 :: s290 :: s291 :: s292 :: s293 :: s294 :: s295 :: s296 :: s297 :: s298 :: s299 :: s300 :: s301 :: s302 :: s303 :: s304 :: s305 :: s306 :: s307 :: s308 :: s309 :: s310 :: s311 :: s312 :: s313 :: s314 :: s315 :: s316 :: s317 :: s318 :: s319 :: s320 :: s321 :: s322 :: s323 :: s324 :: s325 :: s326 :: s327 :: s328 :: s329 :: s330 :: s331 :: s332 :: s333 :: s334 :: s335 :: s336 :: s337 :: s338 :: s339 :: s340 :: s341 :: s342 :: s343 :: s344 :: s345 :: s346 :: s347 :: s348 :: s349 :: s350 :: s351 :: s352 :: s353 :: s354 :: s355 :: s356 :: s357 :: s358 :: s359 :: s360 :: s361 :: s362 :: s363 :: s364 :: s365 :: s366 :: s367 :: s368 :: s369 :: s370 :: s371 :: s372 :: s373 :: s374 :: s375 :: s376 :: s377 :: s378 :: s379 :: s380 :: s381 :: s382 :: s383 :: s384 :: s385 :: s386 :: s387 :: s388 :: s389 :: s390 :: s391 :: s392 :: s393 :: s394 :: s395 :: s396 :: s397 :: s398 :: s399 :: s400 :: s401 :: s402 :: []).toArray, []⟩ K := by
  conv => arg 2; whnf
  have HA := Lib.hid hA
  have HP := Lib.hid hP
  have HV := Lib.hid hv
  have HFX := Lib.hid hFx
  have HEN : Hid (p.fl.length = fl) := hP.efl
  have HXE : Hid (px.weighed.length = xl ∧ px.fl = p.fl ∧ s ≤ full p.n) := ⟨hxl, hxf, hSF⟩
  have n0 := hA.bn.cell 0
  have nl := hA.bn.lt
  simp at n0
  have hn10 : fl ≤ 10 := by have := (PressD.ok_head hv).1; rw [show p.n = fl from hP.efl] at this; exact this
  clear hA hP hv hFx hxl hxf hSF
  go_upto_region 6 with fail
  rename ∀ a w, Code.wp Try.prog (moreTail 6) _ a w → _ => hKU
  have HKU := Lib.hid hKU
  clear hKU
  by_cases h0 : fl = 0
  · subst h0
    go_wp2_with fail
    obtain ⟨e1, e2, e3⟩ := HXE.out
    exact HKU.out _ _ (more_t6 HP.out HV.out HA.out HFX.out e1 hxs e2 ⟨rfl, fun _ => rfl, rfl, rfl, rfl, fun _ h => h⟩ rfl e3)
  · have hgt : decide ((0 : Int) < (fl : Int)) = true := by simp; omega
    obtain ⟨j, hj, hjl⟩ : ∃ j : Nat, what.tmod (fl : Int) = (j : Int) ∧ j < fl := by
      have h1 := Int.tmod_nonneg (fl : Int) (a := what) k0
      have h2 := Int.tmod_lt_of_pos what (b := (fl : Int)) (by omega)
      exact ⟨(what.tmod (fl : Int)).toNat, by omega, by omega⟩
    obtain ⟨⟨⟨l, h⟩, q⟩, hc⟩ : ∃ c, p.fl[j]? = some c := ⟨_, List.getElem?_eq_getElem (by rw [HEN.out]; exact hjl)⟩
    have hw := PressD.ok_fl HV.out (i := j) (by show j < p.fl.length; rw [HEN.out]; exact hjl)
    have hfw : p.fw j = ⟨l, h⟩ := by unfold PressD.fw; rw [hc]; rfl
    rw [hfw] at hw
    simp only at hw
    obtain ⟨b0, b1, b2, b3, -, -⟩ := hw
    obtain ⟨y0, y1, y2, y3, y4, yl⟩ := boxC_cells HA.out.by_
    have hoy := HA.out.oy
    obtain ⟨g, hya⟩ : ∃ g, ya = some ⟨g, 0, none⟩ := by
      rcases hoy.2 with ⟨_, e⟩ | ⟨g, _, _, e, _⟩
      · exact absurd e h0
      · injection e with e _ _; exact ⟨g, e⟩
    subst hya
    obtain ⟨cur, hk, hBg, hle, -, hsz, -⟩ := own_blk hoy
    obtain ⟨gb, off, he, hgl, H0, H1, -⟩ := rd_fl (RdG.of_own flF_len (by decide) hoy (Nat.le_refl _) rfl) j _ hc
    injection he with he
    injection he with he1 he2
    subst he1 he2
    have f0 := hk.frozen (j * 3)
    have f1 := hk.frozen (j * 3 + 1)
    simp only [Nat.zero_add] at H0 H1
    have HH : Hid (K.cell? ⟨g, j * 3, none⟩ = some (.int .i64 l) ∧ K.cell? ⟨g, j * 3 + 1, none⟩ = some (.int .i64 h) ∧ K.frozen? ⟨g, j * 3, none⟩ = false ∧ K.frozen? ⟨g, j * 3 + 1, none⟩ = false ∧ g < K.heap.size) := ⟨H0, H1, f0, f1, hk.lt⟩
    have HC := Lib.hid hc
    have HFW : Hid (p.fw j = ⟨l, h⟩) := hfw
    clear hoy hk hBg hle hsz hc hfw
    have hgK := HH.out.2.2.2.2
    clear H0 H1 f0 f1
    have hg0 : (0 : Nat) < fl := by omega
    go_upto_region 7 with fail
    refine wp_region_havoc [(0,false),(1,false),(2,false),(3,false),(4,false),(5,false),(6,false),(7,false),(8,false)] [] (fun _ _ => False) (by kernel_rfl) (by kernel_rfl) (fun _ _ _ _ h => h.elim) ?_
    (apply hav_same (by simp only [List.getElem?_toArray, List.getElem?_cons_zero]; rfl) (by kernel_rfl); (focus (intro wv hgv _; have hcv : ∀ b o, b < _ → wv.cell? ⟨b, o, none⟩ = _ := fun b o hb => Below.cell hgv (p := ⟨b, o, none⟩) hb; (try go_simp); try rfl; done)); simp only [Act.put, List.setIfInBounds_toArray, List.set_cons_succ, List.set_cons_zero])
    iterate 2 (apply hav_same (by simp only [List.getElem?_toArray, List.getElem?_cons_succ, List.getElem?_cons_zero]; rfl) (by kernel_rfl); (focus (intro wv hgv _; have hcv : ∀ b o, b < _ → wv.cell? ⟨b, o, none⟩ = _ := fun b o hb => Below.cell hgv (p := ⟨b, o, none⟩) hb; (try go_simp); try rfl; done)); simp only [Act.put, List.setIfInBounds_toArray, List.set_cons_succ, List.set_cons_zero])
    (apply hav_same (by simp only [List.getElem?_toArray, List.getElem?_cons_succ, List.getElem?_cons_zero]; rfl) (by kernel_rfl); (focus (intro wv hgv _; exact conv8 rfl rfl k0 (by omega) _)); simp only [Act.put, List.setIfInBounds_toArray, List.set_cons_succ, List.set_cons_zero])
    iterate 5 (apply hav_same (by simp only [List.getElem?_toArray, List.getElem?_cons_succ, List.getElem?_cons_zero]; rfl) (by kernel_rfl); (focus (intro wv hgv _; have hcv : ∀ b o, b < _ → wv.cell? ⟨b, o, none⟩ = _ := fun b o hb => Below.cell hgv (p := ⟨b, o, none⟩) hb; (try go_simp); try rfl; done)); simp only [Act.put, List.setIfInBounds_toArray, List.set_cons_succ, List.set_cons_zero])
    refine hav_end (fun w1 hgw1 _ => ?_); simp only [List.filterMap]; have hcw1 : ∀ b o, b < _ → w1.cell? ⟨b, o, none⟩ = _ := fun b o hb => Below.cell hgw1 (p := ⟨b, o, none⟩) hb; have hfw1 : ∀ b o, b < _ → w1.frozen? ⟨b, o, none⟩ = _ := fun b o hb => Below.frozen hgw1 (p := ⟨b, o, none⟩) hb; have hzw1 := Below.size hgw1; (try simp at hzw1)
    have HB1 : Hid (Below K.heap.size K w1) := hgw1
    have HH1 : Hid (w1.cell? ⟨g, j * 3, none⟩ = some (.int .i64 l) ∧ w1.cell? ⟨g, j * 3 + 1, none⟩ = some (.int .i64 h) ∧ w1.frozen? ⟨g, j * 3, none⟩ = false ∧ w1.frozen? ⟨g, j * 3 + 1, none⟩ = false ∧ g < w1.heap.size) :=
      ⟨(hcw1 g _ hgK).trans HH.out.1, (hcw1 g _ hgK).trans HH.out.2.1, (hfw1 g _ hgK).trans HH.out.2.2.1, (hfw1 g _ hgK).trans HH.out.2.2.2.1, Nat.lt_of_lt_of_le hgK hgw1.size⟩
    clear hgw1 hcw1 hfw1 hzw1 y0 y1 y2 y3 y4 yl n0 nl hj
    have k3 : IntKind.i64.wrap (l + 1) = l + 1 := wrap_i64 (by omega) (by omega)
    have k4 : IntKind.i64.wrap (h - 1) = h - 1 := wrap_i64 (by omega) (by omega)
    obtain ⟨z0, z1, z2, z3, z4⟩ := HH1.out
    by_cases h2 : what % 2 = 0
    · have h3 : (what % 2 == 0) = true := by simpa using h2
      obtain ⟨m, hm⟩ : ∃ m, min h (l + 1) = m := ⟨_, rfl⟩
      have hmin : ∀ w, (Builtin.min_ #[3, 3] 3 #[.int .i64 h, .int .i64 (l + 1)]).run Try.prog w = .ok (.int .i64 m) w := fun w => by rw [min_run, hm]
      have hml : l ≤ m := by omega
      clear hm
      go_upto_region 9 with fail
      refine wp_region_havoc [(0,false),(1,false),(2,false),(3,false),(4,false),(5,false),(6,false),(7,false),(8,false),(9,false),(10,false),(11,false),(12,false)] [13] (fun _ _ => False) (by kernel_rfl) (by kernel_rfl) (fun _ _ _ _ h => h.elim) ?_
      (apply hav_same (by simp only [List.getElem?_toArray, List.getElem?_cons_zero]; rfl) (by kernel_rfl); (focus (intro wv hgv _; have hcv : ∀ b o, b < _ → wv.cell? ⟨b, o, none⟩ = _ := fun b o hb => Below.cell hgv (p := ⟨b, o, none⟩) hb; (try go_simp); try rfl; done)); simp only [Act.put, List.setIfInBounds_toArray, List.set_cons_succ, List.set_cons_zero])
      iterate 12 (apply hav_same (by simp only [List.getElem?_toArray, List.getElem?_cons_succ, List.getElem?_cons_zero]; rfl) (by kernel_rfl); (focus (intro wv hgv _; have hcv : ∀ b o, b < _ → wv.cell? ⟨b, o, none⟩ = _ := fun b o hb => Below.cell hgv (p := ⟨b, o, none⟩) hb; (try go_simp); try rfl; done)); simp only [Act.put, List.setIfInBounds_toArray, List.set_cons_succ, List.set_cons_zero])
      refine hav_end (fun w2 hgw2 _ => ?_); simp only [List.filterMap]; have hcw2 : ∀ b o, b < _ → w2.cell? ⟨b, o, none⟩ = _ := fun b o hb => Below.cell hgw2 (p := ⟨b, o, none⟩) hb; have hfw2 : ∀ b o, b < _ → w2.frozen? ⟨b, o, none⟩ = _ := fun b o hb => Below.frozen hgw2 (p := ⟨b, o, none⟩) hb; have hzw2 := Below.size hgw2; (try simp at hzw2)
      simp only [List.getElem?_toArray, List.getElem?_cons_succ, List.getElem?_cons_zero]
      have HB2 : Hid (Below K.heap.size K w2) := HB1.out.trans (hgw2.mono HB1.out.size)
      have e0 := (hcw2 g (j * 3) z4).trans z0
      have e1 := (hfw2 g (j * 3) z4).trans z2
      have e2 : g < w2.heap.size := Nat.lt_of_lt_of_le z4 hgw2.size
      clear hgw2 hcw2 hfw2 hzw2 z0 z1 z2 z3 z4 hmin k3 k4
      go_wp2_with fail
      obtain ⟨a1, a2, a3⟩ := HXE.out
      have hA2 := (HA.out.below HB2.out).setY (o := 0) (u := .int .i64 m) (c' := ⟨⟨m, h⟩, q⟩) (py' := p.knowB j ⟨m, h⟩) rfl HC.out (by decide) rfl (know_fl HC.out _)
      exact HKU.out _ _ (more_t6 HP.out HV.out hA2 HFX.out a1 hxs a2 (PressD.finer_know (by show j < p.fl.length; rw [HEN.out]; exact hjl) (by rw [HFW.out]; exact hml) (by rw [HFW.out]; exact Int.le_refl _)) rfl a3)
    · have h3 : (what % 2 == 0) = false := by simpa using h2
      obtain ⟨m, hm⟩ : ∃ m, max l (h - 1) = m := ⟨_, rfl⟩
      have hmax : ∀ w, (Builtin.max_ #[3, 3] 3 #[.int .i64 l, .int .i64 (h - 1)]).run Try.prog w = .ok (.int .i64 m) w := fun w => by rw [max_run, hm]
      have hmh : m ≤ h := by omega
      clear hm
      go_upto_region 10 with fail
      refine wp_region_havoc [(0,false),(1,false),(2,false),(3,false),(4,false),(5,false),(6,false),(7,false),(8,false),(9,false),(10,false),(11,false),(12,false)] [13] (fun _ _ => False) (by kernel_rfl) (by kernel_rfl) (fun _ _ _ _ h => h.elim) ?_
      (apply hav_same (by simp only [List.getElem?_toArray, List.getElem?_cons_zero]; rfl) (by kernel_rfl); (focus (intro wv hgv _; have hcv : ∀ b o, b < _ → wv.cell? ⟨b, o, none⟩ = _ := fun b o hb => Below.cell hgv (p := ⟨b, o, none⟩) hb; (try go_simp); try rfl; done)); simp only [Act.put, List.setIfInBounds_toArray, List.set_cons_succ, List.set_cons_zero])
      iterate 12 (apply hav_same (by simp only [List.getElem?_toArray, List.getElem?_cons_succ, List.getElem?_cons_zero]; rfl) (by kernel_rfl); (focus (intro wv hgv _; have hcv : ∀ b o, b < _ → wv.cell? ⟨b, o, none⟩ = _ := fun b o hb => Below.cell hgv (p := ⟨b, o, none⟩) hb; (try go_simp); try rfl; done)); simp only [Act.put, List.setIfInBounds_toArray, List.set_cons_succ, List.set_cons_zero])
      refine hav_end (fun w2 hgw2 _ => ?_); simp only [List.filterMap]; have hcw2 : ∀ b o, b < _ → w2.cell? ⟨b, o, none⟩ = _ := fun b o hb => Below.cell hgw2 (p := ⟨b, o, none⟩) hb; have hfw2 : ∀ b o, b < _ → w2.frozen? ⟨b, o, none⟩ = _ := fun b o hb => Below.frozen hgw2 (p := ⟨b, o, none⟩) hb; have hzw2 := Below.size hgw2; (try simp at hzw2)
      simp only [List.getElem?_toArray, List.getElem?_cons_succ, List.getElem?_cons_zero]
      have HB2 : Hid (Below K.heap.size K w2) := HB1.out.trans (hgw2.mono HB1.out.size)
      have e0 := (hcw2 g (j * 3 + 1) z4).trans z1
      have e1 := (hfw2 g (j * 3 + 1) z4).trans z3
      have e2 : g < w2.heap.size := Nat.lt_of_lt_of_le z4 hgw2.size
      clear hgw2 hcw2 hfw2 hzw2 z0 z1 z2 z3 z4 hmax k3 k4
      go_wp2_with fail
      obtain ⟨a1, a2, a3⟩ := HXE.out
      have hA2 := (HA.out.below HB2.out).setY (o := 1) (u := .int .i64 m) (c' := ⟨⟨l, m⟩, q⟩) (py' := p.knowB j ⟨l, m⟩) rfl HC.out (by decide) rfl (know_fl HC.out _)
      exact HKU.out _ _ (more_t6 HP.out HV.out hA2 HFX.out a1 hxs a2 (PressD.finer_know (by show j < p.fl.length; rw [HEN.out]; exact hjl) (by rw [HFW.out]; exact Int.le_refl _) (by rw [HFW.out]; exact hmh)) rfl a3)
end
end Go.Proofs.Ytbfjebglaimcmaa
