/- PressMore's code from the loop over bales on, which are numbered the other way round. Conditions: what the boxes hold, as hypotheses. -/
import Derived.Test.YtbfjebglaimcmaaLawN7
namespace Go.Proofs.Ytbfjebglaimcmaa
open Go.RowKit Go.Hav
theorem take_nextT {p : PressD} {k : Nat} {c : Ba} (hc : p.weighed[k]? = some c) : ((p.weighed.take (k + 1)).map (PressD.turnBa p.n)).flatMap baF = ((p.weighed.take k).map (PressD.turnBa p.n)).flatMap baF ++ baF (PressD.turnBa p.n c) := take_next _ hc
section
variable {w K : World} {gt b gx gy gz gn : Nat} {fa wa xa ya ta : Option Addr} {fl fc wl wp xl xc yc tc s : Nat} {low top bales : Int} {p px py : PressD}
set_option maxRecDepth 100000 in
set_option maxHeartbeats 6400000 in
theorem more_t9 (hP : PressIn w w.heap.size fa fl low top bales wa wl p) (hv : p.ok = true) (hB : MoreB w K gt b gx gy gz gn fa fl fc low top bales wa wl wp xa xl xc ya yc p px py)
    (hFx : PressD.Finer p px) (hxl : px.weighed.length = xl) (hxs : xl ≤ 100) (hxf : px.fl = p.fl) (hFy : PressD.Finer p py) (hyw : py.weighed = p.weighed)
    (ht : Blk K gt 25 (boxC ta fl tc low top bales none 0 0)) (hot : K.ownsRow w.heap.size 58 3 (.slice ta fl tc) fl (p.turnP.fl.flatMap flF)) (hSF : s ≤ full p.n) {s0 s1 s2 s3 s5 s6 s7 s8 s9 s15 s17 s18 s19 s20 s21 s22 s23 s24 s25 s26 s27 s28 s29 s30 s31 s32 s33 s34 s35 s36 s37 s38 s39 s40 s41 s42 s43 s44 s45 s46 s47 s48 s49 s50 s51 s52 s53 s54 s55 s56 s57 s58 s59 s60 s61 s62 s63 s64 s65 s66 s67 s68 s69 s70 s71 s72 s73 s74 s75 s76 s77 s78 s79 s80 s81 s82 s83 s84 s85 s86 s87 s88 s89 s90 s91 s92 s93 s94 s95 s96 s97 s98 s99 s100 s101 s102 s103 s104 s105 s106 s107 s108 s109 s110 s111 s112 s113 s114 s115 s116 s117 s118 s119 s120 s121 s122 s123 s124 s125 s126 s127 s128 s129 s130 s131 s132 s133 s134 s135 s136 s137 s138 s139 s140 s141 s142 s143 s144 s145 s146 s147 s148 s149 s150 s151 s152 s153 s154 s155 s156 s157 s158 s159 s160 s161 s162 s163 s164 s165 s166 s167 s168 s169 s170 s171 s172 s173 s174 s175 s176 s177 s178 s179 s180 s181 s182 s183 s184 s185 s186 s187 s188 s189 s190 s191 s192 s193 s194 s195 s196 s197 s198 s199 s200 s201 s202 s203 s204 s205 s206 s207 s208 s209 s210 s211 s212 s213 s214 s215 s216 s217 s218 s219 s220 s221 s222 s223 s224 s225 s226 s227 s228 s229 s230 s231 s232 s233 s234 s235 s236 s237 s238 s239 s240 s241 s242 s243 s244 s245 s246 s247 s248 s249 s250 s251 s252 s253 s254 s255 s256 s257 s258 s259 s260 s261 s262 s263 s264 s265 s266 s267 s268 s269 s270 s271 s272 s273 s274 s275 s276 s277 s278 s279 s280 s281 s282 s283 s284 s285 s286 s287 s288 s289 s290 s291 s292 s293 s294 s295 s296 s297 s298 s299 s300 s301 s302 s303 s304 s305 s306 s307 s308 s309 s310 s311 s312 s313 s314 s315 s316 s317 s318 s319 s320 s321 s322 s323 s324 s325 s326 s327 s328 s329 s330 s331 s332 s333 s334 s335 s336 s337 s338 s339 s340 s341 s342 s343 s344 s345 s346 s347 s348 s349 s350 s351 s352 s353 s354 s355 s356 s357 s358 s359 s360 s361 s362 s363 s364 s365 s366 s367 s368 s369 s370 s371 s372 s373 s374 s375 s376 s377 s378 s379 s380 s381 s382 s383 s384 s385 s386 s387 s388 s389 s390 s391 s392 s393 s394 s395 s396 s397 s398 s399 s400 s401 s402 : Value} :
    Code.wp Try.prog (moreTail 9) (bodyPost Try.prog Try.f10 fun e w' => e = .returned (.bool true) ∧ Below w.heap.size w w') ⟨(s0 :: s1 :: s2 :: s3 :: (.pointer (some ⟨b, 0, none⟩)) :: s5 :: s6 :: s7 :: s8 :: s9 :: (.int .i64 (s : Nat)) :: (.pointer (some ⟨gx, 0, none⟩)) :: (.pointer (some ⟨gy, 0, none⟩)) :: (.pointer (some ⟨gz, 0, none⟩)) :: (.pointer (some ⟨gt, 0, none⟩)) :: s15 :: (.func (.func 43) #[] #[.pointer (some ⟨gn, 0, none⟩)]) :: s17 :: s18 :: s19 :: s20 :: s21 :: s22 :: s23 :: s24 :: s25 :: s26 :: s27 :: s28 :: s29 :: s30 :: s31 :: s32 :: s33 :: s34 :: s35 :: s36 :: s37 :: s38 :: s39 :: s40 :: s41 :: s42 :: s43 :: s44 :: s45 :: s46 :: s47 :: s48 :: s49 :: s50 :: s51 :: s52 :: s53 :: s54 :: s55 :: s56 :: s57 :: s58 :: s59 :: s60 :: s61 :: s62 :: s63 :: s64 :: s65 :: s66 :: s67 :: s68 :: s69 :: s70 :: s71 :: s72 :: s73 :: s74 :: s75 :: s76 :: s77 :: s78 :: s79 :: s80 :: s81 :: s82 :: s83 :: s84 :: s85 :: s86 :: s87 :: s88 :: s89 :: s90 :: s91 :: s92 :: s93 :: s94 :: s95 :: s96 :: s97 :: s98 :: s99 :: s100 :: s101 :: s102 :: s103 :: s104 :: s105 :: s106 :: s107 :: s108 :: s109 :: s110 :: s111 :: s112 :: s113 :: s114 :: s115 :: s116 :: s117 :: s118 :: s119 :: s120 :: s121 :: s122 :: s123 :: s124 :: s125 :: s126 :: s127 :: s128 :: s129 :: s130 :: s131 :: s132 :: s133 :: s134 :: s135 :: s136 :: s137 :: s138 :: s139 :: s140 :: s141 :: s142 :: s143 :: s144 :: s145 :: s146 :: s147 :: s148 :: s149 :: s150 :: s151 :: s152 :: s153 :: s154 :: s155 :: s156 :: s157 :: s158 :: s159 :: s160 :: s161 :: s162 :: s163 :: s164 :: s165 :: s166 :: s167 :: s168 :: s169 :: s170 :: s171 :: s172 :: s173 :: s174 :: s175 :: s176 :: s177 :: s178 :: s179 :: s180 :: s181 :: s182 :: s183 :: s184 :: s185 :: s186 :: s187 :: s188 :: s189 :: s190 :: s191 :: s192 :: s193 :: s194 :: s195 :: s196 :: s197 :: s198 :: s199 :: s200 :: s201 :: s202 :: s203 :: s204 :: s205 :: s206 :: s207 :: s208 :: s209 :: s210 :: s211 :: s212 :: s213 :: s214 :: s215 :: s216 :: s217 :: s218 :: s219 :: s220 :: s221 :: s222 :: s223 :: s224 :: s225 :: s226 :: s227 :: s228 :: s229 :: s230 :: s231 :: s232 :: s233 :: s234 :: s235 :: s236 :: s237 :: s238 :: s239 :: s240 :: s241 :: s242 :: s243 :: s244 :: s245 :: s246 :: s247 :: s248 :: s249 :: s250 :: s251 :: s252 :: s253 :: s254 :: s255 :: s256 :: s257 :: s258 :: s259 :: s260 :: s261 :: s262 :: s263 :: s264 :: s265 :: s266 :: s267 :: s268 :: s269 :: s270 :: s271 :: s272 :: s273 :: s274 :: s275 :: s276 :: s277 :: s278 :: s279 :: s280 :: s281 :: s282 :: s283 :: s284 :: s285 :: s286 :: s287 :: s288 :: s289 :: s290 :: s291 :: s292 :: s293 :: s294 :: s295 :: s296 :: s297 :: s298 :: s299 :: s300 :: s301 :: s302 :: s303 :: s304 :: s305 :: s306 :: s307 :: s308 :: s309 :: s310 :: s311 :: s312 :: s313 :: s314 :: s315 :: s316 :: s317 :: s318 :: s319 :: s320 :: s321 :: s322 :: s323 :: s324 :: s325 :: s326 :: s327 :: s328 :: s329 :: s330 :: s331 :: s332 :: s333 :: s334 :: s335 :: s336 :: s337 :: s338 :: s339 :: s340 :: s341 :: s342 :: s343 :: s344 :: s345 :: s346 :: s347 :: s348 :: s349 :: s350 :: s351 :: s352 :: s353 :: s354 :: s355 :: s356 :: s357 :: s358 :: s359 :: s360 :: s361 :: s362 :: s363 :: s364 :: s365 :: s366 :: s367 :: s368 :: s369 :: s370 :: s371 :: s372 :: s373 :: s374 :: s375 :: s376 :: s377 :: s378 :: s379 :: s380 :: s381 :: s382 :: s383 :: s384 :: s385 :: s386 :: s387 :: s388 :: s389 :: s390 :: s391 :: s392 :: s393 :: s394 :: s395 :: s396 :: s397 :: s398 :: s399 :: s400 :: s401 :: s402 :: []).toArray, []⟩ K := by
  conv => arg 2; whnf
  have HP := Lib.hid hP
  have HV := Lib.hid hv
  have HB := Lib.hid hB
  have HFX := Lib.hid hFx
  have HFY := Lib.hid hFy
  have HXE : Hid (px.weighed.length = xl ∧ px.fl = p.fl ∧ py.weighed = p.weighed) := ⟨hxl, hxf, hyw⟩
  have HT := Lib.hid ht
  have HOT := Lib.hid hot
  have HSF := Lib.hid hSF
  have HEN : Hid (p.n = fl) := hP.efl
  have HEW : Hid (p.weighed.length = wl) := hP.ewl
  have hn10 : fl ≤ 10 := by have := (PressD.ok_head hv).1; rw [HEN.out] at this; exact this
  have hwl4 : wl ≤ 4 := by have := (PressD.ok_head hv).2.2.2.2.2.2; rw [HEW.out] at this; exact this
  obtain ⟨x0, x1, x2, x3, x4, xl'⟩ := boxC_cells hB.box
  obtain ⟨i1, hi, hz0, hz1, hz2⟩ := info_parts Try.infoE56
  have HJ := Lib.hid hi
  have HJ0 := Lib.hid hz0
  have HJ1 := Lib.hid hz1
  have HJ2 := Lib.hid hz2
  clear hi hz0 hz1 hz2 hP hv hB hFx hFy hxl hxf hyw ht hot hSF
  have hgtK : gt < K.heap.size := HT.out.lt
  have hgw := HB.out.hgt
  go_wp2
  rename ∀ a w, Code.wp Try.prog (moreTail 10) _ a w → _ => hKU
  have HKU := Lib.hid hKU
  clear hKU x0 x1 x2 x3 x4 xl'
  go_loopw [153] (fun i wr => ∃ k : Nat, k ≤ wl ∧ i = .int .i64 k ∧ ∃ u, Hid (Blk wr gt 25 #[.slice ta fl tc, .int .i64 low, .int .i64 top, .int .i64 bales, u]) ∧ Hid (wr.ownsRow K.heap.size 56 3 u k (((p.weighed.take k).map (PressD.turnBa p.n)).flatMap baF)) ∧ Hid (K.grownBy wr (some gt))) (fun i _ => wl - (intOf i).toNat)
  case atStart => exact ⟨0, Nat.zero_le _, rfl, .slice none 0 0, HT, own_nil _ _ _ _, World.grownBy.refl _ _⟩
  case round =>
    obtain ⟨k, hk, rfl, u, HBU, HOU, HGR⟩ := hrel
    have hsr := HGR.out.size
    have HBR := Lib.hid (HB.out.grown HT.out HGR.out)
    by_cases hlt : k < wl
    · obtain ⟨⟨q, ⟨l, h⟩⟩, hc⟩ : ∃ c, p.weighed[k]? = some c := ⟨_, List.getElem?_eq_getElem (by rw [HEW.out]; exact hlt)⟩
      have hba : p.ba k = ⟨q, ⟨l, h⟩⟩ := by unfold PressD.ba; rw [hc]; rfl
      have hkw : k < p.weighed.length := by rw [HEW.out]; exact hlt
      have hokb := PressD.ok_ba HV.out hkw
      rw [hba] at hokb
      obtain ⟨k1, k2, -, -, -, -, -⟩ := hokb
      simp only at k1
      obtain ⟨B, hBq⟩ : ∃ B, p.bs k = B := ⟨_, rfl⟩
      rw [hBq] at k1 k2
      subst k1
      have hB10 : B < 1024 := Nat.lt_of_lt_of_le k2 (PressD.n_pow HV.out)
      have HTN : Hid (((p.weighed.take (k + 1)).map (PressD.turnBa p.n)).flatMap baF = ((p.weighed.take k).map (PressD.turnBa p.n)).flatMap baF ++ baF ⟨(rev fl B : Nat), ⟨l, h⟩⟩) := by
        show _ = _
        rw [take_nextT hc, PressD.turnBa, HEN.out]
        rfl
      obtain ⟨g, off, rfl, hbl, H0, H1, H2⟩ := rd_ba ((HP.out.grow HBR.out.bw).hwl) k _ hc
      have hbw : g < wr.heap.size := hbl
      simp only at H0 H1 H2
      clear hc hbl hBq hba hkw k2
      obtain ⟨V, hV⟩ : ∃ V, V = wr.alloc (.cells #[.int .i64 B, .int .i64 l, .int .i64 h] 56) := ⟨_, rfl⟩
      have HVK : Hid (Blk V wr.heap.size 56 #[.int .i64 B, .int .i64 l, .int .i64 h]) := by rw [hV]; exact Blk.new wr 56 _
      have HWV : Hid (Below wr.heap.size wr V) := by rw [hV]; exact (Below.refl _ _).alloc (Nat.le_refl _) _
      go_upto_region 21 with fail
      rw [← hV]
      clear hV H0 H1 H2 hbw
      have HUV := Lib.hid (HBU.out.below HWV.out HBU.out.lt)
      have HNV := Lib.hid (HBR.out.bn.below HWV.out HBR.out.bn.lt)
      have HOU2 := Lib.hid (own_below HOU.out HWV.out)
      have hne1 := own_not HOU2.out HUV.out (by decide)
      have hne2 := own_not HOU2.out HNV.out (by decide)
      have hne3 : u.ownBlock ≠ some wr.heap.size := fun e => by have := (HOU.out.lt _ e).2; omega
      have hXV : K.heap.size ≤ V.heap.size := Nat.le_trans hsr HWV.out.size
      have HNE : Hid (some gt ≠ u.ownBlock ∧ some gn ≠ u.ownBlock ∧ some wr.heap.size ≠ u.ownBlock) := ⟨Ne.symm hne1, Ne.symm hne2, Ne.symm hne3⟩
      have HCT : Hid (∀ wv, (GN K.heap.size 56 3 u k (((p.weighed.take k).map (PressD.turnBa p.n)).flatMap baF) (baF ⟨(rev fl B : Nat), ⟨l, h⟩⟩)).G V wv → wv.cell? ⟨gt, 4, none⟩ = some u ∧ gt < wv.heap.size ∧ wv.cell? ⟨wr.heap.size, 0, none⟩ = some (.int .i64 (B : Nat)) ∧ wv.cell? ⟨wr.heap.size, 1, none⟩ = some (.int .i64 l) ∧ wv.cell? ⟨wr.heap.size, 2, none⟩ = some (.int .i64 h) ∧ wr.heap.size < wv.heap.size ∧ Blk wv gn 3 #[.int .i64 fl]) := fun wv hg => by
        have a1 : Blk wv gt 25 _ := (GN.far hg HUV.out.lt HNE.out.1).trans HUV.out
        have a2 : Blk wv gn 3 _ := (GN.far hg HNV.out.lt HNE.out.2.1).trans HNV.out
        have a3 : Blk wv wr.heap.size 56 _ := (GN.far hg HVK.out.lt HNE.out.2.2).trans HVK.out
        exact ⟨a1.cell 4, a1.lt, a3.cell 0, a3.cell 1, a3.cell 2, a3.lt, a2⟩
      clear hne1 hne2 hne3
      refine HavG.wp_region_havoc (R := GN K.heap.size 56 3 u k (((p.weighed.take k).map (PressD.turnBa p.n)).flatMap baF) (baF ⟨(rev fl B : Nat), ⟨l, h⟩⟩)) [(0,false),(1,false),(2,false),(3,false),(4,false),(5,false),(6,false),(7,false),(8,false),(11,false),(9,true),(10,true)] [12] (fun _ _ => False) (by kernel_rfl) (by kernel_rfl) (fun _ _ _ _ h => h.elim) ?_
      (apply HavG.hav_same (by simp only [List.getElem?_toArray, List.getElem?_cons_zero]; rfl) (by kernel_rfl); (focus (intro wv hgv _; obtain ⟨z0, z1, z2, z3, z4, z5, z6⟩ := HCT.out wv hgv; (try go_simp); try rfl; done)); simp only [Act.put, List.setIfInBounds_toArray, List.set_cons_succ, List.set_cons_zero])
      iterate 4 (apply HavG.hav_same (by simp only [List.getElem?_toArray, List.getElem?_cons_succ, List.getElem?_cons_zero]; rfl) (by kernel_rfl); (focus (intro wv hgv _; obtain ⟨z0, z1, z2, z3, z4, z5, z6⟩ := HCT.out wv hgv; (try go_simp); try rfl; done)); simp only [Act.put, List.setIfInBounds_toArray, List.set_cons_succ, List.set_cons_zero])
      (apply HavG.hav_call (by simp only [List.getElem?_toArray, List.getElem?_cons_succ, List.getElem?_cons_zero]; rfl) (by kernel_rfl); (focus (intro wv; go_simp; try exact ⟨rfl, rfl⟩; done)); (focus (intro wv hgv _; exact (turned_any hn10 B hB10 gn wv (HCT.out wv hgv).2.2.2.2.2.2).mono fun e w' h => ⟨h.1, by rw [h.2]; exact (GN _ _ _ _ _ _ _).refl _⟩; done)); simp only [Act.put, List.setIfInBounds_toArray, List.set_cons_succ, List.set_cons_zero])
      iterate 4 (apply HavG.hav_same (by simp only [List.getElem?_toArray, List.getElem?_cons_succ, List.getElem?_cons_zero]; rfl) (by kernel_rfl); (focus (intro wv hgv _; obtain ⟨z0, z1, z2, z3, z4, z5, z6⟩ := HCT.out wv hgv; (try go_simp); try rfl; done)); simp only [Act.put, List.setIfInBounds_toArray, List.set_cons_succ, List.set_cons_zero])
      refine HavG.hav_val_ghost (fun y wq => ∃ g, y = .slice (some ⟨g, 0, none⟩) 1 1 ∧ some g ≠ u.ownBlock ∧ wq.heap[g]? = some (.cells #[.int .i64 (rev fl B : Nat), .int .i64 l, .int .i64 h] 56)) (by simp only [List.getElem?_toArray, List.getElem?_cons_succ, List.getElem?_cons_zero]; rfl) (by kernel_rfl) ?_ ?_ (fun y => ?_)
      · rintro y a b ⟨g, rfl, hn, hg⟩ hG
        exact ⟨g, rfl, hn, (hG.1.block g (Array.getElem?_eq_some_iff.1 hg).1 hn).trans hg⟩
      · intro wv hgv _
        refine ⟨.slice (some ⟨wv.heap.size, 0, none⟩) 1 1, wv.alloc (.cells #[.int .i64 (rev fl B : Nat), .int .i64 l, .int .i64 h] 56), ?_, GN.below ((Below.refl _ _).alloc (Nat.le_refl _) _), wv.heap.size, rfl, fun e => ?_, heap_alloc_new wv _⟩
        · go_simp
          try rfl
        · have := ((hgv.2.1 HOU2.out).lt _ e.symm).2
          omega
      simp only [Act.put, List.setIfInBounds_toArray, List.set_cons_succ, List.set_cons_zero]
      refine HavG.hav_val_ghost (fun y wq => wq.ownsRow K.heap.size 56 3 y (k + 1) (((p.weighed.take k).map (PressD.turnBa p.n)).flatMap baF ++ baF ⟨(rev fl B : Nat), ⟨l, h⟩⟩)) (by simp only [List.getElem?_toArray, List.getElem?_cons_succ, List.getElem?_cons_zero]; rfl) (by kernel_rfl) (fun _ _ _ h hG => hG.2.2 _ h) ?_ (fun y2 => ?_)
      · rintro wv hgv ⟨_, g, rfl, hne, hh⟩
        obtain ⟨v', w', hrun, ho1, hgr, ho2, ho3⟩ := append_keepN (P := Try.prog) K.heap.size 23 23 56 i1 _ 3 24 Try.underlying23 HJ.out HJ0.out HJ1.out HJ2.out rfl (by decide) u _ _ (hgv.2.1 HOU2.out) ⟨g, 0, none⟩ 1 (baF ⟨(rev fl B : Nat), ⟨l, h⟩⟩) rfl (news_block (t := 56) (show Blk _ g 56 _ from hh)) (baF_one _) (by omega) (by omega) (Nat.le_trans hXV hgv.1.size)
        exact ⟨v', w', append_oper rfl rfl rfl hrun, ⟨hgr, fun _ => ho2, ho3⟩, ho1⟩
      simp only [Act.put, List.setIfInBounds_toArray, List.set_cons_succ, List.set_cons_zero]
      refine HavG.hav_end (fun w2 hg2 hF => ?_)
      simp only [List.filterMap]
      have hown2 := hF.2
      rw [← HTN.out] at hown2
      have hlen : ((p.weighed.take (k + 1)).map (PressD.turnBa p.n)).length = k + 1 := by rw [List.length_map, List.length_take, HEW.out]; omega
      obtain ⟨A3, c3, hv3, -, -⟩ := own_rd (l := (p.weighed.take (k + 1)).map (PressD.turnBa p.n)) baF_len (by decide) (by rw [hlen]; exact hown2)
      rw [hlen] at hv3
      subst hv3
      have HO2 := Lib.hid hown2
      have HG2 := Lib.hid hg2.1
      have HK2 : Hid (Blk w2 gt 25 #[.slice ta fl tc, .int .i64 low, .int .i64 top, .int .i64 bales, u]) := (hg2.1.block _ HUV.out.lt HNE.out.1).trans HUV.out
      clear hF hown2 hg2
      have k4 := HK2.out.cell 4
      have kf := HK2.out.frozen 4
      have kl := HK2.out.lt
      simp at k4
      go_wp2
      go_roundw
      case rel =>
        refine ⟨k + 1, by omega, by go_num, .slice A3 (k + 1) c3, ?_, ?_, ?_⟩
        · show Blk _ _ _ _
          have h := HK2.out.set_ 4 (.slice A3 (k + 1) c3)
          simpa using h
        · exact own_keep HO2.out (fun g hg => Below.heap_setCell _ ⟨gt, 4, none⟩ _ g (by have := (HO2.out.lt g hg).1; show g ≠ gt; omega))
        · exact (grown_own (HGR.out.trans (below_grown HWV.out _)) HG2.out (fun g hg => (HOU.out.lt g hg).1)).trans (grown_set _ _ _ _)
      case measure => simp [intOf]; omega
    · obtain rfl : wl = k := by omega
      have hou := HOU.out
      rw [List.take_of_length_le (by rw [HEW.out]; exact Nat.le_refl _)] at hou
      obtain ⟨A3, c3, hv3, -, -⟩ := own_rd (l := p.turnP.weighed) baF_len (by decide) (by rw [PressD.turn_len, HEW.out]; exact hou)
      rw [PressD.turn_len, HEW.out] at hv3
      subst hv3
      have hou2 := own_base hou (B' := w.heap.size) HB.out.bw.size
      have hot2 := own_keep HOT.out fun g e => HGR.out.block g (HOT.out.lt g e).2 (fun e2 => own_not HOT.out HT.out (by decide) (by rw [e, e2]))
      obtain ⟨e1, e2, e3⟩ := HXE.out
      go_wp2_with fail
      exact HKU.out _ _ (more_t10 HP.out HV.out HBR.out HFX.out e1 hxs e2 HFY.out e3 HBU.out hot2 hou2 HSF.out)
set_option maxRecDepth 100000 in
set_option maxHeartbeats 6400000 in
theorem more_t8 (hP : PressIn w w.heap.size fa fl low top bales wa wl p) (hv : p.ok = true) (hB : MoreB w K gt b gx gy gz gn fa fl fc low top bales wa wl wp xa xl xc ya yc p px py)
    (hFx : PressD.Finer p px) (hxl : px.weighed.length = xl) (hxs : xl ≤ 100) (hxf : px.fl = p.fl) (hFy : PressD.Finer p py) (hyw : py.weighed = p.weighed)
    (ht : Blk K gt 25 (boxC none 0 0 low top bales none 0 0)) (hSF : s ≤ full p.n) {s0 s1 s2 s3 s5 s6 s7 s8 s15 s17 s18 s19 s20 s21 s22 s23 s24 s25 s26 s27 s28 s29 s30 s31 s32 s33 s34 s35 s36 s37 s38 s39 s40 s41 s42 s43 s44 s45 s46 s47 s48 s49 s50 s51 s52 s53 s54 s55 s56 s57 s58 s59 s60 s61 s62 s63 s64 s65 s66 s67 s68 s69 s70 s71 s72 s73 s74 s75 s76 s77 s78 s79 s80 s81 s82 s83 s84 s85 s86 s87 s88 s89 s90 s91 s92 s93 s94 s95 s96 s97 s98 s99 s100 s101 s102 s103 s104 s105 s106 s107 s108 s109 s110 s111 s112 s113 s114 s115 s116 s117 s118 s119 s120 s121 s122 s123 s124 s125 s126 s127 s128 s129 s130 s131 s132 s133 s134 s135 s136 s137 s138 s139 s140 s141 s142 s143 s144 s145 s146 s147 s148 s149 s150 s151 s152 s153 s154 s155 s156 s157 s158 s159 s160 s161 s162 s163 s164 s165 s166 s167 s168 s169 s170 s171 s172 s173 s174 s175 s176 s177 s178 s179 s180 s181 s182 s183 s184 s185 s186 s187 s188 s189 s190 s191 s192 s193 s194 s195 s196 s197 s198 s199 s200 s201 s202 s203 s204 s205 s206 s207 s208 s209 s210 s211 s212 s213 s214 s215 s216 s217 s218 s219 s220 s221 s222 s223 s224 s225 s226 s227 s228 s229 s230 s231 s232 s233 s234 s235 s236 s237 s238 s239 s240 s241 s242 s243 s244 s245 s246 s247 s248 s249 s250 s251 s252 s253 s254 s255 s256 s257 s258 s259 s260 s261 s262 s263 s264 s265 s266 s267 s268 s269 s270 s271 s272 s273 s274 s275 s276 s277 s278 s279 s280 s281 s282 s283 s284 s285 s286 s287 s288 s289 s290 s291 s292 s293 s294 s295 s296 s297 s298 s299 s300 s301 s302 s303 s304 s305 s306 s307 s308 s309 s310 s311 s312 s313 s314 s315 s316 s317 s318 s319 s320 s321 s322 s323 s324 s325 s326 s327 s328 s329 s330 s331 s332 s333 s334 s335 s336 s337 s338 s339 s340 s341 s342 s343 s344 s345 s346 s347 s348 s349 s350 s351 s352 s353 s354 s355 s356 s357 s358 s359 s360 s361 s362 s363 s364 s365 s366 s367 s368 s369 s370 s371 s372 s373 s374 s375 s376 s377 s378 s379 s380 s381 s382 s383 s384 s385 s386 s387 s388 s389 s390 s391 s392 s393 s394 s395 s396 s397 s398 s399 s400 s401 s402 : Value} :
    Code.wp Try.prog (moreTail 8) (bodyPost Try.prog Try.f10 fun e w' => e = .returned (.bool true) ∧ Below w.heap.size w w') ⟨(s0 :: s1 :: s2 :: s3 :: (.pointer (some ⟨b, 0, none⟩)) :: s5 :: s6 :: s7 :: s8 :: (.pointer (some ⟨gn, 0, none⟩)) :: (.int .i64 (s : Nat)) :: (.pointer (some ⟨gx, 0, none⟩)) :: (.pointer (some ⟨gy, 0, none⟩)) :: (.pointer (some ⟨gz, 0, none⟩)) :: (.pointer (some ⟨gt, 0, none⟩)) :: s15 :: (.func (.func 43) #[] #[.pointer (some ⟨gn, 0, none⟩)]) :: s17 :: s18 :: s19 :: s20 :: s21 :: s22 :: s23 :: s24 :: s25 :: s26 :: s27 :: s28 :: s29 :: s30 :: s31 :: s32 :: s33 :: s34 :: s35 :: s36 :: s37 :: s38 :: s39 :: s40 :: s41 :: s42 :: s43 :: s44 :: s45 :: s46 :: s47 :: s48 :: s49 :: s50 :: s51 :: s52 :: s53 :: s54 :: s55 :: s56 :: s57 :: s58 :: s59 :: s60 :: s61 :: s62 :: s63 :: s64 :: s65 :: s66 :: s67 :: s68 :: s69 :: s70 :: s71 :: s72 :: s73 :: s74 :: s75 :: s76 :: s77 :: s78 :: s79 :: s80 :: s81 :: s82 :: s83 :: s84 :: s85 :: s86 :: s87 :: s88 :: s89 :: s90 :: s91 :: s92 :: s93 :: s94 :: s95 :: s96 :: s97 :: s98 :: s99 :: s100 :: s101 :: s102 :: s103 :: s104 :: s105 :: s106 :: s107 :: s108 :: s109 :: s110 :: s111 :: s112 :: s113 :: s114 :: s115 :: s116 :: s117 :: s118 :: s119 :: s120 :: s121 :: s122 :: s123 :: s124 :: s125 :: s126 :: s127 :: s128 :: s129 :: s130 :: s131 :: s132 :: s133 :: s134 :: s135 :: s136 :: s137 :: s138 :: s139 :: s140 :: s141 :: s142 :: s143 :: s144 :: s145 :: s146 :: s147 :: s148 :: s149 :: s150 :: s151 :: s152 :: s153 :: s154 :: s155 :: s156 :: s157 :: s158 :: s159 :: s160 :: s161 :: s162 :: s163 :: s164 :: s165 :: s166 :: s167 :: s168 :: s169 :: s170 :: s171 :: s172 :: s173 :: s174 :: s175 :: s176 :: s177 :: s178 :: s179 :: s180 :: s181 :: s182 :: s183 :: s184 :: s185 :: s186 :: s187 :: s188 :: s189 :: s190 :: s191 :: s192 :: s193 :: s194 :: s195 :: s196 :: s197 :: s198 :: s199 :: s200 :: s201 :: s202 :: s203 :: s204 :: s205 :: s206 :: s207 :: s208 :: s209 :: s210 :: s211 :: s212 :: s213 :: s214 :: s215 :: s216 :: s217 :: s218 :: s219 :: s220 :: s221 :: s222 :: s223 :: s224 :: s225 :: s226 :: s227 :: s228 :: s229 :: s230 :: s231 :: s232 :: s233 :: s234 :: s235 :: s236 :: s237 :: s238 :: s239 :: s240 :: s241 :: s242 :: s243 :: s244 :: s245 :: s246 :: s247 :: s248 :: s249 :: s250 :: s251 :: s252 :: s253 :: s254 :: s255 :: s256 :: s257 :: s258 :: s259 :: s260 :: s261 :: s262 :: s263 :: s264 :: s265 :: s266 :: s267 :: s268 :: s269 :: s270 :: s271 :: s272 :: s273 :: s274 :: s275 :: s276 :: s277 :: s278 :: s279 :: s280 :: s281 :: s282 :: s283 :: s284 :: s285 :: s286 :: s287 :: s288 :: s289 :: s290 :: s291 :: s292 :: s293 :: s294 :: s295 :: s296 :: s297 :: s298 :: s299 :: s300 :: s301 :: s302 :: s303 :: s304 :: s305 :: s306 :: s307 :: s308 :: s309 :: s310 :: s311 :: s312 :: s313 :: s314 :: s315 :: s316 :: s317 :: s318 :: s319 :: s320 :: s321 :: s322 :: s323 :: s324 :: s325 :: s326 :: s327 :: s328 :: s329 :: s330 :: s331 :: s332 :: s333 :: s334 :: s335 :: s336 :: s337 :: s338 :: s339 :: s340 :: s341 :: s342 :: s343 :: s344 :: s345 :: s346 :: s347 :: s348 :: s349 :: s350 :: s351 :: s352 :: s353 :: s354 :: s355 :: s356 :: s357 :: s358 :: s359 :: s360 :: s361 :: s362 :: s363 :: s364 :: s365 :: s366 :: s367 :: s368 :: s369 :: s370 :: s371 :: s372 :: s373 :: s374 :: s375 :: s376 :: s377 :: s378 :: s379 :: s380 :: s381 :: s382 :: s383 :: s384 :: s385 :: s386 :: s387 :: s388 :: s389 :: s390 :: s391 :: s392 :: s393 :: s394 :: s395 :: s396 :: s397 :: s398 :: s399 :: s400 :: s401 :: s402 :: []).toArray, []⟩ K := by
  conv => arg 2; whnf
  have HP := Lib.hid hP
  have HV := Lib.hid hv
  have HB := Lib.hid hB
  have HFX := Lib.hid hFx
  have HFY := Lib.hid hFy
  have HXE : Hid (px.weighed.length = xl ∧ px.fl = p.fl ∧ py.weighed = p.weighed) := ⟨hxl, hxf, hyw⟩
  have HT := Lib.hid ht
  have HSF := Lib.hid hSF
  have HEN : Hid (p.fl.length = fl) := hP.efl
  have hn10 : fl ≤ 10 := by have := (PressD.ok_head hv).1; rw [show p.n = fl from hP.efl] at this; exact this
  obtain ⟨x0, x1, x2, x3, x4, xl'⟩ := boxC_cells hB.box
  obtain ⟨i1, hi, hz0, hz1, hz2⟩ := info_parts infoE58
  have HJ := Lib.hid hi
  have HJ0 := Lib.hid hz0
  have HJ1 := Lib.hid hz1
  have HJ2 := Lib.hid hz2
  clear hi hz0 hz1 hz2 hP hv hB hFx hFy hxl hxf hyw ht hSF
  have hgtK : gt < K.heap.size := HT.out.lt
  have hgw := HB.out.hgt
  go_wp2
  rename ∀ a w, Code.wp Try.prog (moreTail 9) _ a w → _ => hKU
  have HKU := Lib.hid hKU
  clear hKU x0 x1 x2 x3 x4 xl'
  go_loopw [133] (fun i wr => ∃ k : Nat, k ≤ fl ∧ i = .int .i64 k ∧ ∃ u, Hid (Blk wr gt 25 #[u, .int .i64 low, .int .i64 top, .int .i64 bales, .slice none 0 0]) ∧ Hid (wr.ownsRow K.heap.size 58 3 u k ((p.fl.reverse.take k).flatMap flF)) ∧ Hid (K.grownBy wr (some gt))) (fun i _ => fl - (intOf i).toNat)
  case atStart => exact ⟨0, Nat.zero_le _, rfl, .slice none 0 0, HT, own_nil _ _ _ _, World.grownBy.refl _ _⟩
  case round =>
    obtain ⟨k, hk, rfl, u, HBU, HOU, HGR⟩ := hrel
    have hsr := HGR.out.size
    have HBR := Lib.hid (HB.out.grown HT.out HGR.out)
    by_cases hlt : k < fl
    · obtain ⟨m, hm⟩ : ∃ m, fl - 1 - k = m := ⟨_, rfl⟩
      have hml : m < fl := by omega
      obtain ⟨⟨⟨l, h⟩, q⟩, hc⟩ : ∃ c, p.fl[m]? = some c := ⟨_, List.getElem?_eq_getElem (by rw [HEN.out]; exact hml)⟩
      have hcr : p.fl.reverse[k]? = some ⟨⟨l, h⟩, q⟩ := by
        rw [List.getElem?_reverse (by rw [HEN.out]; exact hlt), HEN.out, hm]
        exact hc
      have HTN : Hid ((p.fl.reverse.take (k + 1)).flatMap flF = (p.fl.reverse.take k).flatMap flF ++ flF ⟨⟨l, h⟩, q⟩) := by
        show _ = _
        rw [List.take_add_one, hcr]
        simp
      have hsw := HBR.out.bw.size
      obtain ⟨g, off, rfl, hbl, H0, H1, H2⟩ := rd_fl (HP.out.hfl.below HBR.out.bw) m _ hc
      simp only at H0 H1 H2
      have hgu : some g ≠ u.ownBlock := fun e => by have := (HOU.out.lt _ e.symm).1; have := HB.out.bw.size; omega
      have hne1 := own_not HOU.out HBU.out (by decide)
      have hne2 := own_not HOU.out HBR.out.bn (by decide)
      have hne3 := own_not HOU.out HBR.out.box (by decide)
      have HNE : Hid (some gt ≠ u.ownBlock ∧ some gn ≠ u.ownBlock ∧ some b ≠ u.ownBlock) := ⟨Ne.symm hne1, Ne.symm hne2, Ne.symm hne3⟩
      have HCT : Hid (∀ wv, (GN K.heap.size 58 3 u k ((p.fl.reverse.take k).flatMap flF) (flF ⟨⟨l, h⟩, q⟩)).G wr wv → wv.cell? ⟨gt, 0, none⟩ = some u ∧ gt < wv.heap.size ∧ wv.cell? ⟨b, 0, none⟩ = some (.slice (some ⟨g, off, none⟩) fl fc) ∧ b < wv.heap.size ∧ wv.cell? ⟨gn, 0, none⟩ = some (.int .i64 fl) ∧ gn < wv.heap.size ∧
          wv.cell? ⟨g, off + m * 3, none⟩ = some (.int .i64 l) ∧ wv.cell? ⟨g, off + m * 3 + 1, none⟩ = some (.int .i64 h) ∧ wv.cell? ⟨g, off + m * 3 + 2, none⟩ = some (.int .i64 q) ∧ g < wv.heap.size) := fun wv hg => by
        have a1 : Blk wv gt 25 _ := (GN.far hg HBU.out.lt HNE.out.1).trans HBU.out
        have a2 : Blk wv gn 3 _ := (GN.far hg HBR.out.bn.lt HNE.out.2.1).trans HBR.out.bn
        have a3 : Blk wv b 25 _ := (GN.far hg HBR.out.box.lt HNE.out.2.2).trans HBR.out.box
        have a4 : wv.heap[g]? = wr.heap[g]? := GN.far hg (by omega) hgu
        have hz := hg.1.size
        exact ⟨a1.cell 0, a1.lt, a3.cell 0, a3.lt, a2.cell 0, a2.lt, (World.cell?_of_block (a := ⟨g, _, none⟩) a4).trans H0, (World.cell?_of_block (a := ⟨g, _, none⟩) a4).trans H1, (World.cell?_of_block (a := ⟨g, _, none⟩) a4).trans H2, by omega⟩
      have hw1 : IntKind.i64.wrap ((fl : Int) - 1) = (fl : Int) - 1 := wrap_i64 (by omega) (by omega)
      have hw2 : IntKind.i64.wrap ((fl : Int) - 1 - (k : Int)) = (m : Int) := by rw [wrap_i64 (by omega) (by omega)]; omega
      clear hne1 hne2 hne3 hc hcr H0 H1 H2
      go_upto_region 16 with fail
      refine HavG.wp_region_havoc (R := GN K.heap.size 58 3 u k ((p.fl.reverse.take k).flatMap flF) (flF ⟨⟨l, h⟩, q⟩)) [(0,false),(1,false),(2,false),(3,false),(4,false),(5,false),(6,false),(7,false),(8,false),(9,false),(12,false),(10,true),(11,true)] [13] (fun _ _ => False) (by kernel_rfl) (by kernel_rfl) (fun _ _ _ _ h => h.elim) ?_
      (apply HavG.hav_same (by simp only [List.getElem?_toArray, List.getElem?_cons_zero]; rfl) (by kernel_rfl); (focus (intro wv hgv _; obtain ⟨z0, z1, z2, z3, z4, z5, z6, z7, z8, z9⟩ := HCT.out wv hgv; (try go_simp); try rfl; done)); simp only [Act.put, List.setIfInBounds_toArray, List.set_cons_succ, List.set_cons_zero])
      iterate 10 (apply HavG.hav_same (by simp only [List.getElem?_toArray, List.getElem?_cons_succ, List.getElem?_cons_zero]; rfl) (by kernel_rfl); (focus (intro wv hgv _; obtain ⟨z0, z1, z2, z3, z4, z5, z6, z7, z8, z9⟩ := HCT.out wv hgv; (try go_simp); try rfl; done)); simp only [Act.put, List.setIfInBounds_toArray, List.set_cons_succ, List.set_cons_zero])
      refine HavG.hav_val_ghost (fun y wq => ∃ g, y = .slice (some ⟨g, 0, none⟩) 1 1 ∧ some g ≠ u.ownBlock ∧ wq.heap[g]? = some (.cells #[.int .i64 l, .int .i64 h, .int .i64 q] 58)) (by simp only [List.getElem?_toArray, List.getElem?_cons_succ, List.getElem?_cons_zero]; rfl) (by kernel_rfl) ?_ ?_ (fun y => ?_)
      · rintro y a b ⟨g, rfl, hn, hg⟩ hG
        exact ⟨g, rfl, hn, (hG.1.block g (Array.getElem?_eq_some_iff.1 hg).1 hn).trans hg⟩
      · intro wv hgv _
        refine ⟨.slice (some ⟨wv.heap.size, 0, none⟩) 1 1, wv.alloc (.cells #[.int .i64 l, .int .i64 h, .int .i64 q] 58), ?_, GN.below ((Below.refl _ _).alloc (Nat.le_refl _) _), wv.heap.size, rfl, fun e => ?_, heap_alloc_new wv _⟩
        · go_simp
          try rfl
        · have := ((hgv.2.1 HOU.out).lt _ e.symm).2
          omega
      simp only [Act.put, List.setIfInBounds_toArray, List.set_cons_succ, List.set_cons_zero]
      refine HavG.hav_val_ghost (fun y wq => wq.ownsRow K.heap.size 58 3 y (k + 1) ((p.fl.reverse.take k).flatMap flF ++ flF ⟨⟨l, h⟩, q⟩)) (by simp only [List.getElem?_toArray, List.getElem?_cons_succ, List.getElem?_cons_zero]; rfl) (by kernel_rfl) (fun _ _ _ h hG => hG.2.2 _ h) ?_ (fun y2 => ?_)
      · rintro wv hgv ⟨_, g, rfl, hne, hh⟩
        obtain ⟨v', w', hrun, ho1, hgr, ho2, ho3⟩ := append_keepN (P := Try.prog) K.heap.size 22 22 58 i1 _ 3 24 Try.underlying22 HJ.out HJ0.out HJ1.out HJ2.out rfl (by decide) u _ _ (hgv.2.1 HOU.out) ⟨g, 0, none⟩ 1 (flF ⟨⟨l, h⟩, q⟩) rfl (news_block (t := 58) (show Blk _ g 58 _ from hh)) (flF_one _) (by omega) (by omega) (Nat.le_trans hsr hgv.1.size)
        exact ⟨v', w', append_oper rfl rfl rfl hrun, ⟨hgr, fun _ => ho2, ho3⟩, ho1⟩
      simp only [Act.put, List.setIfInBounds_toArray, List.set_cons_succ, List.set_cons_zero]
      refine HavG.hav_end (fun w2 hg2 hF => ?_)
      simp only [List.filterMap]
      have hown2 := hF.2
      rw [← HTN.out] at hown2
      have hlen : (p.fl.reverse.take (k + 1)).length = k + 1 := by rw [List.length_take, List.length_reverse, HEN.out]; omega
      obtain ⟨A3, c3, hv3, -, -⟩ := own_rd (l := p.fl.reverse.take (k + 1)) flF_len (by decide) (by rw [hlen]; exact hown2)
      rw [hlen] at hv3
      subst hv3
      have HO2 := Lib.hid hown2
      have HG2 := Lib.hid hg2.1
      have HK2 : Hid (Blk w2 gt 25 #[u, .int .i64 low, .int .i64 top, .int .i64 bales, .slice none 0 0]) := (hg2.1.block _ HBU.out.lt HNE.out.1).trans HBU.out
      clear hF hown2 hg2 hw1 hw2
      have k4 := HK2.out.cell 0
      have kf := HK2.out.frozen 0
      have kl := HK2.out.lt
      simp at k4
      go_wp2
      go_roundw
      case rel =>
        refine ⟨k + 1, by omega, by go_num, .slice A3 (k + 1) c3, ?_, ?_, ?_⟩
        · show Blk _ _ _ _
          have h := HK2.out.set_ 0 (.slice A3 (k + 1) c3)
          simpa using h
        · exact own_keep HO2.out (fun g hg => Below.heap_setCell _ ⟨gt, 0, none⟩ _ g (by have := (HO2.out.lt g hg).1; show g ≠ gt; omega))
        · exact (grown_own HGR.out HG2.out (fun g hg => (HOU.out.lt g hg).1)).trans (grown_set _ _ _ _)
      case measure => simp [intOf]; omega
    · obtain rfl : fl = k := by omega
      have hou := HOU.out
      rw [List.take_of_length_le (by rw [List.length_reverse, HEN.out]; exact Nat.le_refl _)] at hou
      obtain ⟨A3, c3, hv3, -, -⟩ := own_rd (l := p.turnP.fl) flF_len (by decide) (by rw [show p.turnP.fl.length = fl from PressD.turn_n.trans HEN.out]; exact hou)
      rw [show p.turnP.fl.length = fl from PressD.turn_n.trans HEN.out] at hv3
      subst hv3
      have hou2 := own_base hou (B' := w.heap.size) HB.out.bw.size
      obtain ⟨e1, e2, e3⟩ := HXE.out
      go_wp2_with fail
      exact HKU.out _ _ (more_t9 HP.out HV.out HBR.out HFX.out e1 hxs e2 HFY.out e3 HBU.out hou2 HSF.out)
end
end Go.Proofs.Ytbfjebglaimcmaa
