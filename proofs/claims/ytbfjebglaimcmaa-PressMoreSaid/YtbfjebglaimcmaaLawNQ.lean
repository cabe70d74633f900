/- PressMore's code from where the copies of the press are given lists of their own. Conditions: what the boxes hold, as hypotheses. -/
import Derived.Test.YtbfjebglaimcmaaLawNS
namespace Go.Proofs.Ytbfjebglaimcmaa
open Go.RowKit Go.Hav
section
variable {w K : World} {gt b be gx gy gz gn : Nat} {fa wa : Option Addr} {fl fc wl wp s : Nat} {low top bales e0 e1 e2 : Int} {p : PressD}
set_option maxRecDepth 100000 in
set_option maxHeartbeats 6400000 in
theorem more_t4 {what : Int} (k0 : 0 ≤ what) (k1 : what ≤ 255) (hP : PressIn w w.heap.size fa fl low top bales wa wl p) (hv : p.ok = true) (hbw : Below w.heap.size w K)
    (hb : Blk K b 25 (boxC fa fl fc low top bales wa wl wp)) (hbx : Blk K gx 25 (boxC fa fl fc low top bales wa wl wp)) (hby : Blk K gy 25 (boxC fa fl fc low top bales wa wl wp)) (hbz : Blk K gz 25 (boxC fa fl fc low top bales wa wl wp)) (hbt : Blk K gt 25 (boxC fa fl fc low top bales wa wl wp))
    (hbe : Blk K be 56 #[.int .i64 e0, .int .i64 e1, .int .i64 e2]) (hbn : Blk K gn 3 #[.int .i64 fl]) (hge : w.heap.size ≤ gx ∧ w.heap.size ≤ gy ∧ w.heap.size ≤ gt ∧ w.heap.size ≤ gz)
    (hne : gx ≠ gy ∧ gx ≠ gt ∧ gy ≠ gt ∧ gx ≠ gz ∧ gy ≠ gz ∧ gz ≠ gt ∧ b ≠ gx ∧ b ≠ gy ∧ b ≠ gt ∧ b ≠ gz) (hSF : s ≤ full p.n) {s0 s1 s2 s6 s7 s8 s15 s16 s17 s18 s19 s20 s21 s22 s23 s24 s25 s26 s27 s28 s29 s30 s31 s32 s33 s34 s35 s36 s37 s38 s39 s40 s41 s42 s43 s44 s45 s46 s47 s48 s49 s50 s51 s52 s53 s54 s55 s56 s57 s58 s59 s60 s61 s62 s63 s64 s65 s66 s67 s68 s69 s70 s71 s72 s73 s74 s75 s76 s77 s78 s79 s80 s81 s82 s83 s84 s85 s86 s87 s88 s89 s90 s91 s92 s93 s94 s95 s96 s97 s98 s99 s100 s101 s102 s103 s104 s105 s106 s107 s108 s109 s110 s111 s112 s113 s114 s115 s116 s117 s118 s119 s120 s121 s122 s123 s124 s125 s126 s127 s128 s129 s130 s131 s132 s133 s134 s135 s136 s137 s138 s139 s140 s141 s142 s143 s144 s145 s146 s147 s148 s149 s150 s151 s152 s153 s154 s155 s156 s157 s158 s159 s160 s161 s162 s163 s164 s165 s166 s167 s168 s169 s170 s171 s172 s173 s174 s175 s176 s177 s178 s179 s180 s181 s182 s183 s184 s185 s186 s187 s188 s189 s190 s191 s192 s193 s194 s195 s196 s197 s198 s199 s200 s201 s202 s203 s204 s205 s206 s207 s208 s209 s210 s211 s212 s213 s214 s215 s216 s217 s218 s219 s220 s221 s222 s223 s224 s225 s226 s227 s228 s229 s230 s231 s232 s233 s234 s235 s236 s237 s238 s239 s240 s241 s242 s243 s244 s245 s246 s247 s248 s249 s250 s251 s252 s253 s254 s255 s256 s257 s258 s259 s260 s261 s262 s263 s264 s265 s266 s267 s268 s269 s270 s271 s272 s273 s274 s275 s276 s277 s278 s279 s280 s281 s282 s283 s284 s285 s286 s287 s288 s289 s290 s291 s292 s293 s294 s295 s296 s297 s298 s299 s300 s301 s302 s303 s304 s305 s306 s307 s308 s309 s310 s311 s312 s313 s314 s315 s316 s317 s318 s319 s320 s321 s322 s323 s324 s325 s326 s327 s328 s329 s330 s331 s332 s333 s334 s335 s336 s337 s338 s339 s340 s341 s342 s343 s344 s345 s346 s347 s348 s349 s350 s351 s352 s353 s354 s355 s356 s357 s358 s359 s360 s361 s362 s363 s364 s365 s366 s367 s368 s369 s370 s371 s372 s373 s374 s375 s376 s377 s378 s379 s380 s381 s382 s383 s384 s385 s386 s387 s388 s389 s390 s391 s392 s393 s394 s395 s396 s397 s398 s399 s400 s401 s402 : Value} :
    Code.wp Try.prog (moreTail 4) (bodyPost Try.prog Try.f10 fun e w' => e = .returned (.bool true) ∧ Below w.heap.size w w') ⟨(s0 :: s1 :: s2 :: (.int .u8 what) :: (.pointer (some ⟨b, 0, none⟩)) :: (.pointer (some ⟨be, 0, none⟩)) :: s6 :: s7 :: s8 :: (.pointer (some ⟨gn, 0, none⟩)) :: (.int .i64 (s : Nat)) :: (.pointer (some ⟨gx, 0, none⟩)) :: (.pointer (some ⟨gy, 0, none⟩)) :: (.pointer (some ⟨gz, 0, none⟩)) :: (.pointer (some ⟨gt, 0, none⟩)) :: s15 :: s16 :: s17 :: s18 :: s19 :: s20 :: s21 :: s22 :: s23 :: s24 :: s25 :: s26 :: s27 :: s28 :: s29 :: s30 :: s31 :: s32 :: s33 :: s34 :: s35 :: s36 :: s37 :: s38 :: s39 :: s40 :: s41 :: s42 :: s43 :: s44 :: s45 :: s46 :: s47 :: s48 :: s49 :: s50 :: s51 :: s52 :: s53 :: s54 :: s55 :: s56 :: s57 :: s58 :: s59 :: s60 :: s61 :: s62 :: s63 :: s64 :: s65 :: s66 :: s67 :: s68 :: s69 :: s70 :: s71 :: s72 :: s73 :: s74 :: s75 :: s76 :: s77 :: s78 :: s79 :: s80 :: s81 :: s82 :: s83 :: s84 :: s85 :: s86 :: s87 :: s88 :: s89 :: s90 :: s91 :: s92 :: s93 :: s94 :: s95 :: s96 :: s97 :: s98 :: s99 :: s100 :: s101 :: s102 :: s103 :: s104 :: s105 :: s106 :: s107 :: s108 :: s109 :: s110 :: s111 :: s112 :: s113 :: s114 :: s115 :: s116 :: s117 :: s118 :: s119 :: s120 :: s121 :: s122 :: s123 :: s124 :: s125 :: s126 :: s127 :: s128 :: s129 :: s130 :: s131 :: s132 :: s133 :: s134 :: s135 :: s136 :: s137 :: s138 :: s139 :: s140 :: s141 :: s142 :: s143 :: s144 :: s145 :: s146 :: s147 :: s148 :: s149 :: s150 :: s151 :: s152 :: s153 :: s154 :: s155 :: s156 :: s157 :: s158 :: s159 :: s160 :: s161 :: s162 :: s163 :: s164 :: s165 :: s166 :: s167 :: s168 :: s169 :: s170 :: s171 :: s172 :: s173 :: s174 :: s175 :: s176 :: s177 :: s178 :: s179 :: s180 :: s181 :: s182 :: s183 :: s184 :: s185 :: s186 :: s187 :: s188 :: s189 :: s190 :: s191 :: s192 :: s193 :: s194 :: s195 :: s196 :: s197 :: s198 :: s199 :: s200 :: s201 :: s202 :: s203 :: s204 :: s205 :: s206 :: s207 :: s208 :: s209 :: s210 :: s211 :: s212 :: s213 :: s214 :: s215 :: s216 :: s217 :: s218 :: s219 :: s220 :: s221 :: s222 :: s223 :: s224 :: s225 :: s226 :: s227 :: s228 :: s229 :: s230 :: s231 :: s232 :: s233 :: s234 :: s235 :: s236 :: s237 :: s238 :: s239 :: s240 :: s241 :: s242 :: s243 :: s244 :: s245 :: s246 :: s247 :: s248 :: s249 :: s250 :: s251 :: s252 :: s253 :: s254 :: s255 :: s256 :: s257 :: s258 :: s259 :: s260 :: s261 :: s262 :: s263 :: s264 :: s265 :: s266 :: s267 :: s268 :: s269 :: s270 :: s271 :: s272 :: s273 :: s274 :: s275 :: s276 :: s277 :: s278 :: s279 :: s280 :: s281 :: s282 :: s283 :: s284 :: s285 :: s286 :: s287 :: s288 :: s289 :: s290 :: s291 :: s292 :: s293 :: s294 :: s295 :: s296 :: s297 :: s298 :: s299 :: s300 :: s301 :: s302 :: s303 :: s304 :: s305 :: s306 :: s307 :: s308 :: s309 :: s310 :: s311 :: s312 :: s313 :: s314 :: s315 :: s316 :: s317 :: s318 :: s319 :: s320 :: s321 :: s322 :: s323 :: s324 :: s325 :: s326 :: s327 :: s328 :: s329 :: s330 :: s331 :: s332 :: s333 :: s334 :: s335 :: s336 :: s337 :: s338 :: s339 :: s340 :: s341 :: s342 :: s343 :: s344 :: s345 :: s346 :: s347 :: s348 :: s349 :: s350 :: s351 :: s352 :: s353 :: s354 :: s355 :: s356 :: s357 :: s358 :: s359 :: s360 :: s361 :: s362 :: s363 :: s364 :: s365 :: s366 :: s367 :: s368 :: s369 :: s370 :: s371 :: s372 :: s373 :: s374 :: s375 :: s376 :: s377 :: s378 :: s379 :: s380 :: s381 :: s382 :: s383 :: s384 :: s385 :: s386 :: s387 :: s388 :: s389 :: s390 :: s391 :: s392 :: s393 :: s394 :: s395 :: s396 :: s397 :: s398 :: s399 :: s400 :: s401 :: s402 :: []).toArray, []⟩ K := by
  conv => arg 2; whnf
  have h1 := hbw.size
  have hx := hbx.lt
  have hy := hby.lt
  have ht := hbt.lt
  have HP := Lib.hid hP
  have HV := Lib.hid hv
  have HBW := Lib.hid hbw
  have HSF := Lib.hid hSF
  have HGE : Hid (w.heap.size ≤ gx ∧ w.heap.size ≤ gy ∧ w.heap.size ≤ gt) := ⟨hge.1, hge.2.1, hge.2.2.1⟩
  have HNE : Hid (gx ≠ gy ∧ gx ≠ gt ∧ gy ≠ gt) := ⟨hne.1, hne.2.1, hne.2.2.1⟩
  have HNF := Lib.hid hne
  have HGZ : Hid (w.heap.size ≤ gz) := hge.2.2.2
  have HEN : Hid (p.fl.length = fl ∧ p.weighed.length = wl) := ⟨hP.efl, hP.ewl⟩
  have hn10 : fl ≤ 10 := by have := (PressD.ok_head hv).1; rw [show p.n = fl from hP.efl] at this; exact this
  have hwl4 : wl ≤ 4 := by have := (PressD.ok_head hv).2.2.2.2.2.2; rw [HEN.out.2] at this; exact this
  have HBB := Lib.hid hb
  have HBZ := Lib.hid hbz
  have HBN := Lib.hid hbn
  have HSZ : Hid (∀ w', RG w.heap.size K.heap.size gx gy gt fa fl fc low top bales wa wl wp p e0 e1 e2 K w' → K.heap.size ≤ w'.heap.size) := fun w' hg => hg.bw.size
  have hbf : gx ≠ b ∧ gy ≠ b ∧ gt ≠ b := ⟨Ne.symm hne.2.2.2.2.2.2.1, Ne.symm hne.2.2.2.2.2.2.2.1, Ne.symm hne.2.2.2.2.2.2.2.2.1⟩
  have HBX : Hid (∀ w', RG w.heap.size K.heap.size gx gy gt fa fl fc low top bales wa wl wp p e0 e1 e2 K w' → w'.cell? ⟨b, 0, none⟩ = some (.slice fa fl fc) ∧ w'.cell? ⟨b, 1, none⟩ = some (.int .i64 low) ∧ w'.cell? ⟨b, 2, none⟩ = some (.int .i64 top) ∧ w'.cell? ⟨b, 3, none⟩ = some (.int .i64 bales) ∧ w'.cell? ⟨b, 4, none⟩ = some (.slice wa wl wp) ∧ b < w'.heap.size) := fun w' hg =>
    boxC_cells (show Blk w' b 25 _ from (hg.keep b HBB.out.lt (Ne.symm hbf.1) (Ne.symm hbf.2.1) (Ne.symm hbf.2.2)).trans HBB.out)
  have HBE : Hid (∀ w', RG w.heap.size K.heap.size gx gy gt fa fl fc low top bales wa wl wp p e0 e1 e2 K w' → w'.cell? ⟨be, 0, none⟩ = some (.int .i64 e0) ∧ w'.cell? ⟨be, 1, none⟩ = some (.int .i64 e1) ∧ w'.cell? ⟨be, 2, none⟩ = some (.int .i64 e2) ∧ be < w'.heap.size) := fun w' hg => by
    have h : Blk w' be 56 _ := (hg.keep be hbe.lt (blk_ne hbe hbx (by decide)) (blk_ne hbe hby (by decide)) (blk_ne hbe hbt (by decide))).trans hbe
    exact ⟨h.cell 0, h.cell 1, h.cell 2, h.lt⟩
  have HPRE : Hid (boxP K.heap.size gx gy gt fa fl fc low top bales wa wl wp p e0 e1 e2 0 K ∧ boxP K.heap.size gx gy gt fa fl fc low top bales wa wl wp p e0 e1 e2 2 K ∧ boxP K.heap.size gx gy gt fa fl fc low top bales wa wl wp p e0 e1 e2 4 K) := ⟨⟨_, hbx⟩, ⟨_, hby⟩, ⟨_, _, hbt⟩⟩
  have HNN : Hid (gn ≠ gx ∧ gn ≠ gy ∧ gn ≠ gt) := ⟨blk_ne hbn hbx (by decide), blk_ne hbn hby (by decide), blk_ne hbn hbt (by decide)⟩
  obtain ⟨i0, hi, hz0, hz1, hz2⟩ := info_parts infoE58
  have HI := Lib.hid hi
  have HI0 := Lib.hid hz0
  have HI1 := Lib.hid hz1
  have HI2 := Lib.hid hz2
  clear hi hz0 hz1 hz2
  obtain ⟨i1, hi, hz0, hz1, hz2⟩ := info_parts Try.infoE56
  have HJ := Lib.hid hi
  have HJ0 := Lib.hid hz0
  have HJ1 := Lib.hid hz1
  have HJ2 := Lib.hid hz2
  clear hi hz0 hz1 hz2 hP hv hbw hSF hge hne hb hbx hby hbz hbt hbe hbn hbf
  go_upto_region 5 with fail
  rename ∀ a w, Code.wp Try.prog (moreTail 5) _ a w → _ => hKU
  have HKU := Lib.hid hKU
  clear hKU
  refine HavG.wp_region_tabS (R := RGR w.heap.size K.heap.size gx gy gt fa fl fc low top bales wa wl wp p e0 e1 e2) (listT K.heap.size b gx gy gt fa fl fc low top bales wa wl wp p e0 e1 e2) [some 70, some 71, some 72, some 73, some 74, some 75, some 76, some 77, some 78, some 79, some 80, some 81, none, some 82, none, some 83, none, some 84, none] (by kernel_rfl) (by kernel_rfl) (by rfl) (fun i v w w' => listT_keep) ?_ ?_ ?_
  · intro i hi v u w h
    have hi2 : i = 12 ∨ i = 14 ∨ i = 16 ∨ i = 18 := by
      rcases Nat.lt_or_ge i 19 with h | h
      · have h3 : ∀ i, i < 19 → ([some 70, some 71, some 72, some 73, some 74, some 75, some 76, some 77, some 78, some 79, some 80, some 81, none, some 82, none, some 83, none, some 84, none] : List (Option Nat))[i]? = some none → i = 12 ∨ i = 14 ∨ i = 16 ∨ i = 18 := by decide
        exact h3 i h hi
      · rw [List.getElem?_eq_none (by simpa using h)] at hi; cases hi
    rcases hi2 with rfl | rfl | rfl | rfl <;> exact h
  · intro i hi oo a' w' ho hag hg hd
    match i, hi, ho, hd with
    | 0, _, ho, hd =>
      (simp only [List.getElem?_toArray, List.getElem?_cons_zero, Option.some.injEq] at ho; subst ho)
      refine HavG.tab_val rfl ⟨.slice (some ⟨w'.heap.size, 0, none⟩) 0 0, w'.alloc (.cells #[] 56), ?_, RG.of_below h1 hx hy ht (HSZ.out w' hg) ((Below.refl _ _).alloc (Nat.le_refl _) _), w'.heap.size, rfl, own_base (ownsRow_empty rfl 56 3) (HSZ.out w' hg)⟩
      go_simp
    | 1, _, ho, hd =>
      (simp only [List.getElem?_toArray, List.getElem?_cons_succ, List.getElem?_cons_zero, Option.some.injEq] at ho; subst ho)
      have s4 : a'.tmps[4]?.getD undef = .pointer (some ⟨b, 0, none⟩) := by rw [← Array.getD_eq_getD_getElem?]; exact hag.slot 4 (by kernel_rfl)
      have r4 : a'.tmps.getD 4 undef = .pointer (some ⟨b, 0, none⟩) := hag.slot 4 (by kernel_rfl)
      refine HavG.tab_val rfl ⟨.pointer (some ⟨b, 4, none⟩), w', ?_, HavG.Rel.refl _ _, rfl⟩
      go_simp
    | 2, _, ho, hd =>
      (simp only [List.getElem?_toArray, List.getElem?_cons_succ, List.getElem?_cons_zero, Option.some.injEq] at ho; subst ho)
      have d71 : a'.tmps.getD 71 undef = .pointer (some ⟨b, 4, none⟩) := hd 1 (some 71) (by kernel_rfl) rfl
      have c71 : a'.tmps[71]?.getD undef = .pointer (some ⟨b, 4, none⟩) := by rw [← Array.getD_eq_getD_getElem?]; exact d71
      obtain ⟨z0, z1, z2, z3, z4, zl⟩ := HBX.out w' hg
      refine HavG.tab_val rfl ⟨.slice wa wl wp, w', ?_, HavG.Rel.refl _ _, rfl⟩
      go_simp
    | 3, _, ho, hd =>
      (simp only [List.getElem?_toArray, List.getElem?_cons_succ, List.getElem?_cons_zero, Option.some.injEq] at ho; subst ho)
      obtain ⟨g, e3, h3⟩ := hd 0 (some 70) (by kernel_rfl) rfl
      have e4 : HavG.slot a' 72 = .slice wa wl wp := hd 2 (some 72) (by kernel_rfl) rfl
      obtain ⟨v', w2, hrun, ⟨g', c', rfl⟩, hown, hb⟩ := append_copy (P := Try.prog) (α := Ba) (f := baF) (n := wl) (c := wp) (A := wa) (l := p.weighed) 23 23 56 i1 _ 3 24 Try.underlying23 HJ.out HJ0.out HJ1.out HJ2.out rfl (by decide) baF_len HEN.out.2 (HP.out.hwl.below (HBW.out.trans hg.bw)) (by omega) (by omega) (HSZ.out w' hg) h3
      exact HavG.tab_val rfl ⟨_, w2, append_oper rfl e3 e4 hrun, RG.of_below h1 hx hy ht (HSZ.out w' hg) hb, _, _, rfl, hown⟩
    | 4, _, ho, hd =>
      (simp only [List.getElem?_toArray, List.getElem?_cons_succ, List.getElem?_cons_zero, Option.some.injEq] at ho; subst ho)
      have s5 : a'.tmps[5]?.getD undef = .pointer (some ⟨be, 0, none⟩) := by rw [← Array.getD_eq_getD_getElem?]; exact hag.slot 5 (by kernel_rfl)
      have r5 : a'.tmps.getD 5 undef = .pointer (some ⟨be, 0, none⟩) := hag.slot 5 (by kernel_rfl)
      obtain ⟨z0, z1, z2, zl⟩ := HBE.out w' hg
      refine HavG.tab_val rfl ⟨.agg #[.int .i64 e0, .int .i64 e1, .int .i64 e2], w', ?_, HavG.Rel.refl _ _, rfl⟩
      go_simp
      try rfl
    | 5, _, ho, hd =>
      (simp only [List.getElem?_toArray, List.getElem?_cons_succ, List.getElem?_cons_zero, Option.some.injEq] at ho; subst ho)
      have d74 : a'.tmps.getD 74 undef = .agg #[.int .i64 e0, .int .i64 e1, .int .i64 e2] := hd 4 (some 74) (by kernel_rfl) rfl
      have c74 : a'.tmps[74]?.getD undef = .agg #[.int .i64 e0, .int .i64 e1, .int .i64 e2] := by rw [← Array.getD_eq_getD_getElem?]; exact d74
      refine HavG.tab_val rfl ⟨.slice (some ⟨w'.heap.size, 0, none⟩) 1 1, w'.alloc (.cells #[.int .i64 e0, .int .i64 e1, .int .i64 e2] 56), ?_, RG.of_below h1 hx hy ht (HSZ.out w' hg) ((Below.refl _ _).alloc (Nat.le_refl _) _), w'.heap.size, rfl, HSZ.out w' hg, Blk.new w' 56 _⟩
      go_simp
      try rfl
    | 6, _, ho, hd =>
      (simp only [List.getElem?_toArray, List.getElem?_cons_succ, List.getElem?_cons_zero, Option.some.injEq] at ho; subst ho)
      obtain ⟨A, c, e3, h3⟩ := hd 3 (some 73) (by kernel_rfl) rfl
      obtain ⟨g, e4, hgB, h4⟩ := hd 5 (some 75) (by kernel_rfl) rfl
      obtain ⟨v', w2, hrun, hown, hG⟩ := append_keepM (P := Try.prog) K.heap.size 23 23 56 i1 _ 3 24 Try.underlying23 HJ.out HJ0.out HJ1.out HJ2.out rfl (by decide) _ wl _ h3 ⟨g, 0, none⟩ 1 (baF ⟨e0, ⟨e1, e2⟩⟩) rfl (news_block (t := 56) h4) (baF_one _) (by omega) (by omega) (HSZ.out w' hg)
      obtain ⟨A2, c2, hv2, -, -⟩ := own_rd (l := p.weighed ++ [⟨e0, ⟨e1, e2⟩⟩]) baF_len (by decide) (by rw [List.length_append, HEN.out.2, List.flatMap_append]; simpa using hown)
      rw [List.length_append, HEN.out.2, List.length_singleton] at hv2
      subst hv2
      exact HavG.tab_val rfl ⟨_, w2, append_oper rfl e3 e4 hrun, RG.of_gm h1 hx hy ht hG, _, _, rfl, hown⟩
    | 7, _, ho, hd =>
      (simp only [List.getElem?_toArray, List.getElem?_cons_succ, List.getElem?_cons_zero, Option.some.injEq] at ho; subst ho)
      refine HavG.tab_val rfl ⟨.slice (some ⟨w'.heap.size, 0, none⟩) 0 0, w'.alloc (.cells #[] 58), ?_, RG.of_below h1 hx hy ht (HSZ.out w' hg) ((Below.refl _ _).alloc (Nat.le_refl _) _), w'.heap.size, rfl, own_base (ownsRow_empty rfl 58 3) (HSZ.out w' hg)⟩
      go_simp
    | 8, _, ho, hd =>
      (simp only [List.getElem?_toArray, List.getElem?_cons_succ, List.getElem?_cons_zero, Option.some.injEq] at ho; subst ho)
      have s4 : a'.tmps[4]?.getD undef = .pointer (some ⟨b, 0, none⟩) := by rw [← Array.getD_eq_getD_getElem?]; exact hag.slot 4 (by kernel_rfl)
      have r4 : a'.tmps.getD 4 undef = .pointer (some ⟨b, 0, none⟩) := hag.slot 4 (by kernel_rfl)
      refine HavG.tab_val rfl ⟨.pointer (some ⟨b, 0, none⟩), w', ?_, HavG.Rel.refl _ _, rfl⟩
      go_simp
    | 9, _, ho, hd =>
      (simp only [List.getElem?_toArray, List.getElem?_cons_succ, List.getElem?_cons_zero, Option.some.injEq] at ho; subst ho)
      have d78 : a'.tmps.getD 78 undef = .pointer (some ⟨b, 0, none⟩) := hd 8 (some 78) (by kernel_rfl) rfl
      have c78 : a'.tmps[78]?.getD undef = .pointer (some ⟨b, 0, none⟩) := by rw [← Array.getD_eq_getD_getElem?]; exact d78
      obtain ⟨z0, z1, z2, z3, z4, zl⟩ := HBX.out w' hg
      refine HavG.tab_val rfl ⟨.slice fa fl fc, w', ?_, HavG.Rel.refl _ _, rfl⟩
      go_simp
    | 10, _, ho, hd =>
      (simp only [List.getElem?_toArray, List.getElem?_cons_succ, List.getElem?_cons_zero, Option.some.injEq] at ho; subst ho)
      obtain ⟨g, e3, h3⟩ := hd 7 (some 77) (by kernel_rfl) rfl
      have e4 : HavG.slot a' 79 = .slice fa fl fc := hd 9 (some 79) (by kernel_rfl) rfl
      obtain ⟨v', w2, hrun, ⟨g', c', rfl⟩, hown, hb⟩ := append_copy (P := Try.prog) (α := Fl) (f := flF) (n := fl) (c := fc) (A := fa) (l := p.fl) 22 22 58 i0 _ 3 24 Try.underlying22 HI.out HI0.out HI1.out HI2.out rfl (by decide) flF_len HEN.out.1 (HP.out.hfl.below (HBW.out.trans hg.bw)) (by omega) (by omega) (HSZ.out w' hg) h3
      exact HavG.tab_val rfl ⟨_, w2, append_oper rfl e3 e4 hrun, RG.of_below h1 hx hy ht (HSZ.out w' hg) hb, _, _, rfl, hown⟩
    | 11, _, ho, hd =>
      (simp only [List.getElem?_toArray, List.getElem?_cons_succ, List.getElem?_cons_zero, Option.some.injEq] at ho; subst ho)
      have s11 : a'.tmps[11]?.getD undef = .pointer (some ⟨gx, 0, none⟩) := by rw [← Array.getD_eq_getD_getElem?]; exact hag.slot 11 (by kernel_rfl)
      have r11 : a'.tmps.getD 11 undef = .pointer (some ⟨gx, 0, none⟩) := hag.slot 11 (by kernel_rfl)
      refine HavG.tab_val rfl ⟨.pointer (some ⟨gx, 4, none⟩), w', ?_, HavG.Rel.refl _ _, rfl⟩
      go_simp
    | 12, _, ho, hd =>
      (simp only [List.getElem?_toArray, List.getElem?_cons_succ, List.getElem?_cons_zero, Option.some.injEq] at ho; subst ho)
      have d81 : a'.tmps.getD 81 undef = .pointer (some ⟨gx, 4, none⟩) := hd 11 (some 81) (by kernel_rfl) rfl
      have c81 : a'.tmps[81]?.getD undef = .pointer (some ⟨gx, 4, none⟩) := by rw [← Array.getD_eq_getD_getElem?]; exact d81
      obtain ⟨A, c, e3, h3⟩ := hd 6 (some 76) (by kernel_rfl) rfl
      have d76 : a'.tmps.getD 76 undef = .slice A (wl + 1) c := e3
      have c76 : a'.tmps[76]?.getD undef = .slice A (wl + 1) c := by rw [← Array.getD_eq_getD_getElem?]; exact d76
      have hpre := hg.pr 0 HPRE.out.1
      obtain ⟨hR, hN⟩ := RG.setX (b0 := w.heap.size) HGE.out.1 hx HNE.out.1 HNE.out.2.1 hpre h3
      obtain ⟨u, hk⟩ := hpre
      have z0 := hk.cell 4
      have z1 := hk.frozen 4
      have z2 := hk.lt
      simp at z0
      refine HavG.tab_store rfl rfl ⟨w'.setCell ⟨gx, 4, none⟩ (.slice A (wl + 1) c), ?_, hR, hN⟩
      clear hR hN hk
      go_simp
      try rfl
    | 13, _, ho, hd =>
      (simp only [List.getElem?_toArray, List.getElem?_cons_succ, List.getElem?_cons_zero, Option.some.injEq] at ho; subst ho)
      have s12 : a'.tmps[12]?.getD undef = .pointer (some ⟨gy, 0, none⟩) := by rw [← Array.getD_eq_getD_getElem?]; exact hag.slot 12 (by kernel_rfl)
      have r12 : a'.tmps.getD 12 undef = .pointer (some ⟨gy, 0, none⟩) := hag.slot 12 (by kernel_rfl)
      refine HavG.tab_val rfl ⟨.pointer (some ⟨gy, 0, none⟩), w', ?_, HavG.Rel.refl _ _, rfl⟩
      go_simp
    | 14, _, ho, hd =>
      (simp only [List.getElem?_toArray, List.getElem?_cons_succ, List.getElem?_cons_zero, Option.some.injEq] at ho; subst ho)
      have d82 : a'.tmps.getD 82 undef = .pointer (some ⟨gy, 0, none⟩) := hd 13 (some 82) (by kernel_rfl) rfl
      have c82 : a'.tmps[82]?.getD undef = .pointer (some ⟨gy, 0, none⟩) := by rw [← Array.getD_eq_getD_getElem?]; exact d82
      obtain ⟨A, c, e3, h3⟩ := hd 10 (some 80) (by kernel_rfl) rfl
      have d80 : a'.tmps.getD 80 undef = .slice A fl c := e3
      have c80 : a'.tmps[80]?.getD undef = .slice A fl c := by rw [← Array.getD_eq_getD_getElem?]; exact d80
      have hpre := hg.pr 2 HPRE.out.2.1
      obtain ⟨hR, hN⟩ := RG.setY (b0 := w.heap.size) HGE.out.2.1 hy HNE.out.1 HNE.out.2.2 hpre h3
      obtain ⟨u, hk⟩ := hpre
      have z0 := hk.cell 0
      have z1 := hk.frozen 0
      have z2 := hk.lt
      simp at z0
      refine HavG.tab_store rfl rfl ⟨w'.setCell ⟨gy, 0, none⟩ (.slice A fl c), ?_, hR, hN⟩
      clear hR hN hk
      go_simp
      try rfl
    | 15, _, ho, hd =>
      (simp only [List.getElem?_toArray, List.getElem?_cons_succ, List.getElem?_cons_zero, Option.some.injEq] at ho; subst ho)
      have s14 : a'.tmps[14]?.getD undef = .pointer (some ⟨gt, 0, none⟩) := by rw [← Array.getD_eq_getD_getElem?]; exact hag.slot 14 (by kernel_rfl)
      have r14 : a'.tmps.getD 14 undef = .pointer (some ⟨gt, 0, none⟩) := hag.slot 14 (by kernel_rfl)
      refine HavG.tab_val rfl ⟨.pointer (some ⟨gt, 0, none⟩), w', ?_, HavG.Rel.refl _ _, rfl⟩
      go_simp
    | 16, _, ho, hd =>
      (simp only [List.getElem?_toArray, List.getElem?_cons_succ, List.getElem?_cons_zero, Option.some.injEq] at ho; subst ho)
      have d83 : a'.tmps.getD 83 undef = .pointer (some ⟨gt, 0, none⟩) := hd 15 (some 83) (by kernel_rfl) rfl
      have c83 : a'.tmps[83]?.getD undef = .pointer (some ⟨gt, 0, none⟩) := by rw [← Array.getD_eq_getD_getElem?]; exact d83
      have hpre := hg.pr 4 HPRE.out.2.2
      obtain ⟨hR, hN⟩ := RG.setT0 (b0 := w.heap.size) HGE.out.2.2 ht HNE.out.2.1 HNE.out.2.2 hpre
      obtain ⟨u, v, hk⟩ := hpre
      have z0 := hk.cell 0
      have z1 := hk.frozen 0
      have z2 := hk.lt
      simp at z0
      refine HavG.tab_store rfl rfl ⟨w'.setCell ⟨gt, 0, none⟩ (.slice none 0 0), ?_, hR, hN⟩
      clear hR hN hk
      go_simp
      try rfl
    | 17, _, ho, hd =>
      (simp only [List.getElem?_toArray, List.getElem?_cons_succ, List.getElem?_cons_zero, Option.some.injEq] at ho; subst ho)
      have s14 : a'.tmps[14]?.getD undef = .pointer (some ⟨gt, 0, none⟩) := by rw [← Array.getD_eq_getD_getElem?]; exact hag.slot 14 (by kernel_rfl)
      have r14 : a'.tmps.getD 14 undef = .pointer (some ⟨gt, 0, none⟩) := hag.slot 14 (by kernel_rfl)
      refine HavG.tab_val rfl ⟨.pointer (some ⟨gt, 4, none⟩), w', ?_, HavG.Rel.refl _ _, rfl⟩
      go_simp
    | 18, _, ho, hd =>
      (simp only [List.getElem?_toArray, List.getElem?_cons_succ, List.getElem?_cons_zero, Option.some.injEq] at ho; subst ho)
      have d84 : a'.tmps.getD 84 undef = .pointer (some ⟨gt, 4, none⟩) := hd 17 (some 84) (by kernel_rfl) rfl
      have c84 : a'.tmps[84]?.getD undef = .pointer (some ⟨gt, 4, none⟩) := by rw [← Array.getD_eq_getD_getElem?]; exact d84
      have hpre := hg.pr 4 HPRE.out.2.2
      obtain ⟨hR, hN⟩ := RG.setT4 (b0 := w.heap.size) HGE.out.2.2 ht HNE.out.2.1 HNE.out.2.2 hpre
      obtain ⟨u, v, hk⟩ := hpre
      have z0 := hk.cell 4
      have z1 := hk.frozen 4
      have z2 := hk.lt
      simp at z0
      refine HavG.tab_store rfl rfl ⟨w'.setCell ⟨gt, 4, none⟩ (.slice none 0 0), ?_, hR, hN⟩
      clear hR hN hk
      go_simp
      try rfl
  intro f v5 hg5 hf
  obtain ⟨g70, q70, -⟩ := hf 0 (some 70) rfl
  have q71 : f 71 = _ := hf 1 (some 71) rfl
  have q72 : f 72 = _ := hf 2 (some 72) rfl
  obtain ⟨A73, c73, q73, -⟩ := hf 3 (some 73) rfl
  have q74 : f 74 = _ := hf 4 (some 74) rfl
  obtain ⟨g75, q75, -, -⟩ := hf 5 (some 75) rfl
  obtain ⟨A76, c76, q76, -⟩ := hf 6 (some 76) rfl
  obtain ⟨g77, q77, -⟩ := hf 7 (some 77) rfl
  have q78 : f 78 = _ := hf 8 (some 78) rfl
  have q79 : f 79 = _ := hf 9 (some 79) rfl
  obtain ⟨A80, c80, q80, -⟩ := hf 10 (some 80) rfl
  have q81 : f 81 = _ := hf 11 (some 81) rfl
  have q82 : f 82 = _ := hf 13 (some 82) rfl
  have q83 : f 83 = _ := hf 15 (some 83) rfl
  have q84 : f 84 = _ := hf 17 (some 84) rfl
  simp only [HavG.fvalS] at q70 q73 q75 q76 q77 q80
  have hX := hf 12 none rfl
  have hY := hf 14 none rfl
  have hT0 := hf 16 none rfl
  have hT4 := hf 18 none rfl
  simp only [List.filterMap, HavG.puts, List.foldl_cons, List.foldl_nil, Act.put, List.setIfInBounds_toArray, List.set_cons_succ, List.set_cons_zero]
  rw [q70, q71, q72, q73, q74, q75, q76, q77, q78, q79, q80, q81, q82, q83, q84]
  clear hf q70 q71 q72 q73 q74 q75 q76 q77 q78 q79 q80 q81 q82 q83 q84
  obtain ⟨xa, xc, hx5, ho5⟩ : ∃ A c, Blk v5 gx 25 (boxC fa fl fc low top bales A (wl + 1) c) ∧ v5.ownsRow K.heap.size 56 3 (.slice A (wl + 1) c) (wl + 1) (p.weighed.flatMap baF ++ baF ⟨e0, ⟨e1, e2⟩⟩) := hX
  obtain ⟨ya, yc, hy5, hp5⟩ : ∃ A c, Blk v5 gy 25 (boxC A fl c low top bales wa wl wp) ∧ v5.ownsRow K.heap.size 58 3 (.slice A fl c) fl (p.fl.flatMap flF) := hY
  obtain ⟨tv, ht5⟩ : ∃ v, Blk v5 gt 25 #[.slice none 0 0, .int .i64 low, .int .i64 top, .int .i64 bales, v] := hT0
  obtain ⟨tu, hu5⟩ : ∃ u, Blk v5 gt 25 #[u, .int .i64 low, .int .i64 top, .int .i64 bales, .slice none 0 0] := hT4
  have htv : tv = .slice none 0 0 := by
    have h := (ht5.cell 4).symm.trans (hu5.cell 4)
    simpa using h
  subst htv
  have HBW5 : Hid (Below w.heap.size w v5) := HBW.out.trans hg5.bw
  have keep := hg5.keep
  have hA : MoreA w v5 gt b gx gy gz gn fa fl fc low top bales wa wl wp xa (wl + 1) xc ya yc (p.more ⟨e0, ⟨e1, e2⟩⟩) p := by
    obtain ⟨n1, n2, n3, n4, n5, n6, n7, n8, n9, n10⟩ := HNF.out
    obtain ⟨m1, m2, m3⟩ := HNN.out
    refine ⟨HGE.out.2.2, HGZ.out, HBW5.out, (keep b HBB.out.lt n7 n8 n9).trans HBB.out, hx5, hy5, (keep gz HBZ.out.lt (Ne.symm n4) (Ne.symm n5) n6).trans HBZ.out, ht5, (keep gn HBN.out.lt m1 m2 m3).trans HBN.out, ⟨n9, n2, n3, n6, n10, n4, n5⟩, own_base ?_ h1, own_base hp5 h1⟩
    have e : (p.more ⟨e0, ⟨e1, e2⟩⟩).weighed.flatMap baF = p.weighed.flatMap baF ++ baF ⟨e0, ⟨e1, e2⟩⟩ := by
      show (p.weighed ++ [_]).flatMap baF = _
      rw [List.flatMap_append]
      simp
    rw [e]
    exact ho5
  have HA := Lib.hid hA
  clear hA keep hx5 ho5 hy5 hp5 ht5 hu5 hg5
  go_wp2_with fail
  exact HKU.out _ _ (more_t5 k0 k1 HP.out HV.out HA.out (PressD.finer_more _) (by rw [PressD.more_len, HEN.out.2]) (by omega) rfl HSF.out)
end
end Go.Proofs.Ytbfjebglaimcmaa
