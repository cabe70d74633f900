/- PressMore's code from the copies of the lists on. Conditions: what the boxes hold, as hypotheses. -/
import Derived.Test.YtbfjebglaimcmaaLawN5
namespace Go.Proofs.Ytbfjebglaimcmaa
open Go.RowKit Go.Hav
/-- The boxes of PressMore but the one at gt. -/
structure MoreB (w K : World) (gt b gx gy gz gn : Nat) (fa : Option Addr) (fl fc : Nat) (low top bales : Int) (wa : Option Addr) (wl wp : Nat) (xa : Option Addr) (xl xc : Nat) (ya : Option Addr) (yc : Nat) (p px py : PressD) : Prop where
  hgt : w.heap.size ≤ gt
  bw : Below w.heap.size w K
  box : Blk K b 25 (boxC fa fl fc low top bales wa wl wp)
  bx : Blk K gx 25 (boxC fa fl fc low top bales xa xl xc)
  by_ : Blk K gy 25 (boxC ya fl yc low top bales wa wl wp)
  bz : Blk K gz 25 (boxC fa fl fc low top (min 5 (p.bales + 1)) wa wl wp)
  bn : Blk K gn 3 #[.int .i64 fl]
  ne : b ≠ gt ∧ gx ≠ gt ∧ gy ≠ gt ∧ gz ≠ gt
  ox : K.ownsRow w.heap.size 56 3 (.slice xa xl xc) xl (px.weighed.flatMap baF)
  oy : K.ownsRow w.heap.size 58 3 (.slice ya fl yc) fl (py.fl.flatMap flF)
section
variable {w K K' : World} {gt b gx gy gz gn : Nat} {fa wa xa ya : Option Addr} {fl fc wl wp xl xc yc : Nat} {low top bales : Int} {p px py : PressD}
theorem own_not {e t sz n B g : Nat} {v : Value} {xs : List Value} {cs : Array Value} (h : K.ownsRow B e sz v n xs) (hb : Blk K g t cs) (ht : e ≠ t) : v.ownBlock ≠ some g := fun e1 => by
  rcases h.2 with ⟨rfl, _⟩ | ⟨g', c, cur, rfl, _, hh, _⟩
  · cases e1
  · have e2 : g' = g := by simpa [Value.ownBlock] using e1
    subst e2
    have h3 : K.heap[g']? = some (.cells cs t (0, 0)) := hb
    rw [hh] at h3
    injection h3 with h3
    injection h3 with _ h3 _
    exact ht h3
theorem MoreB.grown (h : MoreB w K gt b gx gy gz gn fa fl fc low top bales wa wl wp xa xl xc ya yc p px py) {cs : Array Value} (ht : Blk K gt 25 cs) (hg : K.grownBy K' (some gt)) : MoreB w K' gt b gx gy gz gn fa fl fc low top bales wa wl wp xa xl xc ya yc p px py := by
  have keep : ∀ g, g < K.heap.size → g ≠ gt → K'.heap[g]? = K.heap[g]? := fun g h1 h2 => hg.block g h1 (fun e => h2 (by injection e))
  have hn : gn ≠ gt := fun e => by
    have h3 := h.bn
    rw [e] at h3
    have h4 : K.heap[gt]? = some (.cells cs 25 (0, 0)) := ht
    have h5 : K.heap[gt]? = some (.cells _ 3 (0, 0)) := h3
    rw [h4] at h5
    injection h5 with h5
    injection h5 with _ h5 _
    cases h5
  obtain ⟨n1, n2, n3, n4⟩ := h.ne
  have hbw : Below w.heap.size w K' := Below.grown h.bw hg h.bw.size (fun k hk => by
    injection hk with hk
    rw [← hk]
    exact h.hgt)
  exact ⟨h.hgt, hbw, (keep b h.box.lt n1).trans h.box, (keep gx h.bx.lt n2).trans h.bx, (keep gy h.by_.lt n3).trans h.by_, (keep gz h.bz.lt n4).trans h.bz, (keep gn h.bn.lt hn).trans h.bn, h.ne,
    own_keep h.ox fun g e => keep g (h.ox.lt g e).2 (fun e2 => own_not h.ox ht (by decide) (by rw [e, e2])),
    own_keep h.oy fun g e => keep g (h.oy.lt g e).2 (fun e2 => own_not h.oy ht (by decide) (by rw [e, e2]))⟩
theorem MoreB.below (h : MoreB w K gt b gx gy gz gn fa fl fc low top bales wa wl wp xa xl xc ya yc p px py) (hb : Below K.heap.size K K') : MoreB w K' gt b gx gy gz gn fa fl fc low top bales wa wl wp xa xl xc ya yc p px py :=
  ⟨h.hgt, h.bw.trans (hb.mono h.bw.size), h.box.below hb h.box.lt, h.bx.below hb h.bx.lt, h.by_.below hb h.by_.lt, h.bz.below hb h.bz.lt, h.bn.below hb h.bn.lt, h.ne, own_below h.ox hb, own_below h.oy hb⟩
/-- What the operations of the region leave that copies both lists. -/
def copyT (B b : Nat) (fa : Option Addr) (fl fc : Nat) (wa : Option Addr) (wl wp : Nat) (p : PressD) (i : Nat) (v : Value) (w : World) : Prop :=
  match i with
  | 0 => ∃ g, v = .slice (some ⟨g, 0, none⟩) 0 0 ∧ w.ownsRow B 58 3 (.slice (some ⟨g, 0, none⟩) 0 0) 0 []
  | 1 => v = .pointer (some ⟨b, 0, none⟩)
  | 2 => v = .slice fa fl fc
  | 3 => ∃ A c, v = .slice A fl c ∧ w.ownsRow B 58 3 (.slice A fl c) fl (p.fl.flatMap flF)
  | 4 => ∃ g, v = .slice (some ⟨g, 0, none⟩) 0 0 ∧ w.ownsRow B 56 3 (.slice (some ⟨g, 0, none⟩) 0 0) 0 []
  | 5 => v = .pointer (some ⟨b, 4, none⟩)
  | 6 => v = .slice wa wl wp
  | _ => ∃ A c, v = .slice A wl c ∧ w.ownsRow B 56 3 (.slice A wl c) wl (p.weighed.flatMap baF)
theorem copyT_keep {B b i : Nat} {v : Value} {w w' : World} (h : copyT B b fa fl fc wa wl wp p i v w) (hG : (GM B 3 1 0 [] []).G w w') : copyT B b fa fl fc wa wl wp p i v w' := by
  unfold copyT at h ⊢
  split at h
  · obtain ⟨g, e, h⟩ := h; exact ⟨g, e, GM.own hG (by decide) h⟩
  · exact h
  · exact h
  · obtain ⟨g, c, e, h⟩ := h; exact ⟨g, c, e, GM.own hG (by decide) h⟩
  · obtain ⟨g, e, h⟩ := h; exact ⟨g, e, GM.own hG (by decide) h⟩
  · exact h
  · exact h
  · obtain ⟨g, c, e, h⟩ := h; exact ⟨g, c, e, GM.own hG (by decide) h⟩
theorem infoE58 : (Try.prog.info? 58).map (fun i => (i.zero, i.size, i.bytes)) = some (some (.agg #[.int .i64 0, .int .i64 0, .int .i64 0]), 3, 24) := by kernel_rfl
set_option maxRecDepth 100000 in
set_option maxHeartbeats 6400000 in
theorem more_t10 {ta ua : Option Addr} {tc uc s : Nat} (hP : PressIn w w.heap.size fa fl low top bales wa wl p) (hv : p.ok = true) (hB : MoreB w K gt b gx gy gz gn fa fl fc low top bales wa wl wp xa xl xc ya yc p px py)
    (hFx : PressD.Finer p px) (hxl : px.weighed.length = xl) (hxs : xl ≤ 100) (hxf : px.fl = p.fl) (hFy : PressD.Finer p py) (hyw : py.weighed = p.weighed)
    (ht : Blk K gt 25 (boxC ta fl tc low top bales ua wl uc)) (hot : K.ownsRow w.heap.size 58 3 (.slice ta fl tc) fl (p.turnP.fl.flatMap flF)) (hou : K.ownsRow w.heap.size 56 3 (.slice ua wl uc) wl (p.turnP.weighed.flatMap baF)) (hSF : s ≤ full p.n) {s0 s1 s2 s3 s5 s6 s7 s8 s9 s15 s17 s18 s19 s20 s21 s22 s23 s24 s25 s26 s27 s28 s29 s30 s31 s32 s33 s34 s35 s36 s37 s38 s39 s40 s41 s42 s43 s44 s45 s46 s47 s48 s49 s50 s51 s52 s53 s54 s55 s56 s57 s58 s59 s60 s61 s62 s63 s64 s65 s66 s67 s68 s69 s70 s71 s72 s73 s74 s75 s76 s77 s78 s79 s80 s81 s82 s83 s84 s85 s86 s87 s88 s89 s90 s91 s92 s93 s94 s95 s96 s97 s98 s99 s100 s101 s102 s103 s104 s105 s106 s107 s108 s109 s110 s111 s112 s113 s114 s115 s116 s117 s118 s119 s120 s121 s122 s123 s124 s125 s126 s127 s128 s129 s130 s131 s132 s133 s134 s135 s136 s137 s138 s139 s140 s141 s142 s143 s144 s145 s146 s147 s148 s149 s150 s151 s152 s153 s154 s155 s156 s157 s158 s159 s160 s161 s162 s163 s164 s165 s166 s167 s168 s169 s170 s171 s172 s173 s174 s175 s176 s177 s178 s179 s180 s181 s182 s183 s184 s185 s186 s187 s188 s189 s190 s191 s192 s193 s194 s195 s196 s197 s198 s199 s200 s201 s202 s203 s204 s205 s206 s207 s208 s209 s210 s211 s212 s213 s214 s215 s216 s217 s218 s219 s220 s221 s222 s223 s224 s225 s226 s227 s228 s229 s230 s231 s232 s233 s234 s235 s236 s237 s238 s239 s240 s241 s242 s243 s244 s245 s246 s247 s248 s249 s250 s251 s252 s253 s254 s255 s256 s257 s258 s259 s260 s261 s262 s263 s264 s265 s266 s267 s268 s269 s270 s271 s272 s273 s274 s275 s276 s277 s278 s279 s280 s281 s282 s283 s284 s285 s286 s287 s288 s289 s290 s291 s292 s293 s294 s295 s296 s297 s298 s299 s300 s301 s302 s303 s304 s305 s306 s307 s308 s309 s310 s311 s312 s313 s314 s315 s316 s317 s318 s319 s320 s321 s322 s323 s324 s325 s326 s327 s328 s329 s330 s331 s332 s333 s334 s335 s336 s337 s338 s339 s340 s341 s342 s343 s344 s345 s346 s347 s348 s349 s350 s351 s352 s353 s354 s355 s356 s357 s358 s359 s360 s361 s362 s363 s364 s365 s366 s367 s368 s369 s370 s371 s372 s373 s374 s375 s376 s377 s378 s379 s380 s381 s382 s383 s384 s385 s386 s387 s388 s389 s390 s391 s392 s393 s394 s395 s396 s397 s398 s399 s400 s401 s402 : Value} :
    Code.wp Try.prog (moreTail 10) (bodyPost Try.prog Try.f10 fun e w' => e = .returned (.bool true) ∧ Below w.heap.size w w') ⟨(s0 :: s1 :: s2 :: s3 :: (.pointer (some ⟨b, 0, none⟩)) :: s5 :: s6 :: s7 :: s8 :: s9 :: (.int .i64 (s : Nat)) :: (.pointer (some ⟨gx, 0, none⟩)) :: (.pointer (some ⟨gy, 0, none⟩)) :: (.pointer (some ⟨gz, 0, none⟩)) :: (.pointer (some ⟨gt, 0, none⟩)) :: s15 :: (.func (.func 43) #[] #[.pointer (some ⟨gn, 0, none⟩)]) :: s17 :: s18 :: s19 :: s20 :: s21 :: s22 :: s23 :: s24 :: s25 :: s26 :: s27 :: s28 :: s29 :: s30 :: s31 :: s32 :: s33 :: s34 :: s35 :: s36 :: s37 :: s38 :: s39 :: s40 :: s41 :: s42 :: s43 :: s44 :: s45 :: s46 :: s47 :: s48 :: s49 :: s50 :: s51 :: s52 :: s53 :: s54 :: s55 :: s56 :: s57 :: s58 :: s59 :: s60 :: s61 :: s62 :: s63 :: s64 :: s65 :: s66 :: s67 :: s68 :: s69 :: s70 :: s71 :: s72 :: s73 :: s74 :: s75 :: s76 :: s77 :: s78 :: s79 :: s80 :: s81 :: s82 :: s83 :: s84 :: s85 :: s86 :: s87 :: s88 :: s89 :: s90 :: s91 :: s92 :: s93 :: s94 :: s95 :: s96 :: s97 :: s98 :: s99 :: s100 :: s101 :: s102 :: s103 :: s104 :: s105 :: s106 :: s107 :: s108 :: s109 :: s110 :: s111 :: s112 :: s113 :: s114 :: s115 :: s116 :: s117 :: s118 :: s119 :: s120 :: s121 :: s122 :: s123 :: s124 :: s125 :: s126 :: s127 :: s128 :: s129 :: s130 :: s131 :: s132 :: s133 :: s134 :: s135 :: s136 :: s137 :: s138 :: s139 :: s140 :: s141 :: s142 :: s143 :: s144 :: s145 :: s146 :: s147 :: s148 :: s149 :: s150 :: s151 :: s152 :: s153 :: s154 :: s155 :: s156 :: s157 :: s158 :: s159 :: s160 :: s161 :: s162 :: s163 :: s164 :: s165 :: s166 :: s167 :: s168 :: s169 :: s170 :: s171 :: s172 :: s173 :: s174 :: s175 :: s176 :: s177 :: s178 :: s179 :: s180 :: s181 :: s182 :: s183 :: s184 :: s185 :: s186 :: s187 :: s188 :: s189 :: s190 :: s191 :: s192 :: s193 :: s194 :: s195 :: s196 :: s197 :: s198 :: s199 :: s200 :: s201 :: s202 :: s203 :: s204 :: s205 :: s206 :: s207 :: s208 :: s209 :: s210 :: s211 :: s212 :: s213 :: s214 :: s215 :: s216 :: s217 :: s218 :: s219 :: s220 :: s221 :: s222 :: s223 :: s224 :: s225 :: s226 :: s227 :: s228 :: s229 :: s230 :: s231 :: s232 :: s233 :: s234 :: s235 :: s236 :: s237 :: s238 :: s239 :: s240 :: s241 :: s242 :: s243 :: s244 :: s245 :: s246 :: s247 :: s248 :: s249 :: s250 :: s251 :: s252 :: s253 :: s254 :: s255 :: s256 :: s257 :: s258 :: s259 :: s260 :: s261 :: s262 :: s263 :: s264 :: s265 :: s266 :: s267 :: s268 :: s269 :: s270 :: s271 :: s272 :: s273 :: s274 :: s275 :: s276 :: s277 :: s278 :: s279 :: s280 :: s281 :: s282 :: s283 :: s284 :: s285 :: s286 :: s287 :: s288 :: s289 :: s290 :: s291 :: s292 :: s293 :: s294 :: s295 :: s296 :: s297 :: s298 :: s299 :: s300 :: s301 :: s302 :: s303 :: s304 :: s305 :: s306 :: s307 :: s308 :: s309 :: s310 :: s311 :: s312 :: s313 :: s314 :: s315 :: s316 :: s317 :: s318 :: s319 :: s320 :: s321 :: s322 :: s323 :: s324 :: s325 :: s326 :: s327 :: s328 :: s329 :: s330 :: s331 :: s332 :: s333 :: s334 :: s335 :: s336 :: s337 :: s338 :: s339 :: s340 :: s341 :: s342 :: s343 :: s344 :: s345 :: s346 :: s347 :: s348 :: s349 :: s350 :: s351 :: s352 :: s353 :: s354 :: s355 :: s356 :: s357 :: s358 :: s359 :: s360 :: s361 :: s362 :: s363 :: s364 :: s365 :: s366 :: s367 :: s368 :: s369 :: s370 :: s371 :: s372 :: s373 :: s374 :: s375 :: s376 :: s377 :: s378 :: s379 :: s380 :: s381 :: s382 :: s383 :: s384 :: s385 :: s386 :: s387 :: s388 :: s389 :: s390 :: s391 :: s392 :: s393 :: s394 :: s395 :: s396 :: s397 :: s398 :: s399 :: s400 :: s401 :: s402 :: []).toArray, []⟩ K := by
  conv => arg 2; whnf
  have HP := Lib.hid hP
  have HV := Lib.hid hv
  have HB := Lib.hid hB
  have HFX := Lib.hid hFx
  have HFY := Lib.hid hFy
  have HXE : Hid (px.weighed.length = xl ∧ px.fl = p.fl ∧ py.weighed = p.weighed) := ⟨hxl, hxf, hyw⟩
  have HT := Lib.hid ht
  have HOT := Lib.hid hot
  have HOU := Lib.hid hou
  have HSF := Lib.hid hSF
  have HEN : Hid (p.fl.length = fl ∧ p.weighed.length = wl) := ⟨hP.efl, hP.ewl⟩
  have hn10 : fl ≤ 10 := by have := (PressD.ok_head hv).1; rw [show p.n = fl from hP.efl] at this; exact this
  have hwl4 : wl ≤ 4 := by have := (PressD.ok_head hv).2.2.2.2.2.2; rw [HEN.out.2] at this; exact this
  obtain ⟨x0, x1, x2, x3, x4, xl'⟩ := boxC_cells hB.box
  obtain ⟨i0, hi, hz0, hz1, hz2⟩ := info_parts infoE58
  have HI := Lib.hid hi
  have HI0 := Lib.hid hz0
  have HI1 := Lib.hid hz1
  have HI2 := Lib.hid hz2
  clear hi hz0 hz1 hz2
  obtain ⟨i1, hi, hz0, hz1, hz2⟩ := info_parts Try.infoE56
  have HJ := Lib.hid hi
  have HJ0 := Lib.hid hz0
  have HJ1 := Lib.hid hz1
  have HJ2 := Lib.hid hz2
  clear hi hz0 hz1 hz2 hP hv hB hFx hFy hxl hxf hyw ht hot hou hSF
  go_upto_region 23 with fail
  rename ∀ a w, Code.wp Try.prog (moreTail 11) _ a w → _ => hKU
  have HKU := Lib.hid hKU
  clear hKU
  refine HavG.wp_region_tab (R := GM K.heap.size 3 1 0 [] []) (copyT K.heap.size b fa fl fc wa wl wp p) [170,171,172,173,174,175,176,177] [8,9] (by kernel_rfl) (by kernel_rfl) (by rfl) (fun i v w w' => copyT_keep) ?_ ?_
  · intro i hi oo a' w' ho hag hg hd
    have hcv : ∀ b o, b < _ → w'.cell? ⟨b, o, none⟩ = _ := fun b o hb => Below.cell hg.1 (p := ⟨b, o, none⟩) hb
    match i, hi, ho, hd with
    | 0, _, ho, hd =>
      (simp only [List.getElem?_toArray, List.getElem?_cons_zero, Option.some.injEq] at ho; subst ho)
      refine HavG.tab_val rfl ⟨.slice (some ⟨w'.heap.size, 0, none⟩) 0 0, w'.alloc (.cells #[] 58), ?_, GM.below hg.1.size ((Below.refl _ _).alloc (Nat.le_refl _) _), w'.heap.size, rfl, own_base (ownsRow_empty rfl 58 3) hg.1.size⟩
      go_simp
    | 1, _, ho, hd =>
      (simp only [List.getElem?_toArray, List.getElem?_cons_succ, List.getElem?_cons_zero, Option.some.injEq] at ho; subst ho)
      have s4 : a'.tmps.getD 4 undef = .pointer (some ⟨b, 0, none⟩) := hag.slot 4 (by kernel_rfl)
      refine HavG.tab_val rfl ⟨_, w', ?_, (GM _ _ _ _ _ _).refl _, rfl⟩
      go_simp
    | 2, _, ho, hd =>
      (simp only [List.getElem?_toArray, List.getElem?_cons_succ, List.getElem?_cons_zero, Option.some.injEq] at ho; subst ho)
      have e1 : HavG.slot a' 171 = .pointer (some ⟨b, 0, none⟩) := hd 1 171 (by kernel_rfl) rfl
      have s1 : a'.tmps[171]?.getD undef = .pointer (some ⟨b, 0, none⟩) := by rw [← Array.getD_eq_getD_getElem?]; exact e1
      refine HavG.tab_val rfl ⟨_, w', ?_, (GM _ _ _ _ _ _).refl _, rfl⟩
      go_simp
    | 3, _, ho, hd =>
      (simp only [List.getElem?_toArray, List.getElem?_cons_succ, List.getElem?_cons_zero, Option.some.injEq] at ho; subst ho)
      obtain ⟨g, e3, h3⟩ := hd 0 170 (by kernel_rfl) rfl
      have e4 : HavG.slot a' 172 = .slice fa fl fc := hd 2 172 (by kernel_rfl) rfl
      obtain ⟨v', w2, hrun, ⟨g', c', rfl⟩, hown, hb⟩ := append_copy (P := Try.prog) (α := Fl) (f := flF) (n := fl) (c := fc) (A := fa) (l := p.fl) 22 22 58 i0 _ 3 24 Try.underlying22 HI.out HI0.out HI1.out HI2.out rfl (by decide) flF_len HEN.out.1 (HP.out.hfl.below (HB.out.bw.trans (hg.1.mono HB.out.bw.size))) (by omega) (by omega) hg.1.size h3
      exact HavG.tab_val rfl ⟨_, w2, append_oper rfl e3 e4 hrun, GM.below hg.1.size hb, _, _, rfl, hown⟩
    | 4, _, ho, hd =>
      (simp only [List.getElem?_toArray, List.getElem?_cons_succ, List.getElem?_cons_zero, Option.some.injEq] at ho; subst ho)
      refine HavG.tab_val rfl ⟨.slice (some ⟨w'.heap.size, 0, none⟩) 0 0, w'.alloc (.cells #[] 56), ?_, GM.below hg.1.size ((Below.refl _ _).alloc (Nat.le_refl _) _), w'.heap.size, rfl, own_base (ownsRow_empty rfl 56 3) hg.1.size⟩
      go_simp
    | 5, _, ho, hd =>
      (simp only [List.getElem?_toArray, List.getElem?_cons_succ, List.getElem?_cons_zero, Option.some.injEq] at ho; subst ho)
      have s4 : a'.tmps.getD 4 undef = .pointer (some ⟨b, 0, none⟩) := hag.slot 4 (by kernel_rfl)
      refine HavG.tab_val rfl ⟨_, w', ?_, (GM _ _ _ _ _ _).refl _, rfl⟩
      go_simp
    | 6, _, ho, hd =>
      (simp only [List.getElem?_toArray, List.getElem?_cons_succ, List.getElem?_cons_zero, Option.some.injEq] at ho; subst ho)
      have e1 : HavG.slot a' 175 = .pointer (some ⟨b, 4, none⟩) := hd 5 175 (by kernel_rfl) rfl
      have s1 : a'.tmps[175]?.getD undef = .pointer (some ⟨b, 4, none⟩) := by rw [← Array.getD_eq_getD_getElem?]; exact e1
      refine HavG.tab_val rfl ⟨_, w', ?_, (GM _ _ _ _ _ _).refl _, rfl⟩
      go_simp
    | 7, _, ho, hd =>
      (simp only [List.getElem?_toArray, List.getElem?_cons_succ, List.getElem?_cons_zero, Option.some.injEq] at ho; subst ho)
      obtain ⟨g, e3, h3⟩ := hd 4 174 (by kernel_rfl) rfl
      have e4 : HavG.slot a' 176 = .slice wa wl wp := hd 6 176 (by kernel_rfl) rfl
      obtain ⟨v', w2, hrun, ⟨g', c', rfl⟩, hown, hb⟩ := append_copy (P := Try.prog) (α := Ba) (f := baF) (n := wl) (c := wp) (A := wa) (l := p.weighed) 23 23 56 i1 _ 3 24 Try.underlying23 HJ.out HJ0.out HJ1.out HJ2.out rfl (by decide) baF_len HEN.out.2 (HP.out.hwl.below (HB.out.bw.trans (hg.1.mono HB.out.bw.size))) (by omega) (by omega) hg.1.size h3
      exact HavG.tab_val rfl ⟨_, w2, append_oper rfl e3 e4 hrun, GM.below hg.1.size hb, _, _, rfl, hown⟩
  intro f v5 hg5 hf
  obtain ⟨g0, h0, -⟩ := hf 0 170 rfl
  have h1 : f 171 = _ := hf 1 171 rfl
  have h2 : f 172 = _ := hf 2 172 rfl
  obtain ⟨A1, c1, h3, ho1⟩ := hf 3 173 rfl
  obtain ⟨g4, h4, -⟩ := hf 4 174 rfl
  have h5 : f 175 = _ := hf 5 175 rfl
  have h6 : f 176 = _ := hf 6 176 rfl
  obtain ⟨A2, c2, h7, ho2⟩ := hf 7 177 rfl
  simp only [List.filterMap, HavG.puts, List.foldl_cons, List.foldl_nil, Act.put, List.setIfInBounds_toArray, List.set_cons_succ, List.set_cons_zero]
  rw [h0, h1, h2, h3, h4, h5, h6, h7]
  clear h0 h1 h2 h3 h4 h5 h6 h7 hf
  have HB5 : Hid (Below K.heap.size K v5) := hg5.1
  have HO1 := Lib.hid ho1
  have HO2 := Lib.hid ho2
  clear hg5 ho1 ho2 x0 x1 x2 x3 x4 xl'
  go_wp2_with fail
  have hb := HB.out.below HB5.out
  have hp5 : PressIn v5 v5.heap.size fa fl low top bales wa wl p := HP.out.grow hb.bw
  obtain ⟨e1, e2, e3⟩ := HXE.out
  have hot5 := own_below HOT.out HB5.out
  have hou5 := own_below HOU.out HB5.out
  have hC : MoreC w v5 b fa fl fc low top bales wa wl wp p A1 A2 := ⟨hb.bw, hb.box, hp5, RdG.of_own flF_len (by decide) HO1.out (Nat.le_refl _) rfl, RdG.of_own baF_len (by decide) HO2.out (Nat.le_refl _) rfl⟩
  have hX : PressIn v5 v5.heap.size fa fl low top bales xa xl px := { elow := HFX.out.low.trans hp5.elow, etop := HFX.out.top.trans hp5.etop, ebales := HFX.out.bales.trans hp5.ebales, efl := by rw [e2]; exact hp5.efl, ewl := e1, mfl := hp5.mfl, mwl := by omega, hfl := by rw [e2]; exact hp5.hfl, hwl := RdG.of_own baF_len (by decide) hb.ox (Nat.le_refl _) rfl }
  have hY : PressIn v5 v5.heap.size ya fl low top bales wa wl py := { elow := HFY.out.low.trans hp5.elow, etop := HFY.out.top.trans hp5.etop, ebales := HFY.out.bales.trans hp5.ebales, efl := HFY.out.n.trans hp5.efl, ewl := by rw [e3]; exact hp5.ewl, mfl := hp5.mfl, mwl := hp5.mwl, hfl := RdG.of_own flF_len (by decide) hb.oy (Nat.le_refl _) rfl, hwl := by rw [e3]; exact hp5.hwl }
  have hT : PressIn v5 v5.heap.size ta fl low top bales ua wl p.turnP := { elow := hp5.elow, etop := hp5.etop, ebales := hp5.ebales, efl := PressD.turn_n.trans hp5.efl, ewl := PressD.turn_len.trans hp5.ewl, mfl := hp5.mfl, mwl := hp5.mwl, hfl := RdG.of_own flF_len (by decide) hot5 (Nat.le_refl _) rfl, hwl := RdG.of_own baF_len (by decide) hou5 (Nat.le_refl _) rfl }
  exact HKU.out _ _ (more_t11 hC (by omega) (by omega) HV.out hb.bx hX HFX.out hb.by_ hY HFY.out hb.bz (HT.out.below HB5.out HT.out.lt) hT hb.bn HSF.out)
end
end Go.Proofs.Ytbfjebglaimcmaa
