/- The walk of PressMore: for every press, bale and numbers it answers true; condition: numbers are of 16 and of 8 bits. -/
import Derived.Test.YtbfjebglaimcmaaLawNQ
import Derived.Test.YtbfjebglaimcmaaLawNS
namespace Go.Proofs.Ytbfjebglaimcmaa
open Go.RowKit Go.Hav
/-- A press, stored in a box. -/
def boxW (w : World) (g : Nat) (fa : Option Addr) (fl fc : Nat) (low top bales : Int) (wa : Option Addr) (wl wp : Nat) : World :=
  ((((w.setCell ⟨g, 0, none⟩ (.slice fa fl fc)).setCell ⟨g, 1, none⟩ (.int .i64 low)).setCell ⟨g, 2, none⟩ (.int .i64 top)).setCell ⟨g, 3, none⟩ (.int .i64 bales)).setCell ⟨g, 4, none⟩ (.slice wa wl wp)
section
variable {w K : World} {fa wa : Option Addr} {fl fc wl wp : Nat} {low top bales : Int}
theorem boxW_blk {g : Nat} {u0 u1 u2 u3 u4 : Value} (h : Blk w g 25 #[u0, u1, u2, u3, u4]) : Blk (boxW w g fa fl fc low top bales wa wl wp) g 25 (boxC fa fl fc low top bales wa wl wp) := by
  have h2 := ((((h.set_ 0 (.slice fa fl fc)).set_ 1 (.int .i64 low)).set_ 2 (.int .i64 top)).set_ 3 (.int .i64 bales)).set_ 4 (.slice wa wl wp)
  unfold boxW boxC
  simpa using h2
theorem boxW_far {g g' : Nat} {t : TypeId} {cs : Array Value} (h : Blk w g' t cs) (hn : g' ≠ g) : Blk (boxW w g fa fl fc low top bales wa wl wp) g' t cs :=
  ((((h.far (p := ⟨g, 0, none⟩) hn _).far (p := ⟨g, 1, none⟩) hn _).far (p := ⟨g, 2, none⟩) hn _).far (p := ⟨g, 3, none⟩) hn _).far (p := ⟨g, 4, none⟩) hn _
theorem boxW_below {g B : Nat} {w0 : World} (h : Below B w0 w) (hg : B ≤ g) : Below B w0 (boxW w g fa fl fc low top bales wa wl wp) :=
  setCell_below (setCell_below (setCell_below (setCell_below (setCell_below h hg _ _) hg _ _) hg _ _) hg _ _) hg _ _
theorem store_box {a : Act} {o : Oper} {d e g : Nat} {u0 u1 u2 u3 u4 : Value} (ho : o.op = .store 25 (.tmp d) (.tmp e)) (h1 : a.tmps[d]?.getD undef = .pointer (some ⟨g, 0, none⟩)) (h2 : a.tmps[e]?.getD undef = .agg #[.slice fa fl fc, .int .i64 low, .int .i64 top, .int .i64 bales, .slice wa wl wp]) (hb : Blk w g 25 #[u0, u1, u2, u3, u4]) :
    (execOp a.eval o).run Try.prog w = .ok .skip (boxW w g fa fl fc low top bales wa wl wp) := by
  have c0 := hb.cell 0
  have c1 := hb.cell 1
  have c2 := hb.cell 2
  have c3 := hb.cell 3
  have c4 := hb.cell 4
  have f0 := hb.frozen 0
  have f1 := hb.frozen 1
  have f2 := hb.frozen 2
  have f3 := hb.frozen 3
  have f4 := hb.frozen 4
  have hl := hb.lt
  simp at c0 c1 c2 c3 c4
  unfold execOp boxW
  rw [ho]
  go_simp
/-- All is kept but boxes that are empty, which may come to hold the press. -/
def F4 (B : Nat) (fa : Option Addr) (fl fc : Nat) (low top bales : Int) (wa : Option Addr) (wl wp : Nat) : HavG.Rel where
  G w w' := Below B w w' ∧ ∀ g, B ≤ g → (Blk w g 25 #[.slice none 0 0, .int .i64 0, .int .i64 0, .int .i64 0, .slice none 0 0] → Blk w' g 25 #[.slice none 0 0, .int .i64 0, .int .i64 0, .int .i64 0, .slice none 0 0] ∨ Blk w' g 25 (boxC fa fl fc low top bales wa wl wp)) ∧
    (Blk w g 25 (boxC fa fl fc low top bales wa wl wp) → Blk w' g 25 (boxC fa fl fc low top bales wa wl wp))
  refl _ := ⟨Below.refl _ _, fun _ _ => ⟨.inl, id⟩⟩
  trans h k := ⟨h.1.trans k.1, fun g hg => ⟨fun x => (((h.2 g hg).1 x).elim (fun y => (k.2 g hg).1 y) fun y => .inr ((k.2 g hg).2 y)), fun x => (k.2 g hg).2 ((h.2 g hg).2 x)⟩⟩
  drew w := by
    have hb : Below w.heap.size w { w with drawn := w.drawn + 1 } := Below.drew (Below.refl _ _)
    exact ⟨Below.drew (Below.refl _ _), fun _ _ => ⟨fun x => .inl (x.below hb x.lt), fun x => x.below hb x.lt⟩⟩
theorem F4.below {B : Nat} {w' : World} (hB : B ≤ w.heap.size) (h : Below w.heap.size w w') : (F4 B fa fl fc low top bales wa wl wp).G w w' := ⟨h.mono hB, fun _ _ => ⟨fun x => .inl (x.below h x.lt), fun x => x.below h x.lt⟩⟩
/-- What the region that makes four copies leaves. -/
def fourT (B : Nat) (fa : Option Addr) (fl fc : Nat) (low top bales : Int) (wa : Option Addr) (wl wp : Nat) (i : Nat) (V : Nat → Value) (w : World) : Prop :=
  match i with
  | 0 => V 0 = .agg #[.slice fa fl fc, .int .i64 low, .int .i64 top, .int .i64 bales, .slice wa wl wp]
  | 1 => V 1 = .agg #[.slice fa fl fc, .int .i64 low, .int .i64 top, .int .i64 bales, .slice wa wl wp]
  | 2 => V 2 = .agg #[.slice fa fl fc, .int .i64 low, .int .i64 top, .int .i64 bales, .slice wa wl wp]
  | 3 => V 3 = .agg #[.slice fa fl fc, .int .i64 low, .int .i64 top, .int .i64 bales, .slice wa wl wp]
  | 4 => ∃ g, V 4 = .pointer (some ⟨g, 0, none⟩) ∧ B ≤ g ∧ (Blk w g 25 #[.slice none 0 0, .int .i64 0, .int .i64 0, .int .i64 0, .slice none 0 0] ∨ Blk w g 25 (boxC fa fl fc low top bales wa wl wp))
  | 5 => ∃ g, V 5 = .pointer (some ⟨g, 0, none⟩) ∧ B ≤ g ∧ (Blk w g 25 #[.slice none 0 0, .int .i64 0, .int .i64 0, .int .i64 0, .slice none 0 0] ∨ Blk w g 25 (boxC fa fl fc low top bales wa wl wp))
  | 6 => ∃ g, V 6 = .pointer (some ⟨g, 0, none⟩) ∧ B ≤ g ∧ (Blk w g 25 #[.slice none 0 0, .int .i64 0, .int .i64 0, .int .i64 0, .slice none 0 0] ∨ Blk w g 25 (boxC fa fl fc low top bales wa wl wp))
  | 7 => ∃ g, V 7 = .pointer (some ⟨g, 0, none⟩) ∧ B ≤ g ∧ (Blk w g 25 #[.slice none 0 0, .int .i64 0, .int .i64 0, .int .i64 0, .slice none 0 0] ∨ Blk w g 25 (boxC fa fl fc low top bales wa wl wp))
  | 8 => ∃ g, V 4 = .pointer (some ⟨g, 0, none⟩) ∧ B ≤ g ∧ Blk w g 25 (boxC fa fl fc low top bales wa wl wp)
  | 9 => ∃ g, V 5 = .pointer (some ⟨g, 0, none⟩) ∧ B ≤ g ∧ Blk w g 25 (boxC fa fl fc low top bales wa wl wp)
  | 10 => ∃ g, V 6 = .pointer (some ⟨g, 0, none⟩) ∧ B ≤ g ∧ Blk w g 25 (boxC fa fl fc low top bales wa wl wp)
  | _ => ∃ g, V 7 = .pointer (some ⟨g, 0, none⟩) ∧ B ≤ g ∧ Blk w g 25 (boxC fa fl fc low top bales wa wl wp)
theorem fourT_keep {B i : Nat} {V : Nat → Value} {w' : World} (h : fourT B fa fl fc low top bales wa wl wp i V w) (hG : (F4 B fa fl fc low top bales wa wl wp).G w w') : fourT B fa fl fc low top bales wa wl wp i V w' := by
  unfold fourT at h ⊢
  split at h
  · exact h
  · exact h
  · exact h
  · exact h
  · obtain ⟨g, e, hg, h⟩ := h; exact ⟨g, e, hg, h.elim (hG.2 g hg).1 fun x => .inr ((hG.2 g hg).2 x)⟩
  · obtain ⟨g, e, hg, h⟩ := h; exact ⟨g, e, hg, h.elim (hG.2 g hg).1 fun x => .inr ((hG.2 g hg).2 x)⟩
  · obtain ⟨g, e, hg, h⟩ := h; exact ⟨g, e, hg, h.elim (hG.2 g hg).1 fun x => .inr ((hG.2 g hg).2 x)⟩
  · obtain ⟨g, e, hg, h⟩ := h; exact ⟨g, e, hg, h.elim (hG.2 g hg).1 fun x => .inr ((hG.2 g hg).2 x)⟩
  · obtain ⟨g, e, hg, h⟩ := h; exact ⟨g, e, hg, (hG.2 g hg).2 h⟩
  · obtain ⟨g, e, hg, h⟩ := h; exact ⟨g, e, hg, (hG.2 g hg).2 h⟩
  · obtain ⟨g, e, hg, h⟩ := h; exact ⟨g, e, hg, (hG.2 g hg).2 h⟩
  · obtain ⟨g, e, hg, h⟩ := h; exact ⟨g, e, hg, (hG.2 g hg).2 h⟩
/-- The press is stored in a box. -/
theorem F4.set {B g : Nat} (hg : B ≤ g) (h : Blk w g 25 #[.slice none 0 0, .int .i64 0, .int .i64 0, .int .i64 0, .slice none 0 0] ∨ Blk w g 25 (boxC fa fl fc low top bales wa wl wp)) :
    (∃ u0 u1 u2 u3 u4, Blk w g 25 #[u0, u1, u2, u3, u4]) ∧ (F4 B fa fl fc low top bales wa wl wp).G w (boxW w g fa fl fc low top bales wa wl wp) ∧ Blk (boxW w g fa fl fc low top bales wa wl wp) g 25 (boxC fa fl fc low top bales wa wl wp) := by
  have h5 : ∃ u0 u1 u2 u3 u4, Blk w g 25 #[u0, u1, u2, u3, u4] := by
    rcases h with h | h
    · exact ⟨_, _, _, _, _, h⟩
    · exact ⟨_, _, _, _, _, h⟩
  obtain ⟨u0, u1, u2, u3, u4, hk⟩ := h5
  have hC : Blk (boxW w g fa fl fc low top bales wa wl wp) g 25 (boxC fa fl fc low top bales wa wl wp) := boxW_blk hk
  refine ⟨⟨_, _, _, _, _, hk⟩, ⟨boxW_below (Below.refl _ _) hg, fun g' _ => ⟨fun x => ?_, fun x => ?_⟩⟩, hC⟩
  · by_cases e : g' = g
    · subst e; exact .inr hC
    · exact .inl (boxW_far x e)
  · by_cases e : g' = g
    · subst e; exact hC
    · exact boxW_far x e
theorem ptr_ne {g g' : Nat} (h : Value.pointer (some ⟨g, 0, none⟩) ≠ Value.pointer (some ⟨g', 0, none⟩)) : g ≠ g' := fun e => h (by rw [e])
set_option maxRecDepth 100000 in
set_option maxHeartbeats 6400000 in
theorem more_t3 {b be gn s : Nat} {e0 e1 e2 what : Int} {p : PressD} (k0 : 0 ≤ what) (k1 : what ≤ 255) (hP : PressIn w w.heap.size fa fl low top bales wa wl p) (hv : p.ok = true) (hbw : Below w.heap.size w K)
    (hb : Blk K b 25 (boxC fa fl fc low top bales wa wl wp)) (hbe : Blk K be 56 #[.int .i64 e0, .int .i64 e1, .int .i64 e2]) (hbn : Blk K gn 3 #[.int .i64 fl]) (hSF : s ≤ full p.n) {s0 s1 s2 s6 s7 s8 s11 s12 s13 s14 s15 s16 s17 s18 s19 s20 s21 s22 s23 s24 s25 s26 s27 s28 s29 s30 s31 s32 s33 s34 s35 s36 s37 s38 s39 s40 s41 s42 s43 s44 s45 s46 s47 s48 s49 s50 s51 s52 s53 s54 s55 s56 s57 s58 s59 s60 s61 s62 s63 s64 s65 s66 s67 s68 s69 s70 s71 s72 s73 s74 s75 s76 s77 s78 s79 s80 s81 s82 s83 s84 s85 s86 s87 s88 s89 s90 s91 s92 s93 s94 s95 s96 s97 s98 s99 s100 s101 s102 s103 s104 s105 s106 s107 s108 s109 s110 s111 s112 s113 s114 s115 s116 s117 s118 s119 s120 s121 s122 s123 s124 s125 s126 s127 s128 s129 s130 s131 s132 s133 s134 s135 s136 s137 s138 s139 s140 s141 s142 s143 s144 s145 s146 s147 s148 s149 s150 s151 s152 s153 s154 s155 s156 s157 s158 s159 s160 s161 s162 s163 s164 s165 s166 s167 s168 s169 s170 s171 s172 s173 s174 s175 s176 s177 s178 s179 s180 s181 s182 s183 s184 s185 s186 s187 s188 s189 s190 s191 s192 s193 s194 s195 s196 s197 s198 s199 s200 s201 s202 s203 s204 s205 s206 s207 s208 s209 s210 s211 s212 s213 s214 s215 s216 s217 s218 s219 s220 s221 s222 s223 s224 s225 s226 s227 s228 s229 s230 s231 s232 s233 s234 s235 s236 s237 s238 s239 s240 s241 s242 s243 s244 s245 s246 s247 s248 s249 s250 s251 s252 s253 s254 s255 s256 s257 s258 s259 s260 s261 s262 s263 s264 s265 s266 s267 s268 s269 s270 s271 s272 s273 s274 s275 s276 s277 s278 s279 s280 s281 s282 s283 s284 s285 s286 s287 s288 s289 s290 s291 s292 s293 s294 s295 s296 s297 s298 s299 s300 s301 s302 s303 s304 s305 s306 s307 s308 s309 s310 s311 s312 s313 s314 s315 s316 s317 s318 s319 s320 s321 s322 s323 s324 s325 s326 s327 s328 s329 s330 s331 s332 s333 s334 s335 s336 s337 s338 s339 s340 s341 s342 s343 s344 s345 s346 s347 s348 s349 s350 s351 s352 s353 s354 s355 s356 s357 s358 s359 s360 s361 s362 s363 s364 s365 s366 s367 s368 s369 s370 s371 s372 s373 s374 s375 s376 s377 s378 s379 s380 s381 s382 s383 s384 s385 s386 s387 s388 s389 s390 s391 s392 s393 s394 s395 s396 s397 s398 s399 s400 s401 s402 : Value} :
    Code.wp Try.prog (moreTail 3) (bodyPost Try.prog Try.f10 fun e w' => e = .returned (.bool true) ∧ Below w.heap.size w w') ⟨(s0 :: s1 :: s2 :: (.int .u8 what) :: (.pointer (some ⟨b, 0, none⟩)) :: (.pointer (some ⟨be, 0, none⟩)) :: s6 :: s7 :: s8 :: (.pointer (some ⟨gn, 0, none⟩)) :: (.int .i64 (s : Nat)) :: s11 :: s12 :: s13 :: s14 :: s15 :: s16 :: s17 :: s18 :: s19 :: s20 :: s21 :: s22 :: s23 :: s24 :: s25 :: s26 :: s27 :: s28 :: s29 :: s30 :: s31 :: s32 :: s33 :: s34 :: s35 :: s36 :: s37 :: s38 :: s39 :: s40 :: s41 :: s42 :: s43 :: s44 :: s45 :: s46 :: s47 :: s48 :: s49 :: s50 :: s51 :: s52 :: s53 :: s54 :: s55 :: s56 :: s57 :: s58 :: s59 :: s60 :: s61 :: s62 :: s63 :: s64 :: s65 :: s66 :: s67 :: s68 :: s69 :: s70 :: s71 :: s72 :: s73 :: s74 :: s75 :: s76 :: s77 :: s78 :: s79 :: s80 :: s81 :: s82 :: s83 :: s84 :: s85 :: s86 :: s87 :: s88 :: s89 :: s90 :: s91 :: s92 :: s93 :: s94 :: s95 :: s96 :: s97 :: s98 :: s99 :: s100 :: s101 :: s102 :: s103 :: s104 :: s105 :: s106 :: s107 :: s108 :: s109 :: s110 :: s111 :: s112 :: s113 :: s114 :: s115 :: s116 :: s117 :: s118 :: s119 :: s120 :: s121 :: s122 :: s123 :: s124 :: s125 :: s126 :: s127 :: s128 :: s129 :: s130 :: s131 :: s132 :: s133 :: s134 :: s135 :: s136 :: s137 :: s138 :: s139 :: s140 :: s141 :: s142 :: s143 :: s144 :: s145 :: s146 :: s147 :: s148 :: s149 :: s150 :: s151 :: s152 :: s153 :: s154 :: s155 :: s156 :: s157 :: s158 :: s159 :: s160 :: s161 :: s162 :: s163 :: s164 :: s165 :: s166 :: s167 :: s168 :: s169 :: s170 :: s171 :: s172 :: s173 :: s174 :: s175 :: s176 :: s177 :: s178 :: s179 :: s180 :: s181 :: s182 :: s183 :: s184 :: s185 :: s186 :: s187 :: s188 :: s189 :: s190 :: s191 :: s192 :: s193 :: s194 :: s195 :: s196 :: s197 :: s198 :: s199 :: s200 :: s201 :: s202 :: s203 :: s204 :: s205 :: s206 :: s207 :: s208 :: s209 :: s210 :: s211 :: s212 :: s213 :: s214 :: s215 :: s216 :: s217 :: s218 :: s219 :: s220 :: s221 :: s222 :: s223 :: s224 :: s225 :: s226 :: s227 :: s228 :: s229 :: s230 :: s231 :: s232 :: s233 :: s234 :: s235 :: s236 :: s237 :: s238 :: s239 :: s240 :: s241 :: s242 :: s243 :: s244 :: s245 :: s246 :: s247 :: s248 :: s249 :: s250 :: s251 :: s252 :: s253 :: s254 :: s255 :: s256 :: s257 :: s258 :: s259 :: s260 :: s261 :: s262 :: s263 :: s264 :: s265 :: s266 :: s267 :: s268 :: s269 :: s270 :: s271 :: s272 :: s273 :: s274 :: s275 :: s276 :: s277 :: s278 :: s279 :: s280 :: s281 :: s282 :: s283 :: s284 :: s285 :: s286 :: s287 :: s288 :: s289 :: s290 :: s291 :: s292 :: s293 :: s294 :: s295 :: s296 :: s297 :: s298 :: s299 :: s300 :: s301 :: s302 :: s303 :: s304 :: s305 :: s306 :: s307 :: s308 :: s309 :: s310 :: s311 :: s312 :: s313 :: s314 :: s315 :: s316 :: s317 :: s318 :: s319 :: s320 :: s321 :: s322 :: s323 :: s324 :: s325 :: s326 :: s327 :: s328 :: s329 :: s330 :: s331 :: s332 :: s333 :: s334 :: s335 :: s336 :: s337 :: s338 :: s339 :: s340 :: s341 :: s342 :: s343 :: s344 :: s345 :: s346 :: s347 :: s348 :: s349 :: s350 :: s351 :: s352 :: s353 :: s354 :: s355 :: s356 :: s357 :: s358 :: s359 :: s360 :: s361 :: s362 :: s363 :: s364 :: s365 :: s366 :: s367 :: s368 :: s369 :: s370 :: s371 :: s372 :: s373 :: s374 :: s375 :: s376 :: s377 :: s378 :: s379 :: s380 :: s381 :: s382 :: s383 :: s384 :: s385 :: s386 :: s387 :: s388 :: s389 :: s390 :: s391 :: s392 :: s393 :: s394 :: s395 :: s396 :: s397 :: s398 :: s399 :: s400 :: s401 :: s402 :: []).toArray, []⟩ K := by
  conv => arg 2; whnf
  have h1 := hbw.size
  have HP := Lib.hid hP
  have HV := Lib.hid hv
  have HBW := Lib.hid hbw
  have HSF := Lib.hid hSF
  have HBB := Lib.hid hb
  have HBE := Lib.hid hbe
  have HBN := Lib.hid hbn
  have HBX : Hid (∀ w', (F4 K.heap.size fa fl fc low top bales wa wl wp).G K w' → w'.cell? ⟨b, 0, none⟩ = some (.slice fa fl fc) ∧ w'.cell? ⟨b, 1, none⟩ = some (.int .i64 low) ∧ w'.cell? ⟨b, 2, none⟩ = some (.int .i64 top) ∧ w'.cell? ⟨b, 3, none⟩ = some (.int .i64 bales) ∧ w'.cell? ⟨b, 4, none⟩ = some (.slice wa wl wp) ∧ b < w'.heap.size) := fun w' hg =>
    boxC_cells (HBB.out.below hg.1 HBB.out.lt)
  clear hP hv hbw hb hbe hbn hSF
  go_upto_region 4 with fail
  rename ∀ a w, Code.wp Try.prog (moreTail 4) _ a w → _ => hKU
  have HKU := Lib.hid hKU
  clear hKU
  refine HavG.wp_region_tabV (R := F4 K.heap.size fa fl fc low top bales wa wl wp) (fourT K.heap.size fa fl fc low top bales wa wl wp) [4,5,6,7] [some 66, some 67, some 68, some 69, some 11, some 12, some 13, some 14, none, none, none, none] (by kernel_rfl) (by kernel_rfl) (by rfl) (fun i V w w' => fourT_keep) ?_ ?_ ?_ ?_
  · intro i hi V V' w h hV
    match i, hi, h, hV with
    | 0, _, h, hV => exact (hV 0 (.inl rfl)).symm.trans h
    | 1, _, h, hV => exact (hV 1 (.inl rfl)).symm.trans h
    | 2, _, h, hV => exact (hV 2 (.inl rfl)).symm.trans h
    | 3, _, h, hV => exact (hV 3 (.inl rfl)).symm.trans h
    | 4, _, h, hV => obtain ⟨g, e, h⟩ := h; exact ⟨g, (hV 4 (.inl rfl)).symm.trans e, h⟩
    | 5, _, h, hV => obtain ⟨g, e, h⟩ := h; exact ⟨g, (hV 5 (.inl rfl)).symm.trans e, h⟩
    | 6, _, h, hV => obtain ⟨g, e, h⟩ := h; exact ⟨g, (hV 6 (.inl rfl)).symm.trans e, h⟩
    | 7, _, h, hV => obtain ⟨g, e, h⟩ := h; exact ⟨g, (hV 7 (.inl rfl)).symm.trans e, h⟩
    | 8, _, h, hV => obtain ⟨g, e, h⟩ := h; exact ⟨g, (hV 4 (.inr (by kernel_rfl))).symm.trans e, h⟩
    | 9, _, h, hV => obtain ⟨g, e, h⟩ := h; exact ⟨g, (hV 5 (.inr (by kernel_rfl))).symm.trans e, h⟩
    | 10, _, h, hV => obtain ⟨g, e, h⟩ := h; exact ⟨g, (hV 6 (.inr (by kernel_rfl))).symm.trans e, h⟩
    | 11, _, h, hV => obtain ⟨g, e, h⟩ := h; exact ⟨g, (hV 7 (.inr (by kernel_rfl))).symm.trans e, h⟩
  · intro i hi V w h
    simp only [List.mem_cons, List.not_mem_nil, or_false] at hi
    rcases hi with rfl | rfl | rfl | rfl
    all_goals obtain ⟨g, e, _, h⟩ := h; exact ⟨g, e, h.elim (fun x => x.lt) fun x => x.lt⟩
  · intro i hi oo a' w' ho hag hg hd
    have s4 : a'.tmps.getD 4 undef = .pointer (some ⟨b, 0, none⟩) := hag.slot 4 (by kernel_rfl)
    have t4 : a'.tmps[4]?.getD undef = .pointer (some ⟨b, 0, none⟩) := by rw [← Array.getD_eq_getD_getElem?]; exact s4
    obtain ⟨z0, z1, z2, z3, z4, zl⟩ := HBX.out w' hg
    have hsz := hg.1.size
    match i, hi, ho, hd with
    | 0, _, ho, hd =>
      (simp only [List.getElem?_toArray, List.getElem?_cons_zero, Option.some.injEq] at ho; subst ho)
      refine HavG.tabV_val rfl (by simp) ⟨.agg #[.slice fa fl fc, .int .i64 low, .int .i64 top, .int .i64 bales, .slice wa wl wp], w', ?_, HavG.Rel.refl _ _, fun V _ hv => hv, fun h => by simp at h⟩
      go_simp
      try rfl
    | 1, _, ho, hd =>
      (simp only [List.getElem?_toArray, List.getElem?_cons_succ, List.getElem?_cons_zero, Option.some.injEq] at ho; subst ho)
      refine HavG.tabV_val rfl (by simp) ⟨.agg #[.slice fa fl fc, .int .i64 low, .int .i64 top, .int .i64 bales, .slice wa wl wp], w', ?_, HavG.Rel.refl _ _, fun V _ hv => hv, fun h => by simp at h⟩
      go_simp
      try rfl
    | 2, _, ho, hd =>
      (simp only [List.getElem?_toArray, List.getElem?_cons_succ, List.getElem?_cons_zero, Option.some.injEq] at ho; subst ho)
      refine HavG.tabV_val rfl (by simp) ⟨.agg #[.slice fa fl fc, .int .i64 low, .int .i64 top, .int .i64 bales, .slice wa wl wp], w', ?_, HavG.Rel.refl _ _, fun V _ hv => hv, fun h => by simp at h⟩
      go_simp
      try rfl
    | 3, _, ho, hd =>
      (simp only [List.getElem?_toArray, List.getElem?_cons_succ, List.getElem?_cons_zero, Option.some.injEq] at ho; subst ho)
      refine HavG.tabV_val rfl (by simp) ⟨.agg #[.slice fa fl fc, .int .i64 low, .int .i64 top, .int .i64 bales, .slice wa wl wp], w', ?_, HavG.Rel.refl _ _, fun V _ hv => hv, fun h => by simp at h⟩
      go_simp
      try rfl
    | 4, _, ho, hd =>
      (simp only [List.getElem?_toArray, List.getElem?_cons_succ, List.getElem?_cons_zero, Option.some.injEq] at ho; subst ho)
      refine HavG.tabV_val rfl (by simp) ⟨.pointer (some ⟨w'.heap.size, 0, none⟩), w'.alloc (.cells #[.slice none 0 0, .int .i64 0, .int .i64 0, .int .i64 0, .slice none 0 0] 25), ?_, F4.below hsz ((Below.refl _ _).alloc (Nat.le_refl _) _), fun V _ hv => ⟨w'.heap.size, hv, hsz, .inl (Blk.new w' 25 _)⟩, fun _ => rfl⟩
      go_simp
      try rfl
    | 5, _, ho, hd =>
      (simp only [List.getElem?_toArray, List.getElem?_cons_succ, List.getElem?_cons_zero, Option.some.injEq] at ho; subst ho)
      refine HavG.tabV_val rfl (by simp) ⟨.pointer (some ⟨w'.heap.size, 0, none⟩), w'.alloc (.cells #[.slice none 0 0, .int .i64 0, .int .i64 0, .int .i64 0, .slice none 0 0] 25), ?_, F4.below hsz ((Below.refl _ _).alloc (Nat.le_refl _) _), fun V _ hv => ⟨w'.heap.size, hv, hsz, .inl (Blk.new w' 25 _)⟩, fun _ => rfl⟩
      go_simp
      try rfl
    | 6, _, ho, hd =>
      (simp only [List.getElem?_toArray, List.getElem?_cons_succ, List.getElem?_cons_zero, Option.some.injEq] at ho; subst ho)
      refine HavG.tabV_val rfl (by simp) ⟨.pointer (some ⟨w'.heap.size, 0, none⟩), w'.alloc (.cells #[.slice none 0 0, .int .i64 0, .int .i64 0, .int .i64 0, .slice none 0 0] 25), ?_, F4.below hsz ((Below.refl _ _).alloc (Nat.le_refl _) _), fun V _ hv => ⟨w'.heap.size, hv, hsz, .inl (Blk.new w' 25 _)⟩, fun _ => rfl⟩
      go_simp
      try rfl
    | 7, _, ho, hd =>
      (simp only [List.getElem?_toArray, List.getElem?_cons_succ, List.getElem?_cons_zero, Option.some.injEq] at ho; subst ho)
      refine HavG.tabV_val rfl (by simp) ⟨.pointer (some ⟨w'.heap.size, 0, none⟩), w'.alloc (.cells #[.slice none 0 0, .int .i64 0, .int .i64 0, .int .i64 0, .slice none 0 0] 25), ?_, F4.below hsz ((Below.refl _ _).alloc (Nat.le_refl _) _), fun V _ hv => ⟨w'.heap.size, hv, hsz, .inl (Blk.new w' 25 _)⟩, fun _ => rfl⟩
      go_simp
      try rfl
    | 8, _, ho, hd =>
      (simp only [List.getElem?_toArray, List.getElem?_cons_succ, List.getElem?_cons_zero, Option.some.injEq] at ho; subst ho)
      obtain ⟨g, e, hgB, hk⟩ := hd 4 (by kernel_rfl) (by decide)
      have e0 : HavG.slot a' 66 = .agg #[.slice fa fl fc, .int .i64 low, .int .i64 top, .int .i64 bales, .slice wa wl wp] := hd 0 (by kernel_rfl) (by decide)
      have d1 : a'.tmps[11]?.getD undef = .pointer (some ⟨g, 0, none⟩) := by rw [← Array.getD_eq_getD_getElem?]; exact e
      have d2 : a'.tmps[66]?.getD undef = .agg #[.slice fa fl fc, .int .i64 low, .int .i64 top, .int .i64 bales, .slice wa wl wp] := by rw [← Array.getD_eq_getD_getElem?]; exact e0
      obtain ⟨⟨u0, u1, u2, u3, u4, hk5⟩, hR, hC⟩ := F4.set hgB hk
      exact HavG.tabV_store rfl rfl (by decide) ⟨_, store_box rfl d1 d2 hk5, hR, fun V hV => ⟨g, (hV 4 (by decide)).trans e, hgB, hC⟩⟩
    | 9, _, ho, hd =>
      (simp only [List.getElem?_toArray, List.getElem?_cons_succ, List.getElem?_cons_zero, Option.some.injEq] at ho; subst ho)
      obtain ⟨g, e, hgB, hk⟩ := hd 5 (by kernel_rfl) (by decide)
      have e0 : HavG.slot a' 67 = .agg #[.slice fa fl fc, .int .i64 low, .int .i64 top, .int .i64 bales, .slice wa wl wp] := hd 1 (by kernel_rfl) (by decide)
      have d1 : a'.tmps[12]?.getD undef = .pointer (some ⟨g, 0, none⟩) := by rw [← Array.getD_eq_getD_getElem?]; exact e
      have d2 : a'.tmps[67]?.getD undef = .agg #[.slice fa fl fc, .int .i64 low, .int .i64 top, .int .i64 bales, .slice wa wl wp] := by rw [← Array.getD_eq_getD_getElem?]; exact e0
      obtain ⟨⟨u0, u1, u2, u3, u4, hk5⟩, hR, hC⟩ := F4.set hgB hk
      exact HavG.tabV_store rfl rfl (by decide) ⟨_, store_box rfl d1 d2 hk5, hR, fun V hV => ⟨g, (hV 5 (by decide)).trans e, hgB, hC⟩⟩
    | 10, _, ho, hd =>
      (simp only [List.getElem?_toArray, List.getElem?_cons_succ, List.getElem?_cons_zero, Option.some.injEq] at ho; subst ho)
      obtain ⟨g, e, hgB, hk⟩ := hd 6 (by kernel_rfl) (by decide)
      have e0 : HavG.slot a' 68 = .agg #[.slice fa fl fc, .int .i64 low, .int .i64 top, .int .i64 bales, .slice wa wl wp] := hd 2 (by kernel_rfl) (by decide)
      have d1 : a'.tmps[13]?.getD undef = .pointer (some ⟨g, 0, none⟩) := by rw [← Array.getD_eq_getD_getElem?]; exact e
      have d2 : a'.tmps[68]?.getD undef = .agg #[.slice fa fl fc, .int .i64 low, .int .i64 top, .int .i64 bales, .slice wa wl wp] := by rw [← Array.getD_eq_getD_getElem?]; exact e0
      obtain ⟨⟨u0, u1, u2, u3, u4, hk5⟩, hR, hC⟩ := F4.set hgB hk
      exact HavG.tabV_store rfl rfl (by decide) ⟨_, store_box rfl d1 d2 hk5, hR, fun V hV => ⟨g, (hV 6 (by decide)).trans e, hgB, hC⟩⟩
    | 11, _, ho, hd =>
      (simp only [List.getElem?_toArray, List.getElem?_cons_succ, List.getElem?_cons_zero, Option.some.injEq] at ho; subst ho)
      obtain ⟨g, e, hgB, hk⟩ := hd 7 (by kernel_rfl) (by decide)
      have e0 : HavG.slot a' 69 = .agg #[.slice fa fl fc, .int .i64 low, .int .i64 top, .int .i64 bales, .slice wa wl wp] := hd 3 (by kernel_rfl) (by decide)
      have d1 : a'.tmps[14]?.getD undef = .pointer (some ⟨g, 0, none⟩) := by rw [← Array.getD_eq_getD_getElem?]; exact e
      have d2 : a'.tmps[69]?.getD undef = .agg #[.slice fa fl fc, .int .i64 low, .int .i64 top, .int .i64 bales, .slice wa wl wp] := by rw [← Array.getD_eq_getD_getElem?]; exact e0
      obtain ⟨⟨u0, u1, u2, u3, u4, hk5⟩, hR, hC⟩ := F4.set hgB hk
      exact HavG.tabV_store rfl rfl (by decide) ⟨_, store_box rfl d1 d2 hk5, hR, fun V hV => ⟨g, (hV 7 (by decide)).trans e, hgB, hC⟩⟩
  intro f w9 hg5 hf hap
  have q66 : f 66 = _ := hf 0 (by decide)
  have q67 : f 67 = _ := hf 1 (by decide)
  have q68 : f 68 = _ := hf 2 (by decide)
  have q69 : f 69 = _ := hf 3 (by decide)
  obtain ⟨gx, q11, bx, hx1⟩ : ∃ g, f 11 = .pointer (some ⟨g, 0, none⟩) ∧ K.heap.size ≤ g ∧ Blk w9 g 25 (boxC fa fl fc low top bales wa wl wp) := hf 8 (by decide)
  obtain ⟨gy, q12, by_, hy1⟩ : ∃ g, f 12 = .pointer (some ⟨g, 0, none⟩) ∧ K.heap.size ≤ g ∧ Blk w9 g 25 (boxC fa fl fc low top bales wa wl wp) := hf 9 (by decide)
  obtain ⟨gz, q13, bz, hz1⟩ : ∃ g, f 13 = .pointer (some ⟨g, 0, none⟩) ∧ K.heap.size ≤ g ∧ Blk w9 g 25 (boxC fa fl fc low top bales wa wl wp) := hf 10 (by decide)
  obtain ⟨gt, q14, bt, ht1⟩ : ∃ g, f 14 = .pointer (some ⟨g, 0, none⟩) ∧ K.heap.size ≤ g ∧ Blk w9 g 25 (boxC fa fl fc low top bales wa wl wp) := hf 11 (by decide)
  have n0 : f 11 ≠ f 12 := hap 4 5 (by decide) (by decide) (by decide) (by decide) (by decide)
  have n1 : f 11 ≠ f 13 := hap 4 6 (by decide) (by decide) (by decide) (by decide) (by decide)
  have n2 : f 11 ≠ f 14 := hap 4 7 (by decide) (by decide) (by decide) (by decide) (by decide)
  have n3 : f 12 ≠ f 13 := hap 5 6 (by decide) (by decide) (by decide) (by decide) (by decide)
  have n4 : f 12 ≠ f 14 := hap 5 7 (by decide) (by decide) (by decide) (by decide) (by decide)
  have n5 : f 13 ≠ f 14 := hap 6 7 (by decide) (by decide) (by decide) (by decide) (by decide)
  rw [q11, q12] at n0
  rw [q11, q13] at n1
  rw [q11, q14] at n2
  rw [q12, q13] at n3
  rw [q12, q14] at n4
  rw [q13, q14] at n5
  have nxy := ptr_ne n0
  have nxz := ptr_ne n1
  have nxt := ptr_ne n2
  have nyz := ptr_ne n3
  have nyt := ptr_ne n4
  have nzt := ptr_ne n5
  simp only [List.filterMap, HavG.puts, List.foldl_cons, List.foldl_nil, Act.put, List.setIfInBounds_toArray, List.set_cons_succ, List.set_cons_zero]
  rw [q66, q67, q68, q69, q11, q12, q13, q14]
  clear hf hap q66 q67 q68 q69 q11 q12 q13 q14 n0 n1 n2 n3 n4 n5
  have hb0 : b < K.heap.size := HBB.out.lt
  have hbB : Blk w9 b 25 _ := HBB.out.below hg5.1 HBB.out.lt
  have heB : Blk w9 be 56 _ := HBE.out.below hg5.1 HBE.out.lt
  have hnB : Blk w9 gn 3 _ := HBN.out.below hg5.1 HBN.out.lt
  have hw5 : Below w.heap.size w w9 := HBW.out.trans (hg5.1.mono h1)
  clear hg5
  have H9 : Hid (Blk w9 gx 25 _ ∧ Blk w9 gy 25 _ ∧ Blk w9 gz 25 _ ∧ Blk w9 gt 25 _ ∧ Blk w9 b 25 _ ∧ Blk w9 be 56 _ ∧ Blk w9 gn 3 _ ∧ Below w.heap.size w w9) := ⟨hx1, hy1, hz1, ht1, hbB, heB, hnB, hw5⟩
  clear hx1 hy1 hz1 ht1 hbB heB hnB hw5
  go_wp2_with fail
  obtain ⟨a1, a2, a3, a4, a5, a6, a7, a8⟩ := H9.out
  exact HKU.out _ _ (more_t4 k0 k1 HP.out HV.out a8 a5 a1 a2 a3 a4 a6 a7 ⟨by omega, by omega, by omega, by omega⟩ ⟨nxy, nxt, nyt, nxz, nyz, nzt, by omega, by omega, by omega, by omega⟩ HSF.out)
set_option maxRecDepth 100000 in
set_option maxHeartbeats 6400000 in
theorem PressMore_any (e0 e1 e2 : Int) (m : Nat) (what : Int) {p : PressD} (hm : m ≤ 65535) (k0 : 0 ≤ what) (k1 : what ≤ 255) (w : World) (hP : PressIn w w.heap.size fa fl low top bales wa wl p) :
    Calls Try.prog 10 #[pressV fa fl fc low top bales wa wl wp, .agg #[.int .i64 e0, .int .i64 e1, .int .i64 e2], .int .u16 m, .int .u8 what] w fun e w' => e = .returned (.bool true) ∧ Below w.heap.size w w' := by
  have HP := Lib.hid hP
  have HEQ : Hid (p.n = fl) := hP.efl
  clear hP
  unfold pressV
  go_enter Try.func10, Try.ntmps10
  go_wp2_with fail
  obtain ⟨W, hW⟩ : ∃ W, W = (w.alloc (.cells #[.slice fa fl fc, .int .i64 low, .int .i64 top, .int .i64 bales, .slice wa wl wp] 25)).alloc (.cells #[.int .i64 e0, .int .i64 e1, .int .i64 e2] 56) := ⟨_, rfl⟩
  have HX : Hid (Blk W w.heap.size 25 (boxC fa fl fc low top bales wa wl wp)) := by rw [hW]; exact (Blk.new w 25 _).alloc _
  have HE : Hid (Blk W (w.heap.size + 1) 56 #[.int .i64 e0, .int .i64 e1, .int .i64 e2]) := by rw [hW]; exact Blk.new_ (by simp) 56 _
  have HBW : Hid (Below w.heap.size w W) := by rw [hW]; exact ((Below.refl _ _).alloc (Nat.le_refl _) _).alloc (by simp) _
  rw [← hW]
  clear hW
  refine (fine_any (p := p) W (by exact HP.out.grow HBW.out)).mono ?_
  rintro e v1 ⟨⟨ok, rfl, hb⟩, hb1⟩
  have HB1 := Lib.hid hb1
  clear hb1
  cases ok
  · clear hb
    go_wp2_with fail
    refine (awake_any _).mono ?_
    rintro e v2 ⟨rfl, hb2⟩
    go_wp2
    go_ret
    exact ⟨rfl, HBW.out.trans ((HB1.out.trans (hb2.mono HB1.out.size)).mono HBW.out.size)⟩
  obtain ⟨hv, h40, -⟩ := hb rfl
  clear hb
  have HV := Lib.hid hv
  have hn10 : fl ≤ 10 := by have := (PressD.ok_head hv).1; rw [HEQ.out] at this; exact this
  have hfull : full fl ≤ 1023 := by
    unfold full
    have h := Nat.pow_le_pow_right (n := 2) (by omega) hn10
    omega
  have hand : bits BinOp.and IntKind.i64 (m : Int) ((full fl : Nat) : Int) = ((m &&& full fl : Nat) : Int) := and_i64 m (full fl) (by omega) (by omega)
  obtain ⟨s, hs⟩ : ∃ s, m &&& full fl = s := ⟨_, rfl⟩
  rw [hs] at hand
  have HSF : Hid (s ≤ full p.n) := by show _ ≤ _; rw [HEQ.out, ← hs]; exact Nat.and_le_right
  have HAND := Lib.hid hand
  have HEV : Hid (∀ wv : World, Calls Try.prog 31 #[.agg #[.slice fa fl fc, .int .i64 low, .int .i64 top, .int .i64 bales, .slice wa wl wp]] wv fun e w' => e = .returned (.int .i64 (full fl : Nat)) ∧ Below wv.heap.size wv w') :=
    fun wv => every_any (low := low) (top := top) (bales := bales) (fa := fa) (fc := fc) (wa := wa) (wl := wl) (wc := wp) h40 wv
  obtain ⟨x0, x1, x2, x3, x4, xl⟩ := boxC_cells (HX.out.below HB1.out HX.out.lt)
  clear hv hs hand
  go_upto_region 3 with fail
  rename ∀ a w, Code.wp Try.prog (moreTail 3) _ a w → _ => hKU
  have HKU := Lib.hid hKU
  clear hKU
  refine HavG.wp_region_havoc (R := GL v1.heap.size 3 0 (.int .i64 fl)) [(0,false),(1,false),(2,false),(3,false),(4,false),(5,false),(6,false),(7,false),(8,true),(9,true),(10,false)] [] (fun _ _ => False) (by kernel_rfl) (by kernel_rfl) (fun _ _ _ _ h => h.elim) ?_
  (apply HavG.hav_same (by simp only [List.getElem?_toArray, List.getElem?_cons_zero]; rfl) (by kernel_rfl); (focus (intro wv hgv _; have hcv : ∀ b o, b < _ → wv.cell? ⟨b, o, none⟩ = _ := fun b o hb => Below.cell hgv.1 (p := ⟨b, o, none⟩) hb; (try go_simp); try rfl; done)); simp only [Act.put, List.setIfInBounds_toArray, List.set_cons_succ, List.set_cons_zero])
  iterate 3 (apply HavG.hav_same (by simp only [List.getElem?_toArray, List.getElem?_cons_succ, List.getElem?_cons_zero]; rfl) (by kernel_rfl); (focus (intro wv hgv _; have hcv : ∀ b o, b < _ → wv.cell? ⟨b, o, none⟩ = _ := fun b o hb => Below.cell hgv.1 (p := ⟨b, o, none⟩) hb; (try go_simp); try rfl; done)); simp only [Act.put, List.setIfInBounds_toArray, List.set_cons_succ, List.set_cons_zero])
  (apply HavG.hav_same (by simp only [List.getElem?_toArray, List.getElem?_cons_succ, List.getElem?_cons_zero]; rfl) (by kernel_rfl); (focus (intro wv hgv _; exact conv16 rfl rfl (by omega) (by omega) _)); simp only [Act.put, List.setIfInBounds_toArray, List.set_cons_succ, List.set_cons_zero])
  (apply HavG.hav_same (by simp only [List.getElem?_toArray, List.getElem?_cons_succ, List.getElem?_cons_zero]; rfl) (by kernel_rfl); (focus (intro wv hgv _; have hcv : ∀ b o, b < _ → wv.cell? ⟨b, o, none⟩ = _ := fun b o hb => Below.cell hgv.1 (p := ⟨b, o, none⟩) hb; (try go_simp); try rfl; done)); simp only [Act.put, List.setIfInBounds_toArray, List.set_cons_succ, List.set_cons_zero])
  (apply HavG.hav_call (by simp only [List.getElem?_toArray, List.getElem?_cons_succ, List.getElem?_cons_zero]; rfl) (by kernel_rfl); (focus (intro wv; go_simp; try exact ⟨rfl, rfl⟩; done)); (focus (intro wv hgv _; exact (HEV.out wv).mono fun e w' h => ⟨h.1, GL.below hgv.1.size h.2⟩; done)); simp only [Act.put, List.setIfInBounds_toArray, List.set_cons_succ, List.set_cons_zero])
  (apply HavG.hav_same (by simp only [List.getElem?_toArray, List.getElem?_cons_succ, List.getElem?_cons_zero]; rfl) (by kernel_rfl); (focus (intro wv hgv _; have hcv : ∀ b o, b < _ → wv.cell? ⟨b, o, none⟩ = _ := fun b o hb => Below.cell hgv.1 (p := ⟨b, o, none⟩) hb; have hand := HAND.out; (try go_simp); try rfl; done)); simp only [Act.put, List.setIfInBounds_toArray, List.set_cons_succ, List.set_cons_zero])
  refine HavG.hav_val_ghost (fun v wq => ∃ g, v = .pointer (some ⟨g, 0, none⟩) ∧ v1.heap.size ≤ g ∧ ∃ x, Blk wq g 3 #[x]) (by simp only [List.getElem?_toArray, List.getElem?_cons_succ, List.getElem?_cons_zero]; rfl) (by kernel_rfl) ?_ ?_ (fun v => ?_)
  · rintro v a b ⟨g, rfl, hg, x, hk⟩ hG
    obtain ⟨cur', k1, k2, -⟩ := hG.2 g _ hg hk
    obtain ⟨y, rfl⟩ : ∃ y, cur' = #[y] := ⟨cur'[0]'(by rw [k2]; simp), by
      apply Array.ext
      · simpa using k2
      · intro i h1 h2
        have : i = 0 := by simpa using h2
        subst this
        rfl⟩
    exact ⟨g, rfl, hg, y, k1⟩
  · intro wv hgv _
    refine ⟨.pointer (some ⟨wv.heap.size, 0, none⟩), wv.alloc (.cells #[.int .i64 0] 3), ?_, GL.below hgv.1.size ((Below.refl _ _).alloc (Nat.le_refl _) _), wv.heap.size, rfl, hgv.1.size, _, Blk.new wv 3 _⟩
    go_simp
    try rfl
  simp only [Act.put, List.setIfInBounds_toArray, List.set_cons_succ, List.set_cons_zero]
  refine HavG.hav_store (fun wq => ∃ g, v = .pointer (some ⟨g, 0, none⟩) ∧ v1.heap.size ≤ g ∧ Blk wq g 3 #[.int .i64 fl]) (by simp only [List.getElem?_toArray, List.getElem?_cons_succ, List.getElem?_cons_zero]; rfl) (by kernel_rfl) rfl ?_ ?_ ?_
  · rintro a b ⟨g, e, hg, hk⟩ hG
    exact ⟨g, e, hg, GL.one hG hg hk⟩
  · rintro wv hgv ⟨_, g, rfl, hgB, x, hk⟩
    have c0 := hk.cell 0
    have f0 := hk.frozen 0
    have lg := hk.lt
    simp at c0
    have hk2 : Blk (wv.setCell ⟨g, 0, none⟩ (.int .i64 fl)) g 3 #[.int .i64 fl] := hk.set_ 0 _
    refine ⟨wv.setCell ⟨g, 0, none⟩ (.int .i64 fl), ?_, ⟨setCell_below (Below.refl _ _) hgB _ _, fun g' cur hg' hc => ?_⟩, g, rfl, hgB, hk2⟩
    · clear hk2
      go_simp
      try rfl
    · by_cases e : g' = g
      · subst e
        have hcc : cur = #[x] := by
          have h1 : wv.heap[g']? = some (.cells cur 3 (0, 0)) := hc
          have h2 : wv.heap[g']? = some (.cells #[x] 3 (0, 0)) := hk
          rw [h1] at h2
          injection h2 with h2
          injection h2
        subst hcc
        refine ⟨_, hk2, rfl, fun i => ?_⟩
        match i with
        | 0 => exact .inr ⟨rfl, rfl⟩
        | i + 1 => exact .inl (by simp)
      · exact ⟨cur, hc.far (p := ⟨g, 0, none⟩) e _, rfl, fun _ => .inl rfl⟩
  (apply HavG.hav_same (by simp only [List.getElem?_toArray, List.getElem?_cons_succ, List.getElem?_cons_zero]; rfl) (by kernel_rfl); (focus (intro wv hgv _; have hcv : ∀ b o, b < _ → wv.cell? ⟨b, o, none⟩ = _ := fun b o hb => Below.cell hgv.1 (p := ⟨b, o, none⟩) hb; (try go_simp); try rfl; done)); simp only [Act.put, List.setIfInBounds_toArray, List.set_cons_succ, List.set_cons_zero])
  refine HavG.hav_end (fun v2 hg2 hF => ?_)
  simp only [List.filterMap]
  obtain ⟨⟨_, _⟩, g, rfl, hgB, hk2⟩ := hF
  have HB2 : Hid (Below W.heap.size W v2) := HB1.out.trans (hg2.1.mono HB1.out.size)
  have HK2 := Lib.hid hk2
  have hWg : W.heap.size ≤ g := Nat.le_trans HB1.out.size hgB
  clear hg2 hk2 x0 x1 x2 x3 x4 xl
  go_wp2_with fail
  have hX2 := HX.out.below HB2.out HX.out.lt
  have hE2 := HE.out.below HB2.out HE.out.lt
  have hbw : Below w.heap.size w v2 := HBW.out.trans (HB2.out.mono HBW.out.size)
  exact HKU.out _ _ (more_t3 k0 k1 HP.out HV.out hbw hX2 hE2 HK2.out HSF.out)
end
end Go.Proofs.Ytbfjebglaimcmaa
