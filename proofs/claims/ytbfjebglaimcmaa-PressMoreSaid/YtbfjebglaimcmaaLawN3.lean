/- PressMore's code from behind: a bale more that can be pressed, and fleeces that are numbered the other way round. Conditions: what the boxes hold, as hypotheses. -/
import Derived.Test.YtbfjebglaimcmaaLawN1
namespace Go.Proofs.Ytbfjebglaimcmaa
open Go.RowKit Go.Hav
theorem revF_lt {n : Nat} (hn : n ≤ 10) (s k : Nat) (hk : k ≤ n) : revF n s k < 1024 := by
  refine Nat.lt_of_lt_of_le (Nat.lt_pow_two_of_testBit (n := n) _ fun i hi => ?_) (Nat.pow_le_pow_right (n := 2) (by omega) hn)
  rw [tb_revF n s k hk, decide_eq_false (by omega), Bool.false_and]
set_option maxRecDepth 100000 in
set_option maxHeartbeats 6400000 in
theorem turned_any {n : Nat} (hn : n ≤ 10) (s : Nat) (hs : s < 1024) (g : Nat) (w : World) (hg : Blk w g 3 #[.int .i64 n]) :
    Calls Try.prog 43 #[.int .i64 s, .pointer (some ⟨g, 0, none⟩)] w fun e w' => e = .returned (.int .i64 (rev n s : Nat)) ∧ w' = w := by
  have x0 := hg.cell 0
  have xl := hg.lt
  simp at x0
  clear hg
  go_enter Try.func43, Try.ntmps43
  go_wp2
  go_loopw [3, 6] (fun x i wr => ∃ (k t : Nat), k ≤ n ∧ i = .int .i64 k ∧ x = .int .i64 t ∧ Hid (revF n s k = t) ∧ t < 1024 ∧ wr = w) (fun _ i _ => n - (intOf i).toNat)
  case atStart => exact ⟨0, 0, Nat.zero_le _, rfl, rfl, rfl, by omega, rfl⟩
  case round =>
    obtain ⟨k, t, hk, rfl, rfl, HT, ht, rfl⟩ := hrel
    by_cases hlt : k < n
    · have htb := tb_i64 s k (by omega)
      have hnl := revF_lt hn s (k + 1) hlt
      cases hbit : s.testBit k
      · have HN : Hid (revF n s (k + 1) = t) := by show _ = _; rw [revF, if_neg (by rw [hbit]; simp), HT.out]
        rw [hbit] at htb
        clear hbit
        go_wp2
        go_roundw
        case rel => exact ⟨k + 1, t, by omega, by go_num, rfl, HN, ht, trivial⟩
        case measure => simp [intOf]; omega
      · obtain ⟨m, hm⟩ : ∃ m, n - 1 - k = m := ⟨_, rfl⟩
        have HN : Hid (revF n s (k + 1) = (t ||| 2 ^ m : Nat)) := by show _ = _; rw [revF, if_pos hbit, HT.out, hm]
        rw [HN.out] at hnl
        have h2k : 2 ^ m ≤ 512 := by have := Nat.pow_le_pow_right (n := 2) (by omega) (show m ≤ 9 by omega); omega
        have h2p : 1 ≤ 2 ^ m := Nat.two_pow_pos m
        have hw1 : IntKind.i64.wrap ((n : Int) - 1) = (n : Int) - 1 := wrap_i64 (by omega) (by omega)
        have hw2 : IntKind.i64.wrap ((n : Int) - 1 - (k : Int)) = (m : Int) := by rw [wrap_i64 (by omega) (by omega)]; omega
        have hw3 : IntKind.i64.wrap (2 ^ m) = 2 ^ m := wrap_i64 (by have := pow_cast m; omega) (by have := pow_cast m; omega)
        have hor : bits BinOp.or IntKind.i64 (t : Int) (2 ^ m) = ((t ||| 2 ^ m : Nat) : Int) := by
          have h := or_i64 t (2 ^ m) (by omega) (by omega)
          rw [pow_cast] at h
          exact h
        rw [hbit] at htb
        clear hbit
        go_wp2
        go_roundw
        case rel => exact ⟨k + 1, t ||| 2 ^ m, by omega, by go_num, rfl, HN, hnl, trivial⟩
        case measure => simp [intOf]; omega
    · obtain rfl : n = k := by omega
      go_wp2
      go_ret
      exact ⟨ret_int (by rw [rev, HT.out]), rfl⟩
theorem planE_ok {p : PressD} (hv : p.ok = true) : planE p = if p.wrong = 0 then 0 else 10 := by unfold planE; rw [if_neg (by rw [hv]; simp)]
theorem mostR_err {p : PressD} {M0 M1 E : Int} (hE : planE p = E) (hM : ∃ a b c, mostR p = .tuple #[.int .i64 a, .int .i64 b, .int .i64 c] ∧ M0 = a ∧ M1 = b) : mostR p = .tuple #[.int .i64 M0, .int .i64 M1, .int .i64 E] := by
  obtain ⟨a, b, c, h, rfl, rfl⟩ := hM
  rw [h]
  unfold mostR at h
  rw [hE] at h
  split at h
  · rename_i h0
    simp only [Value.tuple.injEq, Array.mk.injEq, List.cons.injEq, Value.int.injEq, true_and, and_true] at h
    rw [h.2.2.symm, h0]
  · simp only [Value.tuple.injEq, Array.mk.injEq, List.cons.injEq, Value.int.injEq, true_and, and_true] at h
    rw [h.2.2.symm]
theorem most_ex (p : PressD) : ∃ a b, mostR p = .tuple #[.int .i64 a, .int .i64 b, .int .i64 (planE p)] ∧ (planE p ≠ 0 → a = 0 ∧ b = 0) := by
  unfold mostR
  split
  · rename_i h; exact ⟨_, _, by rw [h], fun h' => absurd h h'⟩
  · exact ⟨_, _, rfl, fun _ => ⟨rfl, rfl⟩⟩
theorem most_withB {p : PressD} (hv : p.ok = true) {M0 M1 : Int} (hM : mostR p = .tuple #[.int .i64 M0, .int .i64 M1, .int .i64 (planE p)]) :
    ∃ N0 N1, mostR (p.withB (min 5 (p.bales + 1))) = .tuple #[.int .i64 N0, .int .i64 N1, .int .i64 (planE p)] ∧ M0 ≤ N0 := by
  have hb := PressD.ok_head hv
  have hz := PressD.bales_ok hv
  have hE : planE (p.withB (min 5 (p.bales + 1))) = planE p := by
    rw [planE_ok hz, planE_ok hv]
    have : (p.withB (min 5 (p.bales + 1))).wrong = p.wrong := PressD.withB_wrong _ _
    rw [this]
  by_cases h0 : planE p = 0
  · refine ⟨_, _, by rw [mostR, if_pos (by rw [hE]; exact h0), h0], ?_⟩
    rw [mostR, if_pos h0] at hM
    simp only [Value.tuple.injEq, Array.mk.injEq, List.cons.injEq, Value.int.injEq, true_and, and_true] at hM
    rw [← hM.1]
    exact PressD.best_bales (by omega)
  · refine ⟨0, 0, by rw [mostR, if_neg (by rw [hE]; exact h0), hE], ?_⟩
    rw [mostR, if_neg h0] at hM
    simp only [Value.tuple.injEq, Array.mk.injEq, List.cons.injEq, Value.int.injEq, true_and, and_true] at hM
    omega
theorem plan_turn {p : PressD} (hv : p.ok = true) : planE p.turnP = planE p := by
  rw [planE_ok (PressD.turn_ok hv), planE_ok hv, PressD.turn_wrong]
theorem most_turn {p : PressD} (hv : p.ok = true) : mostR p.turnP = mostR p := by
  have hb := PressD.ok_head hv
  obtain ⟨h1, h2⟩ := PressD.turn_plan (p := p) hb.1 (by omega)
  unfold mostR
  rw [plan_turn hv]
  show (if planE p = 0 then Value.tuple #[.int .i64 (pops (plan p.turnP.sets (full p.turnP.n) p.turnP.bales.toNat)), .int .i64 (plan p.turnP.sets (full p.turnP.n) p.turnP.bales.toNat).length, .int .i64 0] else _) = _
  rw [h1, h2]
  rfl
theorem weight_turn {p : PressD} (hv : p.ok = true) {s : Nat} (hs : s ≤ full p.n) : setE p.turnP (rev p.n s : Nat) = setE p s ∧ weightR p.turnP (rev p.n s : Nat) = weightR p s := by
  have e : setE p.turnP (rev p.n s : Nat) = setE p s := by
    rw [setE_ok (PressD.turn_ok hv) (by rw [PressD.turn_n]; exact le_full.2 (rev_lt _ _)), setE_ok hv hs, PressD.turn_wrong]
  refine ⟨e, ?_⟩
  unfold weightR
  rw [e, Int.toNat_natCast, Int.toNat_natCast, PressD.turn_weight]
theorem PressIn.withB {w : World} {B fl wl : Nat} {fa wa : Option Addr} {low top bales b : Int} {p : PressD} (h : PressIn w B fa fl low top bales wa wl p) : PressIn w B fa fl low top b wa wl (p.withB b) :=
  { elow := h.elow, etop := h.etop, ebales := rfl, efl := h.efl, ewl := h.ewl, mfl := h.mfl, mwl := h.mwl, hfl := h.hfl, hwl := h.hwl }
section
variable {w K : World} {b gz gt gn gs s : Nat} {fa wa ta ua A1 A2 : Option Addr} {fl fc wl wp c1 c2 tc uc : Nat} {low top bales E lo hi M0 M1 : Int} {p : PressD}
set_option maxRecDepth 100000 in
set_option maxHeartbeats 6400000 in
theorem more_t16 (hC : MoreC w K b fa fl fc low top bales wa wl wp p A1 A2) (hwl : wl ≤ 100) (hfl : fl ≤ 100) (hv : p.ok = true) (hE : planE p = E)
    (hz : Blk K gz 25 (boxC fa fl fc low top (min 5 (p.bales + 1)) wa wl wp)) (ht : Blk K gt 25 (boxC ta fl tc low top bales ua wl uc)) (hT : PressIn K K.heap.size ta fl low top bales ua wl p.turnP)
    (hn : Blk K gn 3 #[.int .i64 fl]) (hs : Blk K gs 29 #[.int .i64 lo, .int .i64 hi]) (hS : weightR p s = ⟨lo, hi⟩) (hSF : s ≤ full p.n) (hM : mostR p = .tuple #[.int .i64 M0, .int .i64 M1, .int .i64 E]) {s0 s1 s2 s3 s5 s6 s7 s8 s9 s11 s12 s15 s17 s18 s19 s24 s25 s28 s29 s30 s31 s32 s33 s34 s35 s36 s37 s38 s39 s40 s41 s42 s43 s44 s45 s46 s47 s48 s49 s50 s51 s52 s53 s54 s55 s56 s57 s58 s59 s60 s61 s62 s63 s64 s65 s66 s67 s68 s69 s70 s71 s72 s73 s74 s75 s76 s77 s78 s79 s80 s81 s82 s83 s84 s85 s86 s87 s88 s89 s90 s91 s92 s93 s94 s95 s96 s97 s98 s99 s100 s101 s102 s103 s104 s105 s106 s107 s108 s109 s110 s111 s112 s113 s114 s115 s116 s117 s118 s119 s120 s121 s122 s123 s124 s125 s126 s127 s128 s129 s130 s131 s132 s133 s134 s135 s136 s137 s138 s139 s140 s141 s142 s143 s144 s145 s146 s147 s148 s149 s150 s151 s152 s153 s154 s155 s156 s157 s158 s159 s160 s161 s162 s163 s164 s165 s166 s167 s168 s169 s170 s171 s172 s173 s174 s175 s176 s177 s178 s179 s180 s181 s182 s183 s184 s185 s186 s187 s188 s189 s190 s191 s192 s193 s194 s195 s196 s197 s198 s199 s200 s201 s202 s203 s204 s205 s206 s207 s208 s209 s210 s211 s212 s213 s214 s215 s216 s217 s218 s219 s220 s221 s222 s223 s224 s225 s226 s227 s228 s229 s230 s231 s232 s233 s234 s235 s236 s237 s238 s239 s240 s241 s242 s243 s244 s245 s246 s247 s248 s249 s250 s251 s252 s253 s254 s255 s256 s257 s258 s259 s260 s261 s262 s263 s264 s265 s266 s267 s268 s269 s270 s271 s272 s273 s274 s275 s276 s277 s278 s279 s280 s281 s282 s283 s284 s285 s286 s287 s288 s289 s290 s291 s292 s293 s294 s295 s296 s297 s298 s299 s300 s301 s302 s303 s304 s305 s306 s307 s308 s309 s310 s311 s312 s313 s314 s315 s316 s317 s318 s319 s320 s321 s322 s323 s324 s325 s326 s327 s328 s329 s330 s331 s332 s333 s334 s335 s336 s337 s338 s339 s340 s341 s342 s343 s344 s345 s346 s347 s348 s349 s350 s351 s352 s353 s354 s355 s356 s357 s358 s359 s360 s361 s362 s363 s364 s365 s366 s367 s368 s369 s370 s371 s372 s373 s374 s375 s376 s377 s378 s379 s380 s381 s382 s383 s384 s385 s386 s387 s388 s389 s390 s391 s392 s393 s394 s395 s396 s397 s398 s399 s400 s401 s402 : Value} :
    Code.wp Try.prog (moreTail 16) (bodyPost Try.prog Try.f10 fun e w' => e = .returned (.bool true) ∧ Below w.heap.size w w') ⟨(s0 :: s1 :: s2 :: s3 :: (.pointer (some ⟨b, 0, none⟩)) :: s5 :: s6 :: s7 :: s8 :: s9 :: (.int .i64 (s : Nat)) :: s11 :: s12 :: (.pointer (some ⟨gz, 0, none⟩)) :: (.pointer (some ⟨gt, 0, none⟩)) :: s15 :: (.func (.func 43) #[] #[.pointer (some ⟨gn, 0, none⟩)]) :: s17 :: s18 :: s19 :: (.slice A1 fl c1) :: (.slice A2 wl c2) :: (.pointer (some ⟨gs, 0, none⟩)) :: (.int .i64 E) :: s24 :: s25 :: (.int .i64 M0) :: (.int .i64 M1) :: s28 :: s29 :: s30 :: s31 :: s32 :: s33 :: s34 :: s35 :: s36 :: s37 :: s38 :: s39 :: s40 :: s41 :: s42 :: s43 :: s44 :: s45 :: s46 :: s47 :: s48 :: s49 :: s50 :: s51 :: s52 :: s53 :: s54 :: s55 :: s56 :: s57 :: s58 :: s59 :: s60 :: s61 :: s62 :: s63 :: s64 :: s65 :: s66 :: s67 :: s68 :: s69 :: s70 :: s71 :: s72 :: s73 :: s74 :: s75 :: s76 :: s77 :: s78 :: s79 :: s80 :: s81 :: s82 :: s83 :: s84 :: s85 :: s86 :: s87 :: s88 :: s89 :: s90 :: s91 :: s92 :: s93 :: s94 :: s95 :: s96 :: s97 :: s98 :: s99 :: s100 :: s101 :: s102 :: s103 :: s104 :: s105 :: s106 :: s107 :: s108 :: s109 :: s110 :: s111 :: s112 :: s113 :: s114 :: s115 :: s116 :: s117 :: s118 :: s119 :: s120 :: s121 :: s122 :: s123 :: s124 :: s125 :: s126 :: s127 :: s128 :: s129 :: s130 :: s131 :: s132 :: s133 :: s134 :: s135 :: s136 :: s137 :: s138 :: s139 :: s140 :: s141 :: s142 :: s143 :: s144 :: s145 :: s146 :: s147 :: s148 :: s149 :: s150 :: s151 :: s152 :: s153 :: s154 :: s155 :: s156 :: s157 :: s158 :: s159 :: s160 :: s161 :: s162 :: s163 :: s164 :: s165 :: s166 :: s167 :: s168 :: s169 :: s170 :: s171 :: s172 :: s173 :: s174 :: s175 :: s176 :: s177 :: s178 :: s179 :: s180 :: s181 :: s182 :: s183 :: s184 :: s185 :: s186 :: s187 :: s188 :: s189 :: s190 :: s191 :: s192 :: s193 :: s194 :: s195 :: s196 :: s197 :: s198 :: s199 :: s200 :: s201 :: s202 :: s203 :: s204 :: s205 :: s206 :: s207 :: s208 :: s209 :: s210 :: s211 :: s212 :: s213 :: s214 :: s215 :: s216 :: s217 :: s218 :: s219 :: s220 :: s221 :: s222 :: s223 :: s224 :: s225 :: s226 :: s227 :: s228 :: s229 :: s230 :: s231 :: s232 :: s233 :: s234 :: s235 :: s236 :: s237 :: s238 :: s239 :: s240 :: s241 :: s242 :: s243 :: s244 :: s245 :: s246 :: s247 :: s248 :: s249 :: s250 :: s251 :: s252 :: s253 :: s254 :: s255 :: s256 :: s257 :: s258 :: s259 :: s260 :: s261 :: s262 :: s263 :: s264 :: s265 :: s266 :: s267 :: s268 :: s269 :: s270 :: s271 :: s272 :: s273 :: s274 :: s275 :: s276 :: s277 :: s278 :: s279 :: s280 :: s281 :: s282 :: s283 :: s284 :: s285 :: s286 :: s287 :: s288 :: s289 :: s290 :: s291 :: s292 :: s293 :: s294 :: s295 :: s296 :: s297 :: s298 :: s299 :: s300 :: s301 :: s302 :: s303 :: s304 :: s305 :: s306 :: s307 :: s308 :: s309 :: s310 :: s311 :: s312 :: s313 :: s314 :: s315 :: s316 :: s317 :: s318 :: s319 :: s320 :: s321 :: s322 :: s323 :: s324 :: s325 :: s326 :: s327 :: s328 :: s329 :: s330 :: s331 :: s332 :: s333 :: s334 :: s335 :: s336 :: s337 :: s338 :: s339 :: s340 :: s341 :: s342 :: s343 :: s344 :: s345 :: s346 :: s347 :: s348 :: s349 :: s350 :: s351 :: s352 :: s353 :: s354 :: s355 :: s356 :: s357 :: s358 :: s359 :: s360 :: s361 :: s362 :: s363 :: s364 :: s365 :: s366 :: s367 :: s368 :: s369 :: s370 :: s371 :: s372 :: s373 :: s374 :: s375 :: s376 :: s377 :: s378 :: s379 :: s380 :: s381 :: s382 :: s383 :: s384 :: s385 :: s386 :: s387 :: s388 :: s389 :: s390 :: s391 :: s392 :: s393 :: s394 :: s395 :: s396 :: s397 :: s398 :: s399 :: s400 :: s401 :: s402 :: []).toArray, []⟩ K := by
  conv => arg 2; whnf
  have HC := Lib.hid hC
  have HV := Lib.hid hv
  have HE := Lib.hid hE
  have HZ := Lib.hid hz
  have HT := Lib.hid ht
  have HTP := Lib.hid hT
  have HNB := Lib.hid hn
  have HS := Lib.hid hs
  have HEN : Hid (p.n = fl) := hC.hp.efl
  have hn10 : fl ≤ 10 := by have := (PressD.ok_head hv).1; rw [HEN.out] at this; exact this
  have hs10 : s < 1024 := Nat.lt_of_lt_of_le (le_full.1 hSF) (PressD.n_pow hv)
  obtain ⟨q1, q2⟩ := weight_turn hv hSF
  rw [HEN.out, hS] at q2
  have qe : setE p (s : Nat) = E := by rw [setE_ok hv hSF, ← hE, planE_ok hv]
  rw [HEN.out, qe] at q1
  have HSE := Lib.hid q1
  have HSW := Lib.hid q2
  have HMT : Hid (mostR p.turnP = .tuple #[.int .i64 M0, .int .i64 M1, .int .i64 E]) := (most_turn hv).trans hM
  obtain ⟨N0, N1, hN, hle⟩ := most_withB hv (M0 := M0) (M1 := M1) (by rw [hE]; exact hM)
  rw [hE] at hN
  have HMZ := Lib.hid hN
  obtain ⟨x0, x1, x2, x3, x4, xl⟩ := boxC_cells hz
  clear hC hv hE hz ht hT hn hs hS hSF hM q1 q2 qe hN
  go_wp2_with fail
  refine (PMost_any (p := p.withB (min 5 (p.bales + 1))) K (by exact HC.out.hp.withB)).mono ?_
  rw [HMZ.out]
  rintro e v1 ⟨rfl, hb1⟩
  have HB1 : Hid (Below K.heap.size K v1) := hb1
  clear hb1 x0 x1 x2 x3 x4 xl
  have hs1 := HB1.out.size
  go_upto_region 40 with fail
  refine HavG.wp_region_havoc (R := GT v1.heap.size 29 (.int .i64 lo) (.int .i64 hi)) [(0,false),(1,false),(2,false),(3,false),(4,false),(5,false),(6,false),(7,false),(8,true),(9,true),(10,false)] [] (fun _ _ => False) (by kernel_rfl) (by kernel_rfl) (fun _ _ _ _ h => h.elim) ?_
  (apply HavG.hav_same (by simp only [List.getElem?_toArray, List.getElem?_cons_zero]; rfl) (by kernel_rfl); (focus (intro wv hgv _; have hw := HT.out.below (HB1.out.trans (hgv.1.mono hs1)) HT.out.lt; obtain ⟨x0, x1, x2, x3, x4, xl⟩ := boxC_cells hw; (try go_simp); try rfl; done)); simp only [Act.put, List.setIfInBounds_toArray, List.set_cons_succ, List.set_cons_zero])
  iterate 2 (apply HavG.hav_same (by simp only [List.getElem?_toArray, List.getElem?_cons_succ, List.getElem?_cons_zero]; rfl) (by kernel_rfl); (focus (intro wv hgv _; have hcv : ∀ b o, b < _ → wv.cell? ⟨b, o, none⟩ = _ := fun b o hb => Below.cell hgv.1 (p := ⟨b, o, none⟩) hb; (try go_simp); try rfl; done)); simp only [Act.put, List.setIfInBounds_toArray, List.set_cons_succ, List.set_cons_zero])
  (apply HavG.hav_call (by simp only [List.getElem?_toArray, List.getElem?_cons_succ, List.getElem?_cons_zero]; rfl) (by kernel_rfl); (focus (intro wv; go_simp; try exact ⟨rfl, rfl⟩; done)); (focus (intro wv hgv _; exact (turned_any hn10 s hs10 gn wv (HNB.out.below (HB1.out.trans (hgv.1.mono hs1)) HNB.out.lt)).mono fun e w' h => ⟨h.1, by rw [h.2]; exact (GT _ _ _ _).refl _⟩; done)); simp only [Act.put, List.setIfInBounds_toArray, List.set_cons_succ, List.set_cons_zero])
  (apply HavG.hav_call (by simp only [List.getElem?_toArray, List.getElem?_cons_succ, List.getElem?_cons_zero]; rfl) (by kernel_rfl); (focus (intro wv; go_simp; try exact ⟨rfl, rfl⟩; done)); (focus (intro wv hgv _; have hq := PWeight_any (p := p.turnP) (fc := tc) (wc := uc) ((rev fl s : Nat) : Int) wv (by exact HTP.out.grow (HB1.out.trans (hgv.1.mono hs1))); rw [HSE.out, HSW.out] at hq; unfold spV at hq; exact hq.mono fun e w' h => ⟨h.1, GT.below hgv.1.size h.2⟩; done)); simp only [Act.put, List.setIfInBounds_toArray, List.set_cons_succ, List.set_cons_zero])
  iterate 3 (apply HavG.hav_same (by simp only [List.getElem?_toArray, List.getElem?_cons_succ, List.getElem?_cons_zero]; rfl) (by kernel_rfl); (focus (intro wv hgv _; have hcv : ∀ b o, b < _ → wv.cell? ⟨b, o, none⟩ = _ := fun b o hb => Below.cell hgv.1 (p := ⟨b, o, none⟩) hb; (try go_simp); try rfl; done)); simp only [Act.put, List.setIfInBounds_toArray, List.set_cons_succ, List.set_cons_zero])
  refine HavG.hav_val_ghost (PlaceT v1.heap.size 29) (by simp only [List.getElem?_toArray, List.getElem?_cons_succ, List.getElem?_cons_zero]; rfl) (by kernel_rfl) (fun v w w' h hG => h.stable hG) ?_ (fun v => ?_)
  · intro wv hgv _
    refine ⟨.pointer (some ⟨wv.heap.size, 0, none⟩), wv.alloc (.cells #[.int .i64 0, .int .i64 0] 29), ?_, GT.below hgv.1.size ((Below.refl _ _).alloc (Nat.le_refl _) _), wv.heap.size, rfl, hgv.1.size, _, _, Blk.new wv 29 _⟩
    go_simp
    try rfl
  simp only [Act.put, List.setIfInBounds_toArray, List.set_cons_succ, List.set_cons_zero]
  refine HavG.hav_store (StoredT v1.heap.size 29 (.int .i64 lo) (.int .i64 hi) v) (by simp only [List.getElem?_toArray, List.getElem?_cons_succ, List.getElem?_cons_zero]; rfl) (by kernel_rfl) rfl (fun w w' h hG => h.stable hG) ?_ ?_
  · rintro wv hgv ⟨_, g, rfl, hgB, x, y, hk⟩
    have hs := GT.set (s0 := .int .i64 lo) (s1 := .int .i64 hi) hgB hk
    have c0 := hk.cell 0
    have c1 := hk.cell 1
    have f0 := hk.frozen 0
    have f1 := hk.frozen 1
    have lg := hk.lt
    simp at c0 c1
    refine ⟨_, ?_, hs.1, g, rfl, hgB, hs.2⟩
    go_simp
    try rfl
  (apply HavG.hav_same (by simp only [List.getElem?_toArray, List.getElem?_cons_succ, List.getElem?_cons_zero]; rfl) (by kernel_rfl); (focus (intro wv hgv _; have hcv : ∀ b o, b < _ → wv.cell? ⟨b, o, none⟩ = _ := fun b o hb => Below.cell hgv.1 (p := ⟨b, o, none⟩) hb; (try go_simp); try rfl; done)); simp only [Act.put, List.setIfInBounds_toArray, List.set_cons_succ, List.set_cons_zero])
  refine HavG.hav_end (fun v2 hg2 hF => ?_)
  simp only [List.filterMap]
  have HB2 : Hid (Below K.heap.size K v2) := HB1.out.trans (hg2.1.mono hs1)
  obtain ⟨⟨_, _⟩, g2, rfl, hgB2, hk2⟩ := hF
  have HK2 := Lib.hid hk2
  clear hg2 hk2
  obtain ⟨x0, x1, x2, x3, x4, xl⟩ := boxC_cells (HT.out.below HB2.out HT.out.lt)
  go_wp2_with fail
  refine (PMost_any (p := p.turnP) v2 (by exact HTP.out.grow HB2.out)).mono ?_
  rw [HMT.out]
  rintro e v3 ⟨rfl, hb3⟩
  have HB3 : Hid (Below K.heap.size K v3) := HB2.out.trans (hb3.mono HB2.out.size)
  have hk3 := HK2.out.below hb3 HK2.out.lt
  have y0 := hk3.cell 0
  have y1 := hk3.cell 1
  have yl := hk3.lt
  have hk4 := HS.out.below HB3.out HS.out.lt
  have z0 := hk4.cell 0
  have z1 := hk4.cell 1
  have zl := hk4.lt
  simp at y0 y1 z0 z1
  clear hb3 hk3 hk4 x0 x1 x2 x3 x4 xl
  have hlt : decide (N0 < M0) = false := by simp; omega
  go_upto_region 42 with fail
  rename ∀ a w, Code.wp Try.prog (moreTail 20) _ a w → _ => hKU
  have HKU := Lib.hid hKU
  clear hKU
  go_wp2_with fail
  exact HKU.out _ _ (more_t20 (HC.out.below HB3.out) hwl hfl HV.out HE.out)
end
end Go.Proofs.Ytbfjebglaimcmaa
