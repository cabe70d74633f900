/- The walks of the reference's fits, Weight, Fits, Add, False; conditions: a valid press has few fleeces, none has more than 40. -/
import Derived.Test.YtbfjebglaimcmaaRefK
namespace Go.Proofs.Ytbfjebglaimcmaa
open Go.RowKit Go.Hav
section
variable {low top bales : Int} {fa wa : Option Addr} {fl fc wl wc : Nat} {p : PressD}
theorem fits_cases {p : PressD} (hv : p.ok = true) (hw : p.wrong = 0) (s : Nat) {u0 u1 : Int} (hu : p.weight s = ⟨u0, u1⟩) : p.fits s = if p.alike s = false then 0 else if p.low ≤ u0 ∧ u1 ≤ p.top then 2 else if u1 < p.low ∨ p.top < u0 then 0 else 1 := by
  have hs := sure_eq hv hw s
  have hb := fits_bd p s
  have h2 := fits_sure p s
  have h0 := fits_may hv hw s
  unfold PressD.may at h0
  rw [hu] at hs h0
  simp only at hs h0
  cases ha : p.alike s
  · rw [ha] at h0
    simp at h0
    rw [if_pos rfl, h0]
  · rw [ha] at hs h0
    rw [if_neg (by simp)]
    by_cases c1 : p.low ≤ u0 ∧ u1 ≤ p.top
    · rw [if_pos c1]
      have : p.sure s = true := by rw [hs]; simp [c1.1, c1.2]
      rw [this] at h2
      simpa using h2
    · rw [if_neg c1]
      have : p.sure s = false := by
        rw [hs]
        by_cases c2 : p.low ≤ u0
        · have : ¬ u1 ≤ p.top := fun h => c1 ⟨c2, h⟩
          simp [this]
        · simp [c2]
      rw [this] at h2
      by_cases c3 : u1 < p.low ∨ p.top < u0
      · rw [if_pos c3]
        have : (p.fits s == 0) = true := by
          rw [h0]
          rcases c3 with c | c
          · have : ¬ p.low ≤ u1 := by omega
            simp [this]
          · have : ¬ u0 ≤ p.top := by omega
            simp [this]
        simpa using this
      · rw [if_neg c3]
        have h3 : (p.fits s == 0) = false := by
          rw [h0]
          have e1 : p.low ≤ u1 := by omega
          have e2 : u0 ≤ p.top := by omega
          simp [e1, e2]
        simp at h3 h2
        omega
set_option maxRecDepth 100000 in
set_option maxHeartbeats 1600000 in
theorem rfits_any (hv : p.ok = true) (hw : p.wrong = 0) (h7 : p.n ≤ 7) (s : Nat) (hs : s < 2 ^ p.n) (w : World) (hP : PressIn w w.heap.size fa fl low top bales wa wl p) :
    Calls Try.prog 64 #[pressV fa fl fc low top bales wa wl wc, .int .i64 s] w fun e w' => e = .returned (.int .i64 (p.fits s)) ∧ Below w.heap.size w w' := by
  have HP := Lib.hid hP
  have HV := Lib.hid hv
  have HWR := Lib.hid hw
  have H7 := Lib.hid h7
  have HS := Lib.hid hs
  have hs10 : s < 1024 := Nat.lt_of_lt_of_le hs (PressD.n_pow hv)
  obtain ⟨⟨u0, u1⟩, hu⟩ : ∃ v, p.weight s = v := ⟨_, rfl⟩
  have hf := fits_cases hv hw s hu
  rw [hP.elow, hP.etop] at hf
  have HU := Lib.hid hu
  obtain ⟨F, hF⟩ : ∃ F, p.fits s = F := ⟨_, rfl⟩
  rw [hF] at hf ⊢
  have HFC := Lib.hid hf
  clear hP hv h7 hw hs hf hu hF
  unfold pressV
  go_enter Try.func64, Try.ntmps64
  go_wp2_with fail
  have HBA : Hid (Below w.heap.size w (w.alloc (Obj.cells #[Value.slice fa fl fc, Value.int IntKind.i64 low, Value.int IntKind.i64 top, Value.int IntKind.i64 bales, Value.slice wa wl wc] 25))) := (Below.refl _ _).alloc (Nat.le_refl _) _
  refine (one_any (p := p) HV.out s hs10 _ (by exact HP.out.grow HBA.out)).mono ?_
  rintro e w1 ⟨rfl, hb1⟩
  have HX : Hid (Blk w1 w.heap.size 25 #[Value.slice fa fl fc, Value.int IntKind.i64 low, Value.int IntKind.i64 top, Value.int IntKind.i64 bales, Value.slice wa wl wc]) := (Blk.new w 25 _).below hb1 (by simp)
  have HB1 : Hid (Below w.heap.size w w1) := HBA.out.trans (hb1.mono (by simp))
  clear hb1
  obtain ⟨x0, x1, x2, x3, x4, xl⟩ := blk5 HX.out
  cases ha : p.alike s
  · go_wp2
    go_ret
    exact ⟨ret_int (by rw [HFC.out, if_pos ha]), HB1.out⟩
  · go_wp2_with fail
    refine (of_any (p := p) HV.out HWR.out H7.out s HS.out _ (by exact HP.out.grow HB1.out)).mono ?_
    rw [HU.out]
    unfold spV
    rintro e w2 ⟨rfl, hb2⟩
    have HX2 := Lib.hid (HX.out.below hb2 HX.out.lt)
    have HB2 : Hid (Below w.heap.size w w2) := HB1.out.trans (hb2.mono HB1.out.size)
    have hs2 := HB2.out.size
    clear hb2 x0 x1 x2 x3 x4 xl
    obtain ⟨x0, x1, x2, x3, x4, xl⟩ := blk5 HX2.out
    by_cases c1 : low ≤ u0 ∧ u1 ≤ top
    · have d1 : decide (low ≤ u0) = true := by simp [c1.1]
      have d2 : decide (u1 ≤ top) = true := by simp [c1.2]
      have HR : Hid (F = 2) := by show _ = _; rw [HFC.out, if_neg (by rw [ha]; simp), if_pos c1]
      clear c1
      go_wp2
      go_ret
      exact ⟨ret_int HR.out.symm, HB2.out.alloc hs2 _⟩
    · by_cases c3 : u1 < low ∨ top < u0
      · have HR : Hid (F = 0) := by show _ = _; rw [HFC.out, if_neg (by rw [ha]; simp), if_neg c1, if_pos c3]
        by_cases c4 : low ≤ u0
        · have d1 : decide (low ≤ u0) = true := by simp [c4]
          have d2 : decide (u1 ≤ top) = false := by simp; omega
          by_cases c5 : u1 < low
          · have d3 : decide (u1 < low) = true := by simp [c5]
            clear c1 c3
            go_wp2
            go_ret
            exact ⟨ret_int HR.out.symm, HB2.out.alloc hs2 _⟩
          · have d3 : decide (u1 < low) = false := by simp; omega
            have d4 : decide (top < u0) = true := by simp; omega
            clear c1 c3
            go_wp2
            go_ret
            exact ⟨ret_int HR.out.symm, HB2.out.alloc hs2 _⟩
        · have d1 : decide (low ≤ u0) = false := by simp; omega
          by_cases c5 : u1 < low
          · have d3 : decide (u1 < low) = true := by simp [c5]
            clear c1 c3
            go_wp2
            go_ret
            exact ⟨ret_int HR.out.symm, HB2.out.alloc hs2 _⟩
          · have d3 : decide (u1 < low) = false := by simp; omega
            have d4 : decide (top < u0) = true := by simp; omega
            clear c1 c3
            go_wp2
            go_ret
            exact ⟨ret_int HR.out.symm, HB2.out.alloc hs2 _⟩
      · have HR : Hid (F = 1) := by show _ = _; rw [HFC.out, if_neg (by rw [ha]; simp), if_neg c1, if_neg c3]
        have d3 : decide (u1 < low) = false := by simp; omega
        have d4 : decide (top < u0) = false := by simp; omega
        by_cases c4 : low ≤ u0
        · have d1 : decide (low ≤ u0) = true := by simp [c4]
          have d2 : decide (u1 ≤ top) = false := by simp; omega
          clear c1 c3
          go_wp2
          go_ret
          exact ⟨ret_int HR.out.symm, HB2.out.alloc hs2 _⟩
        · have d1 : decide (low ≤ u0) = false := by simp; omega
          clear c1 c3
          go_wp2
          go_ret
          exact ⟨ret_int HR.out.symm, HB2.out.alloc hs2 _⟩
theorem setE_zero {p : PressD} {q : Int} (h : setE p q = 0) : p.ok = true ∧ p.wrong = 0 ∧ q = (q.toNat : Int) ∧ q.toNat < 2 ^ p.n := by
  unfold setE at h
  split at h
  · cases h
  · split at h
    · cases h
    · split at h
      · rename_i h1 h2 h3
        have := set_nat (p := p) (n := q) (by simpa using h2)
        exact ⟨by simpa using h1, h3, this.1, this.2⟩
      · cases h
set_option maxRecDepth 100000 in
set_option maxHeartbeats 1600000 in
theorem rWeight_any (h7 : p.ok = true → p.n ≤ 7) (h40 : fl ≤ 40) (q : Int) (w : World) (hP : PressIn w w.heap.size fa fl low top bales wa wl p) :
    Calls Try.prog 15 #[pressV fa fl fc low top bales wa wl wc, .int .i64 q] w fun e w' => e = .returned (.tuple #[spV (weightR p q), .int .i64 (setE p q)]) ∧ Below w.heap.size w w' := by
  have HP := Lib.hid hP
  have H7 := Lib.hid h7
  have HEN : Hid (p.n = fl) := hP.efl
  have HST : Hid (inB q 0 (full fl : Nat) = p.setB q) := by show _ = _; rw [PressD.setB, HEN.out]
  obtain ⟨E, hE⟩ : ∃ E, setE p q = E := ⟨_, rfl⟩
  have HE := Lib.hid hE
  obtain ⟨⟨u0, u1⟩, hU⟩ : ∃ v, weightR p q = v := ⟨_, rfl⟩
  have HU := Lib.hid hU
  rw [hE, hU]
  clear hP h7 hE hU
  unfold pressV spV
  go_enter Try.func15, Try.ntmps15
  go_upto_region 1 with fail
  obtain ⟨W, hW⟩ : ∃ W, W = (w.alloc (Obj.cells #[Value.slice fa fl fc, Value.int IntKind.i64 low, Value.int IntKind.i64 top, Value.int IntKind.i64 bales, Value.slice wa wl wc] 25)).alloc (Obj.cells #[Value.int IntKind.i64 0, Value.int IntKind.i64 0] 29) := ⟨_, rfl⟩
  have HK2 : Hid (Blk W w.heap.size 25 #[Value.slice fa fl fc, Value.int IntKind.i64 low, Value.int IntKind.i64 top, Value.int IntKind.i64 bales, Value.slice wa wl wc]) := by rw [hW]; exact (Blk.new w 25 _).alloc _
  have HK4 : Hid (Blk W (w.heap.size + 1) 29 #[.int .i64 0, .int .i64 0]) := by rw [hW]; exact Blk.new_ (by simp) 29 _
  have HBW : Hid (Below w.heap.size w W) := by rw [hW]; exact ((Below.refl _ _).alloc (Nat.le_refl _) _).alloc (by simp) _
  rw [← hW]
  clear hW
  obtain ⟨x0, x1, x2, x3, x4, xl⟩ := blk5 HK2.out
  refine wp_region_havoc [(0,false),(1,false),(2,false),(3,false),(4,false),(5,false)] [] (fun _ _ => False) (by kernel_rfl) (by kernel_rfl) (fun _ _ _ _ h => h.elim) ?_
  (apply hav_same (by simp only [List.getElem?_toArray, List.getElem?_cons_zero]; rfl) (by kernel_rfl); (focus (intro wv hgv _; have hcv : ∀ b o, b < _ → wv.cell? ⟨b, o, none⟩ = _ := fun b o hb => Below.cell hgv (p := ⟨b, o, none⟩) hb; (try go_simp); try rfl; done)); simp only [Act.put, List.setIfInBounds_toArray, List.set_cons_succ, List.set_cons_zero])
  iterate 2 (apply hav_same (by simp only [List.getElem?_toArray, List.getElem?_cons_succ, List.getElem?_cons_zero]; rfl) (by kernel_rfl); (focus (intro wv hgv _; have hcv : ∀ b o, b < _ → wv.cell? ⟨b, o, none⟩ = _ := fun b o hb => Below.cell hgv (p := ⟨b, o, none⟩) hb; (try go_simp); try rfl; done)); simp only [Act.put, List.setIfInBounds_toArray, List.set_cons_succ, List.set_cons_zero])
  (apply hav_call (by simp only [List.getElem?_toArray, List.getElem?_cons_succ, List.getElem?_cons_zero]; rfl) (by kernel_rfl); (focus (intro wv; go_simp; try exact ⟨rfl, rfl⟩; done)); (focus (intro wv hgv _; have hq := rset_any (low := low) (top := top) (bales := bales) (fa := fa) (fc := fc) (wa := wa) (wl := wl) (wc := wc) h40 q wv; rw [HST.out] at hq; exact hq; done)); simp only [Act.put, List.setIfInBounds_toArray, List.set_cons_succ, List.set_cons_zero])
  (apply hav_call (by simp only [List.getElem?_toArray, List.getElem?_cons_succ, List.getElem?_cons_zero]; rfl) (by kernel_rfl); (focus (intro wv; go_simp; try exact ⟨rfl, rfl⟩; done)); (focus (intro wv hgv _; have hq := check_any (p := p) (fc := fc) (wc := wc) H7.out (p.setB q) wv (by exact (HP.out.grow HBW.out).grow hgv); rw [chkE_set, HE.out] at hq; exact hq; done)); simp only [Act.put, List.setIfInBounds_toArray, List.set_cons_succ, List.set_cons_zero])
  (apply hav_same (by simp only [List.getElem?_toArray, List.getElem?_cons_succ, List.getElem?_cons_zero]; rfl) (by kernel_rfl); (focus (intro wv hgv _; have hcv : ∀ b o, b < _ → wv.cell? ⟨b, o, none⟩ = _ := fun b o hb => Below.cell hgv (p := ⟨b, o, none⟩) hb; (try go_simp); try rfl; done)); simp only [Act.put, List.setIfInBounds_toArray, List.set_cons_succ, List.set_cons_zero])
  refine hav_end (fun w1 hgw1 _ => ?_); simp only [List.filterMap]; have hcw1 : ∀ b o, b < _ → w1.cell? ⟨b, o, none⟩ = _ := fun b o hb => Below.cell hgw1 (p := ⟨b, o, none⟩) hb; have hfw1 : ∀ b o, b < _ → w1.frozen? ⟨b, o, none⟩ = _ := fun b o hb => Below.frozen hgw1 (p := ⟨b, o, none⟩) hb; have hzw1 := Below.size hgw1; (try simp at hzw1)
  have HQ2 := Lib.hid (HK2.out.below hgw1 xl)
  have HQ4 := Lib.hid (HK4.out.below hgw1 HK4.out.lt)
  have HB1 : Hid (Below w.heap.size w w1) := HBW.out.trans (hgw1.mono HBW.out.size)
  clear hgw1 hcw1 hfw1 x0 x1 x2 x3 x4 xl
  obtain ⟨x0, x1, x2, x3, x4, xl⟩ := blk5 HQ2.out
  have y0 := HQ4.out.cell 0
  have y1 := HQ4.out.cell 1
  have yf0 := HQ4.out.frozen 0
  have yf1 := HQ4.out.frozen 1
  have yl := HQ4.out.lt
  simp at y0 y1
  by_cases h0 : E = 0
  · subst h0
    obtain ⟨k1, k2, k3, k4⟩ := setE_zero HE.out
    have HUW : Hid (p.weight q.toNat = ⟨u0, u1⟩) := by
      have h := HU.out
      rw [weightR, if_pos HE.out] at h
      exact h
    obtain ⟨s, hs⟩ : ∃ s, q.toNat = s := ⟨_, rfl⟩
    rw [hs] at k3 k4 HUW
    subst k3
    clear hs
    go_wp2_with fail
    refine (of_any (p := p) k1 k2 (H7.out k1) s k4 _ (by exact HP.out.grow HB1.out)).mono ?_
    rw [HUW.out]
    unfold spV
    rintro e w2 ⟨rfl, hb2⟩
    have HR4 := Lib.hid (HQ4.out.below hb2 HQ4.out.lt)
    have HB2 : Hid (Below w.heap.size w w2) := HB1.out.trans (hb2.mono HB1.out.size)
    clear hb2 x0 x1 x2 x3 x4 xl y0 y1 yf0 yf1 yl
    have y0 := HR4.out.cell 0
    have y1 := HR4.out.cell 1
    have yf0 := HR4.out.frozen 0
    have yf1 := HR4.out.frozen 1
    have yl := HR4.out.lt
    simp at y0 y1
    go_wp2
    have hk := (HR4.out.set_ 0 (.int .i64 u0)).set_ 1 (.int .i64 u1)
    have z0 := hk.cell 0
    have z1 := hk.cell 1
    simp at z0 z1
    refine bodyPost_ret (v := .tuple #[.agg #[.int .i64 u0, .int .i64 u1], .int .i64 0]) (by simp [results, Try.results15, go_sem, z0, z1]) rfl ⟨rfl, setCell_below (setCell_below HB2.out (by omega) 0 _) (by omega) 1 _⟩
  · have HUZ : Hid (u0 = 0 ∧ u1 = 0) := by
      have h := HU.out
      rw [weightR, if_neg (by rw [HE.out]; exact h0)] at h
      injection h with h1 h2
      exact ⟨h1.symm, h2.symm⟩
    have hne : (E != 0) = true := by simp [h0]
    go_wp2
    have hk := (HQ4.out.set_ 0 (.int .i64 0)).set_ 1 (.int .i64 0)
    have z0 := hk.cell 0
    have z1 := hk.cell 1
    simp at z0 z1
    refine bodyPost_ret (v := .tuple #[.agg #[.int .i64 0, .int .i64 0], .int .i64 E]) (by simp [results, Try.results15, go_sem, z0, z1]) rfl ⟨by rw [HUZ.out.1, HUZ.out.2], setCell_below (setCell_below HB1.out (by omega) 0 _) (by omega) 1 _⟩
set_option maxRecDepth 100000 in
set_option maxHeartbeats 1600000 in
theorem rFits_any (h7 : p.ok = true → p.n ≤ 7) (h40 : fl ≤ 40) (q : Int) (w : World) (hP : PressIn w w.heap.size fa fl low top bales wa wl p) :
    Calls Try.prog 17 #[pressV fa fl fc low top bales wa wl wc, .int .i64 q] w fun e w' => e = .returned (.tuple #[.int .i64 (if setE p q = 0 then p.fits q.toNat else 0), .int .i64 (setE p q)]) ∧ Below w.heap.size w w' := by
  have HP := Lib.hid hP
  have H7 := Lib.hid h7
  have HEN : Hid (p.n = fl) := hP.efl
  have HST : Hid (inB q 0 (full fl : Nat) = p.setB q) := by show _ = _; rw [PressD.setB, HEN.out]
  obtain ⟨E, hE⟩ : ∃ E, setE p q = E := ⟨_, rfl⟩
  have HE := Lib.hid hE
  obtain ⟨U, hU⟩ : ∃ v, (if setE p q = 0 then p.fits q.toNat else 0) = v := ⟨_, rfl⟩
  have HU := Lib.hid hU
  rw [hU, hE]
  clear hP h7 hE hU
  unfold pressV
  go_enter Try.func17, Try.ntmps17
  go_upto_region 1 with fail
  obtain ⟨W, hW⟩ : ∃ W, W = w.alloc (Obj.cells #[Value.slice fa fl fc, Value.int IntKind.i64 low, Value.int IntKind.i64 top, Value.int IntKind.i64 bales, Value.slice wa wl wc] 25) := ⟨_, rfl⟩
  have HK2 : Hid (Blk W w.heap.size 25 #[Value.slice fa fl fc, Value.int IntKind.i64 low, Value.int IntKind.i64 top, Value.int IntKind.i64 bales, Value.slice wa wl wc]) := by rw [hW]; exact Blk.new w 25 _
  have HBW : Hid (Below w.heap.size w W) := by rw [hW]; exact (Below.refl _ _).alloc (Nat.le_refl _) _
  rw [← hW]
  clear hW
  obtain ⟨x0, x1, x2, x3, x4, xl⟩ := blk5 HK2.out
  refine wp_region_havoc [(0,false),(1,false),(2,false),(3,false),(4,false),(5,false)] [] (fun _ _ => False) (by kernel_rfl) (by kernel_rfl) (fun _ _ _ _ h => h.elim) ?_
  (apply hav_same (by simp only [List.getElem?_toArray, List.getElem?_cons_zero]; rfl) (by kernel_rfl); (focus (intro wv hgv _; have hcv : ∀ b o, b < _ → wv.cell? ⟨b, o, none⟩ = _ := fun b o hb => Below.cell hgv (p := ⟨b, o, none⟩) hb; (try go_simp); try rfl; done)); simp only [Act.put, List.setIfInBounds_toArray, List.set_cons_succ, List.set_cons_zero])
  iterate 2 (apply hav_same (by simp only [List.getElem?_toArray, List.getElem?_cons_succ, List.getElem?_cons_zero]; rfl) (by kernel_rfl); (focus (intro wv hgv _; have hcv : ∀ b o, b < _ → wv.cell? ⟨b, o, none⟩ = _ := fun b o hb => Below.cell hgv (p := ⟨b, o, none⟩) hb; (try go_simp); try rfl; done)); simp only [Act.put, List.setIfInBounds_toArray, List.set_cons_succ, List.set_cons_zero])
  (apply hav_call (by simp only [List.getElem?_toArray, List.getElem?_cons_succ, List.getElem?_cons_zero]; rfl) (by kernel_rfl); (focus (intro wv; go_simp; try exact ⟨rfl, rfl⟩; done)); (focus (intro wv hgv _; have hq := rset_any (low := low) (top := top) (bales := bales) (fa := fa) (fc := fc) (wa := wa) (wl := wl) (wc := wc) h40 q wv; rw [HST.out] at hq; exact hq; done)); simp only [Act.put, List.setIfInBounds_toArray, List.set_cons_succ, List.set_cons_zero])
  (apply hav_call (by simp only [List.getElem?_toArray, List.getElem?_cons_succ, List.getElem?_cons_zero]; rfl) (by kernel_rfl); (focus (intro wv; go_simp; try exact ⟨rfl, rfl⟩; done)); (focus (intro wv hgv _; have hq := check_any (p := p) (fc := fc) (wc := wc) H7.out (p.setB q) wv (by exact (HP.out.grow HBW.out).grow hgv); rw [chkE_set, HE.out] at hq; exact hq; done)); simp only [Act.put, List.setIfInBounds_toArray, List.set_cons_succ, List.set_cons_zero])
  (apply hav_same (by simp only [List.getElem?_toArray, List.getElem?_cons_succ, List.getElem?_cons_zero]; rfl) (by kernel_rfl); (focus (intro wv hgv _; have hcv : ∀ b o, b < _ → wv.cell? ⟨b, o, none⟩ = _ := fun b o hb => Below.cell hgv (p := ⟨b, o, none⟩) hb; (try go_simp); try rfl; done)); simp only [Act.put, List.setIfInBounds_toArray, List.set_cons_succ, List.set_cons_zero])
  refine hav_end (fun w1 hgw1 _ => ?_); simp only [List.filterMap]; have hcw1 : ∀ b o, b < _ → w1.cell? ⟨b, o, none⟩ = _ := fun b o hb => Below.cell hgw1 (p := ⟨b, o, none⟩) hb; have hfw1 : ∀ b o, b < _ → w1.frozen? ⟨b, o, none⟩ = _ := fun b o hb => Below.frozen hgw1 (p := ⟨b, o, none⟩) hb; have hzw1 := Below.size hgw1; (try simp at hzw1)
  have HQ2 := Lib.hid (HK2.out.below hgw1 xl)
  have HB1 : Hid (Below w.heap.size w w1) := HBW.out.trans (hgw1.mono HBW.out.size)
  clear hgw1 hcw1 hfw1 x0 x1 x2 x3 x4 xl
  obtain ⟨x0, x1, x2, x3, x4, xl⟩ := blk5 HQ2.out
  by_cases h0 : E = 0
  · subst h0
    obtain ⟨k1, k2, k3, k4⟩ := setE_zero HE.out
    have HUW : Hid (p.fits q.toNat = U) := by
      have h := HU.out
      rw [if_pos HE.out] at h
      exact h
    obtain ⟨s, hs⟩ : ∃ s, q.toNat = s := ⟨_, rfl⟩
    rw [hs] at k3 k4 HUW
    subst k3
    clear hs
    go_wp2_with fail
    refine (rfits_any (p := p) k1 k2 (H7.out k1) s k4 _ (by exact HP.out.grow HB1.out)).mono ?_
    rw [HUW.out]
    rintro e w2 ⟨rfl, hb2⟩
    have HB2 : Hid (Below w.heap.size w w2) := HB1.out.trans (hb2.mono HB1.out.size)
    clear hb2 x0 x1 x2 x3 x4 xl
    go_wp2
    go_ret2
    exact ⟨rfl, HB2.out⟩
  · have HUZ : Hid (U = 0) := by
      have h := HU.out
      rw [if_neg (by rw [HE.out]; exact h0)] at h
      exact h.symm
    have hne : (E != 0) = true := by simp [h0]
    go_wp2
    go_ret2
    exact ⟨by rw [HUZ.out]; rfl, HB1.out⟩
set_option maxRecDepth 100000 in
set_option maxHeartbeats 1600000 in
theorem rFalse_any (h7 : p.ok = true → p.n ≤ 7) (w : World) (hP : PressIn w w.heap.size fa fl low top bales wa wl p) :
    Calls Try.prog 21 #[pressV fa fl fc low top bales wa wl wc] w fun e w' => e = .returned (falseR p) ∧ Below w.heap.size w w' := by
  have HP := Lib.hid hP
  have H7 := Lib.hid h7
  obtain ⟨R, hR⟩ : ∃ R, falseR p = R := ⟨_, rfl⟩
  rw [hR]
  have HR := Lib.hid hR
  clear hP h7 hR
  unfold pressV
  go_enter Try.func21, Try.ntmps21
  go_wp2_with fail
  have HBA : Hid (Below w.heap.size w (w.alloc (Obj.cells #[Value.slice fa fl fc, Value.int IntKind.i64 low, Value.int IntKind.i64 top, Value.int IntKind.i64 bales, Value.slice wa wl wc] 25))) := (Below.refl _ _).alloc (Nat.le_refl _) _
  refine (rpress_any (p := p) _ (by exact HP.out.grow HBA.out)).mono ?_
  rintro e w1 ⟨rfl, hb1⟩
  have HX : Hid (Blk w1 w.heap.size 25 #[Value.slice fa fl fc, Value.int IntKind.i64 low, Value.int IntKind.i64 top, Value.int IntKind.i64 bales, Value.slice wa wl wc]) := (Blk.new w 25 _).below hb1 (by simp)
  have HB1 : Hid (Below w.heap.size w w1) := HBA.out.trans (hb1.mono (by simp))
  clear hb1
  obtain ⟨x0, x1, x2, x3, x4, xl⟩ := blk5 HX.out
  cases hv : p.ok
  · have HR1 : Hid (R = .tuple #[.int .i64 0, .int .i64 1]) := by show _ = _; rw [← HR.out, falseR, if_pos hv]
    clear hv
    go_wp2
    go_ret2
    exact ⟨by rw [HR1.out]; rfl, HB1.out⟩
  · have HV := Lib.hid hv
    clear hv
    go_wp2_with fail
    refine (rwrong_any (p := p) HV.out (H7.out HV.out) _ (by exact HP.out.grow HB1.out)).mono ?_
    rintro e w2 ⟨rfl, hb2⟩
    have HX2 := Lib.hid (HX.out.below hb2 HX.out.lt)
    have HB2 : Hid (Below w.heap.size w w2) := HB1.out.trans (hb2.mono HB1.out.size)
    clear hb2 x0 x1 x2 x3 x4 xl
    obtain ⟨x0, x1, x2, x3, x4, xl⟩ := blk5 HX2.out
    obtain ⟨G, HG⟩ : ∃ G, Hid (p.wrong = G) := ⟨_, rfl⟩
    rw [HG.out]
    by_cases hw : G = 0
    · have HR1 : Hid (R = .tuple #[.int .i64 0, .int .i64 4]) := by show _ = _; rw [← HR.out, falseR, if_neg (by rw [HV.out]; simp), if_pos (by rw [HG.out]; exact hw)]
      subst hw
      go_wp2
      go_ret2
      exact ⟨by rw [HR1.out]; rfl, HB2.out⟩
    · have HR1 : Hid (R = .tuple #[.int .i64 (G : Nat), .int .i64 0]) := by show _ = _; rw [← HR.out, falseR, if_neg (by rw [HV.out]; simp), if_neg (by rw [HG.out]; exact hw), HG.out]
      have hne : ((G : Int) == 0) = false := by simp; omega
      go_wp2_with fail
      refine (rwrong_any (p := p) HV.out (H7.out HV.out) _ (by exact HP.out.grow HB2.out)).mono ?_
      rw [HG.out]
      rintro e w3 ⟨rfl, hb3⟩
      have HB3 : Hid (Below w.heap.size w w3) := HB2.out.trans (hb3.mono HB2.out.size)
      clear hb3 x0 x1 x2 x3 x4 xl
      go_wp2
      go_ret2
      exact ⟨by rw [HR1.out]; rfl, HB3.out⟩
set_option maxRecDepth 100000 in
set_option maxHeartbeats 6400000 in
theorem rAdd_any (h7 : p.ok = true → p.n ≤ 7) (h40 : fl ≤ 40) (q : Int) (w : World) (hP : PressIn w w.heap.size fa fl low top bales wa wl p) :
    Calls Try.prog 19 #[pressV fa fl fc low top bales wa wl wc, .int .i64 q] w fun e w' => e = .returned (addR p q) ∧ Below w.heap.size w w' := by
  have HP := Lib.hid hP
  have H7 := Lib.hid h7
  have HEN : Hid (p.n = fl) := hP.efl
  have HST : Hid (inB q 0 (full fl : Nat) = p.setB q) := by show _ = _; rw [PressD.setB, HEN.out]
  obtain ⟨E, hE⟩ : ∃ E, setE p q = E := ⟨_, rfl⟩
  have HE := Lib.hid hE
  obtain ⟨R, hR⟩ : ∃ v, addR p q = v := ⟨_, rfl⟩
  have HR := Lib.hid hR
  rw [hR]
  clear hP h7 hE hR
  unfold pressV
  go_enter Try.func19, Try.ntmps19
  go_upto_region 1 with fail
  obtain ⟨W, hW⟩ : ∃ W, W = w.alloc (Obj.cells #[Value.slice fa fl fc, Value.int IntKind.i64 low, Value.int IntKind.i64 top, Value.int IntKind.i64 bales, Value.slice wa wl wc] 25) := ⟨_, rfl⟩
  have HK2 : Hid (Blk W w.heap.size 25 #[Value.slice fa fl fc, Value.int IntKind.i64 low, Value.int IntKind.i64 top, Value.int IntKind.i64 bales, Value.slice wa wl wc]) := by rw [hW]; exact Blk.new w 25 _
  have HBW : Hid (Below w.heap.size w W) := by rw [hW]; exact (Below.refl _ _).alloc (Nat.le_refl _) _
  rw [← hW]
  clear hW
  obtain ⟨x0, x1, x2, x3, x4, xl⟩ := blk5 HK2.out
  refine wp_region_havoc [(0,false),(1,false),(2,false),(3,false),(4,false),(5,false)] [] (fun _ _ => False) (by kernel_rfl) (by kernel_rfl) (fun _ _ _ _ h => h.elim) ?_
  (apply hav_same (by simp only [List.getElem?_toArray, List.getElem?_cons_zero]; rfl) (by kernel_rfl); (focus (intro wv hgv _; have hcv : ∀ b o, b < _ → wv.cell? ⟨b, o, none⟩ = _ := fun b o hb => Below.cell hgv (p := ⟨b, o, none⟩) hb; (try go_simp); try rfl; done)); simp only [Act.put, List.setIfInBounds_toArray, List.set_cons_succ, List.set_cons_zero])
  iterate 2 (apply hav_same (by simp only [List.getElem?_toArray, List.getElem?_cons_succ, List.getElem?_cons_zero]; rfl) (by kernel_rfl); (focus (intro wv hgv _; have hcv : ∀ b o, b < _ → wv.cell? ⟨b, o, none⟩ = _ := fun b o hb => Below.cell hgv (p := ⟨b, o, none⟩) hb; (try go_simp); try rfl; done)); simp only [Act.put, List.setIfInBounds_toArray, List.set_cons_succ, List.set_cons_zero])
  (apply hav_call (by simp only [List.getElem?_toArray, List.getElem?_cons_succ, List.getElem?_cons_zero]; rfl) (by kernel_rfl); (focus (intro wv; go_simp; try exact ⟨rfl, rfl⟩; done)); (focus (intro wv hgv _; have hq := rset_any (low := low) (top := top) (bales := bales) (fa := fa) (fc := fc) (wa := wa) (wl := wl) (wc := wc) h40 q wv; rw [HST.out] at hq; exact hq; done)); simp only [Act.put, List.setIfInBounds_toArray, List.set_cons_succ, List.set_cons_zero])
  (apply hav_call (by simp only [List.getElem?_toArray, List.getElem?_cons_succ, List.getElem?_cons_zero]; rfl) (by kernel_rfl); (focus (intro wv; go_simp; try exact ⟨rfl, rfl⟩; done)); (focus (intro wv hgv _; have hq := check_any (p := p) (fc := fc) (wc := wc) H7.out (p.setB q) wv (by exact (HP.out.grow HBW.out).grow hgv); rw [chkE_set, HE.out] at hq; exact hq; done)); simp only [Act.put, List.setIfInBounds_toArray, List.set_cons_succ, List.set_cons_zero])
  (apply hav_same (by simp only [List.getElem?_toArray, List.getElem?_cons_succ, List.getElem?_cons_zero]; rfl) (by kernel_rfl); (focus (intro wv hgv _; have hcv : ∀ b o, b < _ → wv.cell? ⟨b, o, none⟩ = _ := fun b o hb => Below.cell hgv (p := ⟨b, o, none⟩) hb; (try go_simp); try rfl; done)); simp only [Act.put, List.setIfInBounds_toArray, List.set_cons_succ, List.set_cons_zero])
  refine hav_end (fun w1 hgw1 _ => ?_); simp only [List.filterMap]; have hcw1 : ∀ b o, b < _ → w1.cell? ⟨b, o, none⟩ = _ := fun b o hb => Below.cell hgw1 (p := ⟨b, o, none⟩) hb; have hfw1 : ∀ b o, b < _ → w1.frozen? ⟨b, o, none⟩ = _ := fun b o hb => Below.frozen hgw1 (p := ⟨b, o, none⟩) hb; have hzw1 := Below.size hgw1; (try simp at hzw1)
  have HQ2 := Lib.hid (HK2.out.below hgw1 xl)
  have HB1 : Hid (Below w.heap.size w w1) := HBW.out.trans (hgw1.mono HBW.out.size)
  clear hgw1 hcw1 hfw1 x0 x1 x2 x3 x4 xl
  by_cases h0 : E = 0
  · subst h0
    obtain ⟨k1, k2, k3, k4⟩ := setE_zero HE.out
    obtain ⟨s, hs⟩ : ∃ s, q.toNat = s := ⟨_, rfl⟩
    have HR2 : Hid (R = .tuple (if addI p s < 0 then #[.int .i64 0, .int .i64 4] else #[.int .i64 (addI p s), .int .i64 0])) := by show _ = _; rw [← HR.out, addR, if_pos HE.out, hs]
    rw [hs] at k3 k4
    subst k3
    have HV := Lib.hid k1
    have HW := Lib.hid k2
    have hf7 : fl ≤ 7 := by rw [← HEN.out]; exact H7.out k1
    have hs10 : s < 1024 := Nat.lt_of_lt_of_le k4 (PressD.n_pow k1)
    have HS := Lib.hid k4
    clear hs k1 k2 k4
    go_wp2
    go_loopw [7] (fun i wr => ∃ k : Nat, k ≤ fl ∧ i = .int .i64 k ∧ Hid (∀ j, j < k → addB p s j = false) ∧ Below w1.heap.size w1 wr) (fun i _ => fl - (intOf i).toNat)
    case atStart => exact ⟨0, Nat.zero_le _, rfl, fun j hj => by omega, Below.refl _ _⟩
    case round =>
      obtain ⟨k, hk, rfl, HJ, hb⟩ := hrel
      have HB := Lib.hid hb
      clear hb
      obtain ⟨x0, x1, x2, x3, x4, xl⟩ := blk5 (HQ2.out.below HB.out HQ2.out.lt)
      have HBT : Hid (Below w.heap.size w wr) := HB1.out.trans (HB.out.mono HB1.out.size)
      by_cases hlt : k < fl
      · cases hbit : s.testBit k
        · have h2k : 2 ^ k < 2 ^ p.n := Nat.pow_lt_pow_right (by omega) (by rw [HEN.out]; exact hlt)
          have hsum : s ||| 2 ^ k = s + 2 ^ k := or_add (and_zero_iff.2 fun i ⟨a, b⟩ => by
            rw [Nat.testBit_two_pow] at b
            have : k = i := by simpa using b
            subst this
            rw [hbit] at a; cases a) (by omega) (by have := PressD.n_pow HV.out; omega)
          obtain ⟨z, hz⟩ : ∃ z, s ||| 2 ^ k = z := ⟨_, rfl⟩
          have hzn : z < 2 ^ p.n := by rw [← hz]; exact Nat.or_lt_two_pow HS.out h2k
          have hz10 : z < 1024 := Nat.lt_of_lt_of_le hzn (PressD.n_pow HV.out)
          have hzi : (s : Int) + 2 ^ k = (z : Int) := by rw [← hz, hsum]; simp
          have hwr : IntKind.i64.wrap ((s : Int) + 2 ^ k) = (z : Int) := by rw [hzi]; exact wrap_i64 (by omega) (by omega)
          obtain ⟨F, hF⟩ : ∃ F, p.fits z = F := ⟨_, rfl⟩
          have hf2 := fits_sure p z
          rw [hF] at hf2
          have HAB : Hid (addB p s k = (F == 2)) := by show _ = _; rw [addB, hbit, hz, hf2]; rfl
          have HF := Lib.hid hF
          have HZ := Lib.hid hzn
          clear hf2 hF hzn hz hsum h2k hzi
          go_upto_region 7 with fail
          refine wp_region_havoc [(0,false),(1,false),(2,false),(3,false),(4,false),(5,false),(6,false),(7,false),(8,false),(9,false),(10,false),(11,false),(12,false)] [] (fun _ _ => False) (by kernel_rfl) (by kernel_rfl) (fun _ _ _ _ h => h.elim) ?_
          (apply hav_same (by simp only [List.getElem?_toArray, List.getElem?_cons_zero]; rfl) (by kernel_rfl); (focus (intro wv hgv _; have hcv : ∀ b o, b < _ → wv.cell? ⟨b, o, none⟩ = _ := fun b o hb => Below.cell hgv (p := ⟨b, o, none⟩) hb; (try go_simp); try rfl; done)); simp only [Act.put, List.setIfInBounds_toArray, List.set_cons_succ, List.set_cons_zero])
          (apply hav_same (by simp only [List.getElem?_toArray, List.getElem?_cons_succ, List.getElem?_cons_zero]; rfl) (by kernel_rfl); (focus (intro wv hgv _; have hcv : ∀ b o, b < _ → wv.cell? ⟨b, o, none⟩ = _ := fun b o hb => Below.cell hgv (p := ⟨b, o, none⟩) hb; (try go_simp); try rfl; done)); simp only [Act.put, List.setIfInBounds_toArray, List.set_cons_succ, List.set_cons_zero])
          (apply hav_call (by simp only [List.getElem?_toArray, List.getElem?_cons_succ, List.getElem?_cons_zero]; rfl) (by kernel_rfl); (focus (intro wv; go_simp; try exact ⟨rfl, rfl⟩; done)); (focus (intro wv hgv _; have hq := has_any s k (by omega) (by omega) wv; rw [hbit] at hq; exact hq.mono fun e w' h => ⟨h.1, by rw [h.2]; exact Below.refl _ _⟩; done)); simp only [Act.put, List.setIfInBounds_toArray, List.set_cons_succ, List.set_cons_zero])
          iterate 5 (apply hav_same (by simp only [List.getElem?_toArray, List.getElem?_cons_succ, List.getElem?_cons_zero]; rfl) (by kernel_rfl); (focus (intro wv hgv _; have hcv : ∀ b o, b < _ → wv.cell? ⟨b, o, none⟩ = _ := fun b o hb => Below.cell hgv (p := ⟨b, o, none⟩) hb; (try go_simp); try rfl; done)); simp only [Act.put, List.setIfInBounds_toArray, List.set_cons_succ, List.set_cons_zero])
          (apply hav_call (by simp only [List.getElem?_toArray, List.getElem?_cons_succ, List.getElem?_cons_zero]; rfl) (by kernel_rfl); (focus (intro wv; go_simp; try exact ⟨rfl, rfl⟩; done)); (focus (intro wv hgv _; exact (power_any k (by omega) wv).mono fun e w' h => ⟨h.1, by rw [h.2]; exact Below.refl _ _⟩; done)); simp only [Act.put, List.setIfInBounds_toArray, List.set_cons_succ, List.set_cons_zero])
          (apply hav_same (by simp only [List.getElem?_toArray, List.getElem?_cons_succ, List.getElem?_cons_zero]; rfl) (by kernel_rfl); (focus (intro wv hgv _; have hcv : ∀ b o, b < _ → wv.cell? ⟨b, o, none⟩ = _ := fun b o hb => Below.cell hgv (p := ⟨b, o, none⟩) hb; (try go_simp); try rfl; done)); simp only [Act.put, List.setIfInBounds_toArray, List.set_cons_succ, List.set_cons_zero])
          (apply hav_call (by simp only [List.getElem?_toArray, List.getElem?_cons_succ, List.getElem?_cons_zero]; rfl) (by kernel_rfl); (focus (intro wv; go_simp; try exact ⟨rfl, rfl⟩; done)); (focus (intro wv hgv _; have hq := rfits_any (p := p) (fc := fc) (wc := wc) HV.out HW.out (H7.out HV.out) z HZ.out wv (by exact (HP.out.grow HBT.out).grow hgv); rw [HF.out] at hq; exact hq; done)); simp only [Act.put, List.setIfInBounds_toArray, List.set_cons_succ, List.set_cons_zero])
          iterate 2 (apply hav_same (by simp only [List.getElem?_toArray, List.getElem?_cons_succ, List.getElem?_cons_zero]; rfl) (by kernel_rfl); (focus (intro wv hgv _; have hcv : ∀ b o, b < _ → wv.cell? ⟨b, o, none⟩ = _ := fun b o hb => Below.cell hgv (p := ⟨b, o, none⟩) hb; (try go_simp); try rfl; done)); simp only [Act.put, List.setIfInBounds_toArray, List.set_cons_succ, List.set_cons_zero])
          refine hav_end (fun w2 hgw2 _ => ?_); simp only [List.filterMap]; have hcw2 : ∀ b o, b < _ → w2.cell? ⟨b, o, none⟩ = _ := fun b o hb => Below.cell hgw2 (p := ⟨b, o, none⟩) hb; have hfw2 : ∀ b o, b < _ → w2.frozen? ⟨b, o, none⟩ = _ := fun b o hb => Below.frozen hgw2 (p := ⟨b, o, none⟩) hb; have hzw2 := Below.size hgw2; (try simp at hzw2)
          have HB2 : Hid (Below w1.heap.size w1 w2) := HB.out.trans (hgw2.mono HB.out.size)
          clear hgw2 hcw2 hfw2 x0 x1 x2 x3 x4 xl hwr hbit
          cases h2 : F == 2
          · rw [h2] at HAB
            have HJ2 : Hid (∀ j, j < k + 1 → addB p s j = false) := fun j hj => by
              by_cases e : j = k
              · subst e; exact HAB.out
              · exact HJ.out j (by omega)
            go_wp2
            go_roundw
            case rel => exact ⟨k + 1, by omega, by go_num, HJ2, HB2.out⟩
            case measure => simp [intOf]; omega
          · rw [h2] at HAB
            have hai := addI_some (p := p) (s := s) (k := k) (by rw [HEN.out]; exact hlt) HJ.out HAB.out
            have HR3 : Hid (R = .tuple #[.int .i64 k, .int .i64 0]) := by show _ = _; rw [HR2.out, hai, if_neg (by omega)]
            clear hai
            go_wp2
            go_ret2
            exact ⟨by rw [HR3.out]; rfl, HB1.out.trans (HB2.out.mono HB1.out.size)⟩
        · have HJ2 : Hid (∀ j, j < k + 1 → addB p s j = false) := fun j hj => by
            by_cases e : j = k
            · subst e; rw [addB, hbit]; rfl
            · exact HJ.out j (by omega)
          go_upto_region 7 with fail
          refine wp_region_havoc [(0,false),(1,false),(2,false),(3,false),(4,false),(5,false),(6,false),(7,false),(8,false),(9,false),(10,false),(11,false),(12,false)] [] (fun _ _ => False) (by kernel_rfl) (by kernel_rfl) (fun _ _ _ _ h => h.elim) ?_
          (apply hav_same (by simp only [List.getElem?_toArray, List.getElem?_cons_zero]; rfl) (by kernel_rfl); (focus (intro wv hgv _; have hcv : ∀ b o, b < _ → wv.cell? ⟨b, o, none⟩ = _ := fun b o hb => Below.cell hgv (p := ⟨b, o, none⟩) hb; (try go_simp); try rfl; done)); simp only [Act.put, List.setIfInBounds_toArray, List.set_cons_succ, List.set_cons_zero])
          (apply hav_same (by simp only [List.getElem?_toArray, List.getElem?_cons_succ, List.getElem?_cons_zero]; rfl) (by kernel_rfl); (focus (intro wv hgv _; have hcv : ∀ b o, b < _ → wv.cell? ⟨b, o, none⟩ = _ := fun b o hb => Below.cell hgv (p := ⟨b, o, none⟩) hb; (try go_simp); try rfl; done)); simp only [Act.put, List.setIfInBounds_toArray, List.set_cons_succ, List.set_cons_zero])
          (apply hav_call (by simp only [List.getElem?_toArray, List.getElem?_cons_succ, List.getElem?_cons_zero]; rfl) (by kernel_rfl); (focus (intro wv; go_simp; try exact ⟨rfl, rfl⟩; done)); (focus (intro wv hgv _; have hq := has_any s k (by omega) (by omega) wv; rw [hbit] at hq; exact hq.mono fun e w' h => ⟨h.1, by rw [h.2]; exact Below.refl _ _⟩; done)); simp only [Act.put, List.setIfInBounds_toArray, List.set_cons_succ, List.set_cons_zero])
          iterate 2 (apply hav_same (by simp only [List.getElem?_toArray, List.getElem?_cons_succ, List.getElem?_cons_zero]; rfl) (by kernel_rfl); (focus (intro wv hgv _; have hcv : ∀ b o, b < _ → wv.cell? ⟨b, o, none⟩ = _ := fun b o hb => Below.cell hgv (p := ⟨b, o, none⟩) hb; (try go_simp); try rfl; done)); simp only [Act.put, List.setIfInBounds_toArray, List.set_cons_succ, List.set_cons_zero])
          iterate 7 (refine hav_skip (by simp only [List.getElem?_toArray, List.getElem?_cons_succ, List.getElem?_cons_zero]; rfl) (by kernel_rfl) ?_; simp only [Act.put, List.setIfInBounds_toArray, List.set_cons_succ, List.set_cons_zero])
          (apply hav_same (by simp only [List.getElem?_toArray, List.getElem?_cons_succ, List.getElem?_cons_zero]; rfl) (by kernel_rfl); (focus (intro wv hgv _; have hcv : ∀ b o, b < _ → wv.cell? ⟨b, o, none⟩ = _ := fun b o hb => Below.cell hgv (p := ⟨b, o, none⟩) hb; (try go_simp); try rfl; done)); simp only [Act.put, List.setIfInBounds_toArray, List.set_cons_succ, List.set_cons_zero])
          refine hav_end (fun w2 hgw2 _ => ?_); simp only [List.filterMap]; have hcw2 : ∀ b o, b < _ → w2.cell? ⟨b, o, none⟩ = _ := fun b o hb => Below.cell hgw2 (p := ⟨b, o, none⟩) hb; have hfw2 : ∀ b o, b < _ → w2.frozen? ⟨b, o, none⟩ = _ := fun b o hb => Below.frozen hgw2 (p := ⟨b, o, none⟩) hb; have hzw2 := Below.size hgw2; (try simp at hzw2)
          have HB2 : Hid (Below w1.heap.size w1 w2) := HB.out.trans (hgw2.mono HB.out.size)
          clear hgw2 hcw2 hfw2 x0 x1 x2 x3 x4 xl hbit
          go_wp2
          go_roundw
          case rel => exact ⟨k + 1, by omega, by go_num, HJ2, HB2.out⟩
          case measure => simp [intOf]; omega
      · obtain rfl : fl = k := by omega
        have hai := addI_none (p := p) (s := s) (fun j hj => HJ.out j (by rw [← HEN.out]; exact hj))
        have HR3 : Hid (R = .tuple #[.int .i64 0, .int .i64 4]) := by show _ = _; rw [HR2.out, hai, if_pos (by omega)]
        clear hai
        go_wp2
        go_ret2
        exact ⟨by rw [HR3.out]; rfl, HBT.out⟩
  · have HR2 : Hid (R = .tuple #[.int .i64 0, .int .i64 E]) := by show _ = _; rw [← HR.out, addR, if_neg (by rw [HE.out]; exact h0), HE.out]
    have hne : (E != 0) = true := by simp [h0]
    go_wp2
    go_ret2
    exact ⟨by rw [HR2.out]; rfl, HB1.out⟩
end
end Go.Proofs.Ytbfjebglaimcmaa
