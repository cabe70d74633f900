/- The walk of PressEnds: for every press it answers true; condition: a row that lies nowhere has no room. -/
import Derived.Test.YtbfjebglaimcmaaLawC
import Derived.Test.YtbfjebglaimcmaaPlain4
namespace Go.Proofs.Ytbfjebglaimcmaa
open Go.RowKit Go.Hav
section
variable {low top bales : Int} {fa wa : Option Addr} {fl fc wl wp : Nat} {p : PressD}
set_option maxRecDepth 100000 in
set_option maxHeartbeats 6400000 in
theorem PressEnds_any (m : Nat) (hm : m ≤ 65535) (w : World) (hP : PressIn w w.heap.size fa fl low top bales wa wl p) :
    Calls Try.prog 6 #[pressV fa fl fc low top bales wa wl wp, .int .u16 m] w fun e w' => e = .returned (.bool true) ∧ Below w.heap.size w w' := by
  have HP := Lib.hid hP
  have HEQ : Hid (p.n = fl ∧ p.low = low ∧ p.top = top) := ⟨hP.efl, hP.elow, hP.etop⟩
  have HEW : Hid (p.weighed.length = wl) := hP.ewl
  clear hP
  unfold pressV
  go_enter Try.func6, Try.ntmps6
  go_wp2_with fail
  obtain ⟨W, hW⟩ : ∃ W, W = w.alloc (Obj.cells #[Value.slice fa fl fc, Value.int IntKind.i64 low, Value.int IntKind.i64 top, Value.int IntKind.i64 bales, Value.slice wa wl wp] 25) := ⟨_, rfl⟩
  have HX : Hid (Blk W w.heap.size 25 #[Value.slice fa fl fc, Value.int IntKind.i64 low, Value.int IntKind.i64 top, Value.int IntKind.i64 bales, Value.slice wa wl wp]) := by rw [hW]; exact Blk.new w 25 _
  have HBW : Hid (Below w.heap.size w W) := by rw [hW]; exact (Below.refl _ _).alloc (Nat.le_refl _) _
  rw [← hW]
  clear hW
  have HPW : Hid (PressIn W W.heap.size fa fl low top bales wa wl p) := HP.out.grow HBW.out
  have HWT : Hid (∀ (q : Int) (wv : World), Below W.heap.size W wv → Calls Try.prog 14 #[.agg #[.slice fa fl fc, .int .i64 low, .int .i64 top, .int .i64 bales, .slice wa wl wp], .int .i64 q] wv fun e w' => e = .returned (.tuple #[spV (weightR p q), .int .i64 (setE p q)]) ∧ Below wv.heap.size wv w') :=
    fun q wv hb => PWeight_any (p := p) q wv (by exact HPW.out.grow hb)
  have HFT : Hid (∀ (q : Int) (wv : World), Below W.heap.size W wv → Calls Try.prog 16 #[.agg #[.slice fa fl fc, .int .i64 low, .int .i64 top, .int .i64 bales, .slice wa wl wp], .int .i64 q] wv fun e w' => e = .returned (.tuple #[.int .i64 (if setE p q = 0 then p.fits q.toNat else 0), .int .i64 (setE p q)]) ∧ Below wv.heap.size wv w') :=
    fun q wv hb => PFits_any (p := p) q wv (by exact HPW.out.grow hb)
  have HAD : Hid (∀ (q : Int) (wv : World), Below W.heap.size W wv → Calls Try.prog 18 #[.agg #[.slice fa fl fc, .int .i64 low, .int .i64 top, .int .i64 bales, .slice wa wl wp], .int .i64 q] wv fun e w' => e = .returned (addR p q) ∧ Below wv.heap.size wv w') :=
    fun q wv hb => PAdd_any (p := p) q wv (by exact HPW.out.grow hb)
  have HFA : Hid (∀ (wv : World), Below W.heap.size W wv → Calls Try.prog 20 #[.agg #[.slice fa fl fc, .int .i64 low, .int .i64 top, .int .i64 bales, .slice wa wl wp]] wv fun e w' => e = .returned (falseR p) ∧ Below wv.heap.size wv w') :=
    fun wv hb => PFalse_any (p := p) wv (by exact HPW.out.grow hb)
  have HEV : Hid (fl ≤ 40 → ∀ wv : World, Calls Try.prog 31 #[.agg #[.slice fa fl fc, .int .i64 low, .int .i64 top, .int .i64 bales, .slice wa wl wp]] wv fun e w' => e = .returned (.int .i64 (full fl : Nat)) ∧ Below wv.heap.size wv w') :=
    fun h wv => every_any (low := low) (top := top) (bales := bales) (fa := fa) (fc := fc) (wa := wa) (wl := wl) (wc := wp) h wv
  have HML : Hid (fl ≤ 9223372036854775807 ∧ wl ≤ 9223372036854775807) := ⟨HPW.out.mfl, HPW.out.mwl⟩
  refine (far_any (low := low) (top := top) (bales := bales) (fa := fa) (fc := fc) (wa := wa) (wc := wp) W HML.out.1 HML.out.2).mono ?_
  rintro e v1 ⟨⟨b, rfl, hb⟩, hb1⟩
  have HC1 := Lib.hid hb1
  clear hb1
  cases b
  case true =>
    clear hb
    go_wp2_with fail
    refine (awake_any _).mono ?_
    rintro e v2 ⟨rfl, hb2⟩
    go_wp2
    go_ret
    exact ⟨rfl, HBW.out.trans ((HC1.out.trans (hb2.mono HC1.out.size)).mono HBW.out.size)⟩
  obtain ⟨h40, h41⟩ := hb rfl
  clear hb
  have hx1 := HX.out.below (HC1.out) HX.out.lt
  have x1_0 := hx1.cell 0
  have x1_1 := hx1.cell 1
  have x1_2 := hx1.cell 2
  have x1_3 := hx1.cell 3
  have x1_4 := hx1.cell 4
  simp at x1_0 x1_1 x1_2 x1_3 x1_4
  have l1 := hx1.lt
  clear hx1
  go_wp2_with fail
  refine (rpress_any (p := p) v1 (by exact HPW.out.grow HC1.out)).mono ?_
  rintro e v2 ⟨rfl, hb2⟩
  have HC2 : Hid (Below W.heap.size W v2) := HC1.out.trans (hb2.mono HC1.out.size)
  clear hb2
  clear x1_0 x1_1 x1_2 x1_3 x1_4 l1
  have hx2 := HX.out.below (HC2.out) HX.out.lt
  have x2_0 := hx2.cell 0
  have x2_1 := hx2.cell 1
  have x2_2 := hx2.cell 2
  have x2_3 := hx2.cell 3
  have x2_4 := hx2.cell 4
  simp at x2_0 x2_1 x2_2 x2_3 x2_4
  have l2 := hx2.lt
  clear hx2
  cases hv : p.ok
  · have HSE : Hid (setE p 0 = 1) := by show _ = _; rw [setE_bad (.inl hv), hv]; rfl
    have HWZ : Hid (weightR p 0 = ⟨0, 0⟩) := by show _ = _; rw [weightR, HSE.out]; rfl
    have HFR : Hid (falseR p = .tuple #[.int .i64 0, .int .i64 1]) := by show _ = _; rw [falseR, if_pos hv]
    clear hv
    go_wp2_with fail
    refine (HWT.out 0 v2 HC2.out).mono ?_
    rw [HSE.out, HWZ.out]
    unfold spV
    rintro e v3 ⟨rfl, hb3⟩
    have HC3 : Hid (Below W.heap.size W v3) := HC2.out.trans (hb3.mono HC2.out.size)
    have hs3 := HC3.out.size
    obtain ⟨V3, hV3⟩ : ∃ V, V = v3.alloc (.cells #[.int .i64 0, .int .i64 0] 29) := ⟨_, rfl⟩
    have HS3 : Hid (Blk V3 v3.heap.size 29 #[.int .i64 0, .int .i64 0]) := by rw [hV3]; exact Blk.new v3 29 _
    have HD3 : Hid (Below W.heap.size W V3) := by rw [hV3]; exact HC3.out.alloc hs3 _
    clear hb3
    clear x2_0 x2_1 x2_2 x2_3 x2_4 l2
    have hx3 := HX.out.below (HC3.out) HX.out.lt
    have x3_0 := hx3.cell 0
    have x3_1 := hx3.cell 1
    have x3_2 := hx3.cell 2
    have x3_3 := hx3.cell 3
    have x3_4 := hx3.cell 4
    simp at x3_0 x3_1 x3_2 x3_3 x3_4
    have l3 := hx3.lt
    clear hx3
    go_upto_region 5 with fail
    rw [← hV3]
    clear hV3
    clear x3_0 x3_1 x3_2 x3_3 x3_4 l3
    have hx4 := HX.out.below (HD3.out) HX.out.lt
    have x4_0 := hx4.cell 0
    have x4_1 := hx4.cell 1
    have x4_2 := hx4.cell 2
    have x4_3 := hx4.cell 3
    have x4_4 := hx4.cell 4
    simp at x4_0 x4_1 x4_2 x4_3 x4_4
    have l4 := hx4.lt
    clear hx4
    go_wp2_with fail
    refine (HFA.out V3 HD3.out).mono ?_
    rw [HFR.out]
    rintro e v4 ⟨rfl, hb4⟩
    have HC4 : Hid (Below W.heap.size W v4) := HD3.out.trans (hb4.mono HD3.out.size)
    have hk4 := HS3.out.below hb4 HS3.out.lt
    have y0 := hk4.cell 0
    have y1 := hk4.cell 1
    have ly := hk4.lt
    simp at y0 y1
    clear hb4 hk4
    clear x4_0 x4_1 x4_2 x4_3 x4_4 l4
    go_wp2_with fail
    refine (awake_any _).mono ?_
    rintro e v5 ⟨rfl, hb5⟩
    go_wp2
    go_ret
    exact ⟨rfl, HBW.out.trans ((HC4.out.trans (hb5.mono HC4.out.size)).mono HBW.out.size)⟩
  have hn10 : fl ≤ 10 := by have := (PressD.ok_head hv).1; rw [HEQ.out.1] at this; exact this
  have hwl4 : wl ≤ 4 := by have := (PressD.ok_head hv).2.2.2.2.2.2; rw [HEW.out] at this; exact this
  have HV := Lib.hid hv
  have hfull : full fl ≤ 1023 := by
    unfold full
    have h := Nat.pow_le_pow_right (n := 2) (by omega) hn10
    omega
  have hw1 : IntKind.i64.wrap (((full fl : Nat) : Int) + 1) = ((full fl : Nat) : Int) + 1 := wrap_i64 (by omega) (by omega)
  have HAND : Hid (bits BinOp.and IntKind.i64 (m : Int) ((full fl : Nat) : Int) = ((m &&& full fl : Nat) : Int)) := and_i64 m (full fl) (by omega) (by omega)
  obtain ⟨s, hs⟩ : ∃ s, m &&& full fl = s := ⟨_, rfl⟩
  rw [hs] at HAND
  have hsf : s ≤ full fl := by rw [← hs]; exact Nat.and_le_right
  have hs10 : s < 1024 := by omega
  have HSN : Hid (s ≤ full p.n) := by show _ ≤ _; rw [HEQ.out.1]; exact hsf
  have hset1 : p.setB (((full fl : Nat) : Int) + 1) = false := by
    rw [PressD.setB, HEQ.out.1]
    unfold inB
    simp
    omega
  have hset2 : p.setB (-1) = false := by
    rw [PressD.setB]
    unfold inB
    simp
  have HE1 : Hid (setE p (((full fl : Nat) : Int) + 1) = 2) := by show _ = _; rw [setE_bad (.inr hset1), hv]; rfl
  have HE2 : Hid (setE p (-1) = 2) := by show _ = _; rw [setE_bad (.inr hset2), hv]; rfl
  have HW1 : Hid (weightR p (((full fl : Nat) : Int) + 1) = ⟨0, 0⟩) := by show _ = _; rw [weightR, HE1.out]; rfl
  have HA1 : Hid (addR p (((full fl : Nat) : Int) + 1) = .tuple #[.int .i64 0, .int .i64 2]) := by show _ = _; rw [addR, HE1.out]; rfl
  clear hset1 hset2
  go_upto_region 7 with fail
  refine HavG.wp_region_havoc (R := GT v2.heap.size 29 (.int .i64 0) (.int .i64 0)) [(0,false),(1,false),(2,false),(3,false),(4,false),(5,false),(6,false),(7,false),(8,true),(9,true),(10,false)] [] (fun _ _ => False) (by kernel_rfl) (by kernel_rfl) (fun _ _ _ _ h => h.elim) ?_
  (apply HavG.hav_same (by simp only [List.getElem?_toArray, List.getElem?_cons_zero]; rfl) (by kernel_rfl); (focus (intro wv hgv _; have hcv : ∀ b o, b < _ → wv.cell? ⟨b, o, none⟩ = _ := fun b o hb => Below.cell hgv.1 (p := ⟨b, o, none⟩) hb; (try go_simp); try rfl; done)); simp only [Act.put, List.setIfInBounds_toArray, List.set_cons_succ, List.set_cons_zero])
  (apply HavG.hav_same (by simp only [List.getElem?_toArray, List.getElem?_cons_succ, List.getElem?_cons_zero]; rfl) (by kernel_rfl); (focus (intro wv hgv _; have hcv : ∀ b o, b < _ → wv.cell? ⟨b, o, none⟩ = _ := fun b o hb => Below.cell hgv.1 (p := ⟨b, o, none⟩) hb; (try go_simp); try rfl; done)); simp only [Act.put, List.setIfInBounds_toArray, List.set_cons_succ, List.set_cons_zero])
  (apply HavG.hav_call (by simp only [List.getElem?_toArray, List.getElem?_cons_succ, List.getElem?_cons_zero]; rfl) (by kernel_rfl); (focus (intro wv; go_simp; try exact ⟨rfl, rfl⟩; done)); (focus (intro wv hgv _; exact (HEV.out h40 wv).mono fun e w' h => ⟨h.1, GT.below hgv.1.size h.2⟩; done)); simp only [Act.put, List.setIfInBounds_toArray, List.set_cons_succ, List.set_cons_zero])
  (apply HavG.hav_same (by simp only [List.getElem?_toArray, List.getElem?_cons_succ, List.getElem?_cons_zero]; rfl) (by kernel_rfl); (focus (intro wv hgv _; have hcv : ∀ b o, b < _ → wv.cell? ⟨b, o, none⟩ = _ := fun b o hb => Below.cell hgv.1 (p := ⟨b, o, none⟩) hb; (try go_simp); try rfl; done)); simp only [Act.put, List.setIfInBounds_toArray, List.set_cons_succ, List.set_cons_zero])
  (apply HavG.hav_call (by simp only [List.getElem?_toArray, List.getElem?_cons_succ, List.getElem?_cons_zero]; rfl) (by kernel_rfl); (focus (intro wv; go_simp; try exact ⟨rfl, rfl⟩; done)); (focus (intro wv hgv _; have hq := HWT.out (((full fl : Nat) : Int) + 1) wv (HC2.out.trans (hgv.1.mono HC2.out.size)); rw [HE1.out, HW1.out] at hq; unfold spV at hq; exact hq.mono fun e w' h => ⟨h.1, GT.below hgv.1.size h.2⟩; done)); simp only [Act.put, List.setIfInBounds_toArray, List.set_cons_succ, List.set_cons_zero])
  iterate 3 (apply HavG.hav_same (by simp only [List.getElem?_toArray, List.getElem?_cons_succ, List.getElem?_cons_zero]; rfl) (by kernel_rfl); (focus (intro wv hgv _; have hcv : ∀ b o, b < _ → wv.cell? ⟨b, o, none⟩ = _ := fun b o hb => Below.cell hgv.1 (p := ⟨b, o, none⟩) hb; (try go_simp); try rfl; done)); simp only [Act.put, List.setIfInBounds_toArray, List.set_cons_succ, List.set_cons_zero])
  refine HavG.hav_val_ghost (PlaceT v2.heap.size 29) (by simp only [List.getElem?_toArray, List.getElem?_cons_succ, List.getElem?_cons_zero]; rfl) (by kernel_rfl) (fun v w w' h hG => h.stable hG) ?_ (fun v => ?_)
  · intro wv hgv _
    refine ⟨.pointer (some ⟨wv.heap.size, 0, none⟩), wv.alloc (.cells #[.int .i64 0, .int .i64 0] 29), ?_, GT.below hgv.1.size ((Below.refl _ _).alloc (Nat.le_refl _) _), wv.heap.size, rfl, hgv.1.size, _, _, Blk.new wv 29 _⟩
    go_simp
    try rfl
  simp only [Act.put, List.setIfInBounds_toArray, List.set_cons_succ, List.set_cons_zero]
  refine HavG.hav_store (StoredT v2.heap.size 29 (.int .i64 0) (.int .i64 0) v) (by simp only [List.getElem?_toArray, List.getElem?_cons_succ, List.getElem?_cons_zero]; rfl) (by kernel_rfl) rfl (fun w w' h hG => h.stable hG) ?_ ?_
  · rintro wv hgv ⟨_, g, rfl, hgB, a, b, hk⟩
    have hs := GT.set (s0 := .int .i64 0) (s1 := .int .i64 0) hgB hk
    have c0 := hk.cell 0
    have c1 := hk.cell 1
    have f0 := hk.frozen 0
    have f1 := hk.frozen 1
    have lg := hk.lt
    simp at c0 c1
    refine ⟨_, ?_, hs.1, g, rfl, hgB, hs.2⟩
    go_simp
    try rfl
  (apply HavG.hav_same (by simp only [List.getElem?_toArray, List.getElem?_cons_succ, List.getElem?_cons_zero]; rfl) (by kernel_rfl); (focus (intro wv hgv _; have hcv : ∀ b o, b < _ → wv.cell? ⟨b, o, none⟩ = _ := fun b o hb => Below.cell hgv.1 (p := ⟨b, o, none⟩) hb; (try go_simp); try rfl; done)); simp only [Act.put, List.setIfInBounds_toArray, List.set_cons_succ, List.set_cons_zero])
  refine HavG.hav_end (fun v5 hg5 hF => ?_)
  simp only [List.filterMap]
  have HC5 : Hid (Below W.heap.size W v5) := HC2.out.trans (hg5.1.mono HC2.out.size)
  obtain ⟨⟨_, _⟩, g5, rfl, hgB5, hk5⟩ := hF
  clear hg5 hk5 hgB5
  clear x2_0 x2_1 x2_2 x2_3 x2_4 l2
  have hx5 := HX.out.below (HC5.out) HX.out.lt
  have x5_0 := hx5.cell 0
  have x5_1 := hx5.cell 1
  have x5_2 := hx5.cell 2
  have x5_3 := hx5.cell 3
  have x5_4 := hx5.cell 4
  simp at x5_0 x5_1 x5_2 x5_3 x5_4
  have l5 := hx5.lt
  clear hx5
  go_wp2_with fail
  refine (HFT.out (-1) v5 HC5.out).mono ?_
  rw [HE2.out, if_neg (by decide)]
  rintro e v6 ⟨rfl, hb6⟩
  have HC6 : Hid (Below W.heap.size W v6) := HC5.out.trans (hb6.mono HC5.out.size)
  clear hb6
  clear x5_0 x5_1 x5_2 x5_3 x5_4 l5
  have hx6 := HX.out.below (HC6.out) HX.out.lt
  have x6_0 := hx6.cell 0
  have x6_1 := hx6.cell 1
  have x6_2 := hx6.cell 2
  have x6_3 := hx6.cell 3
  have x6_4 := hx6.cell 4
  simp at x6_0 x6_1 x6_2 x6_3 x6_4
  have l6 := hx6.lt
  clear hx6
  go_upto_region 9 with fail
  refine wp_region_havoc [(0,false),(1,false),(2,false),(3,false),(4,false),(5,false),(6,false),(7,false),(8,false),(9,false)] [] (fun _ _ => False) (by kernel_rfl) (by kernel_rfl) (fun _ _ _ _ h => h.elim) ?_
  (apply hav_same (by simp only [List.getElem?_toArray, List.getElem?_cons_zero]; rfl) (by kernel_rfl); (focus (intro wv hgv _; have hcv : ∀ b o, b < _ → wv.cell? ⟨b, o, none⟩ = _ := fun b o hb => Below.cell hgv (p := ⟨b, o, none⟩) hb; (try go_simp); try rfl; done)); simp only [Act.put, List.setIfInBounds_toArray, List.set_cons_succ, List.set_cons_zero])
  (apply hav_same (by simp only [List.getElem?_toArray, List.getElem?_cons_succ, List.getElem?_cons_zero]; rfl) (by kernel_rfl); (focus (intro wv hgv _; have hcv : ∀ b o, b < _ → wv.cell? ⟨b, o, none⟩ = _ := fun b o hb => Below.cell hgv (p := ⟨b, o, none⟩) hb; (try go_simp); try rfl; done)); simp only [Act.put, List.setIfInBounds_toArray, List.set_cons_succ, List.set_cons_zero])
  (apply hav_call (by simp only [List.getElem?_toArray, List.getElem?_cons_succ, List.getElem?_cons_zero]; rfl) (by kernel_rfl); (focus (intro wv; go_simp; try exact ⟨rfl, rfl⟩; done)); (focus (intro wv hgv _; exact HEV.out h40 wv; done)); simp only [Act.put, List.setIfInBounds_toArray, List.set_cons_succ, List.set_cons_zero])
  (apply hav_same (by simp only [List.getElem?_toArray, List.getElem?_cons_succ, List.getElem?_cons_zero]; rfl) (by kernel_rfl); (focus (intro wv hgv _; have hcv : ∀ b o, b < _ → wv.cell? ⟨b, o, none⟩ = _ := fun b o hb => Below.cell hgv (p := ⟨b, o, none⟩) hb; (try go_simp); try rfl; done)); simp only [Act.put, List.setIfInBounds_toArray, List.set_cons_succ, List.set_cons_zero])
  (apply hav_call (by simp only [List.getElem?_toArray, List.getElem?_cons_succ, List.getElem?_cons_zero]; rfl) (by kernel_rfl); (focus (intro wv; go_simp; try exact ⟨rfl, rfl⟩; done)); (focus (intro wv hgv _; have hq := HAD.out (((full fl : Nat) : Int) + 1) wv (HC6.out.trans (hgv.mono HC6.out.size)); rw [HA1.out] at hq; exact hq; done)); simp only [Act.put, List.setIfInBounds_toArray, List.set_cons_succ, List.set_cons_zero])
  iterate 5 (apply hav_same (by simp only [List.getElem?_toArray, List.getElem?_cons_succ, List.getElem?_cons_zero]; rfl) (by kernel_rfl); (focus (intro wv hgv _; have hcv : ∀ b o, b < _ → wv.cell? ⟨b, o, none⟩ = _ := fun b o hb => Below.cell hgv (p := ⟨b, o, none⟩) hb; (try go_simp); try rfl; done)); simp only [Act.put, List.setIfInBounds_toArray, List.set_cons_succ, List.set_cons_zero])
  refine hav_end (fun v7 hgv7 _ => ?_); simp only [List.filterMap]; have hcv7 : ∀ b o, b < _ → v7.cell? ⟨b, o, none⟩ = _ := fun b o hb => Below.cell hgv7 (p := ⟨b, o, none⟩) hb; have hfv7 : ∀ b o, b < _ → v7.frozen? ⟨b, o, none⟩ = _ := fun b o hb => Below.frozen hgv7 (p := ⟨b, o, none⟩) hb; have hzv7 := Below.size hgv7; (try simp at hzv7)
  have HC7 : Hid (Below W.heap.size W v7) := HC6.out.trans (hgv7.mono HC6.out.size)
  clear hgv7 hcv7 hfv7
  clear x6_0 x6_1 x6_2 x6_3 x6_4 l6
  have hx7 := HX.out.below (HC7.out) HX.out.lt
  have x7_0 := hx7.cell 0
  have x7_1 := hx7.cell 1
  have x7_2 := hx7.cell 2
  have x7_3 := hx7.cell 3
  have x7_4 := hx7.cell 4
  simp at x7_0 x7_1 x7_2 x7_3 x7_4
  have l7 := hx7.lt
  clear hx7
  obtain ⟨E, hE⟩ : ∃ E, (if p.wrong = 0 then (0 : Int) else 10) = E := ⟨_, rfl⟩
  have HE0 : Hid (setE p 0 = E) := by show _ = _; rw [show (0 : Int) = ((0 : Nat) : Int) from rfl, setE_ok HV.out (Nat.zero_le _), hE]
  have HW0 : Hid (weightR p 0 = ⟨0, 0⟩) := by
    show _ = _
    rw [weightR]
    split
    · rename_i h0
      rw [HE0.out] at h0
      have hw : p.wrong = 0 := by
        by_cases hw : p.wrong = 0
        · exact hw
        · rw [if_neg hw] at hE; omega
      exact PressD.weight_zero HV.out hw
    · rfl
  have HEE := Lib.hid hE
  clear hE
  go_wp2_with fail
  refine (HWT.out 0 v7 HC7.out).mono ?_
  rw [HE0.out, HW0.out]
  unfold spV
  rintro e v8 ⟨rfl, hb8⟩
  have HC8 : Hid (Below W.heap.size W v8) := HC7.out.trans (hb8.mono HC7.out.size)
  have hs8 := HC8.out.size
  obtain ⟨V8, hV8⟩ : ∃ V, V = v8.alloc (.cells #[.int .i64 0, .int .i64 0] 29) := ⟨_, rfl⟩
  have HS8 : Hid (Blk V8 v8.heap.size 29 #[.int .i64 0, .int .i64 0]) := by rw [hV8]; exact Blk.new v8 29 _
  have HD8 : Hid (Below W.heap.size W V8) := by rw [hV8]; exact HC8.out.alloc hs8 _
  clear hb8
  clear x7_0 x7_1 x7_2 x7_3 x7_4 l7
  have hx8 := HX.out.below (HC8.out) HX.out.lt
  have x8_0 := hx8.cell 0
  have x8_1 := hx8.cell 1
  have x8_2 := hx8.cell 2
  have x8_3 := hx8.cell 3
  have x8_4 := hx8.cell 4
  simp at x8_0 x8_1 x8_2 x8_3 x8_4
  have l8 := hx8.lt
  clear hx8
  go_upto_region 11 with fail
  rw [← hV8]
  clear hV8
  clear x8_0 x8_1 x8_2 x8_3 x8_4 l8
  have hx9 := HX.out.below (HD8.out) HX.out.lt
  have x9_0 := hx9.cell 0
  have x9_1 := hx9.cell 1
  have x9_2 := hx9.cell 2
  have x9_3 := hx9.cell 3
  have x9_4 := hx9.cell 4
  simp at x9_0 x9_1 x9_2 x9_3 x9_4
  have l9 := hx9.lt
  clear hx9
  go_wp2_with fail
  refine (HFA.out V8 HD8.out).mono ?_
  by_cases hw : p.wrong = 0
  case neg =>
    have hE : E = 10 := by rw [← HEE.out, if_neg hw]
    subst hE
    have HFR : Hid (falseR p = .tuple #[.int .i64 (p.wrong : Nat), .int .i64 0]) := by show _ = _; rw [falseR, if_neg (by rw [HV.out]; simp), if_neg hw]
    have hwlt : p.wrong < 2 ^ wl := by have := PressD.wrongF_lt p p.weighed.length; rw [PressD.wrong]; rw [HEW.out] at this ⊢; exact this
    obtain ⟨G, hG⟩ : ∃ G, p.wrong = G := ⟨_, rfl⟩
    rw [hG] at HFR hw hwlt
    clear hG
    have hG0 : 0 < G := by omega
    rw [HFR.out]
    rintro e v9 ⟨rfl, hb9⟩
    have HC9 : Hid (Below W.heap.size W v9) := HD8.out.trans (hb9.mono HD8.out.size)
    have hk9 := HS8.out.below hb9 HS8.out.lt
    have y0 := hk9.cell 0
    have y1 := hk9.cell 1
    have ly := hk9.lt
    simp at y0 y1
    clear hb9 hk9
    clear x9_0 x9_1 x9_2 x9_3 x9_4 l9
    have hx10 := HX.out.below (HC9.out) HX.out.lt
    have x10_0 := hx10.cell 0
    have x10_1 := hx10.cell 1
    have x10_2 := hx10.cell 2
    have x10_3 := hx10.cell 3
    have x10_4 := hx10.cell 4
    simp at x10_0 x10_1 x10_2 x10_3 x10_4
    have l10 := hx10.lt
    clear hx10
    have hsh : (G : Int) / 2 ^ wl = 0 := by rw [div_cast, Nat.div_eq_of_lt hwlt]; rfl
    have hgt : decide ((0 : Int) < (G : Int)) = true := by simp; omega
    go_wp2_with fail
    refine (awake_any _).mono ?_
    rintro e v10 ⟨rfl, hb10⟩
    go_wp2
    go_ret
    exact ⟨rfl, HBW.out.trans ((HC9.out.trans (hb10.mono HC9.out.size)).mono HBW.out.size)⟩
  have hE : E = 0 := by rw [← HEE.out, if_pos hw]
  subst hE
  have HWR := Lib.hid hw
  have HFR : Hid (falseR p = .tuple #[.int .i64 0, .int .i64 4]) := by show _ = _; rw [falseR, if_neg (by rw [HV.out]; simp), if_pos hw]
  clear hw
  rw [HFR.out]
  rintro e v9 ⟨rfl, hb9⟩
  have HC9 : Hid (Below W.heap.size W v9) := HD8.out.trans (hb9.mono HD8.out.size)
  have hk9 := HS8.out.below hb9 HS8.out.lt
  have y0 := hk9.cell 0
  have y1 := hk9.cell 1
  have ly := hk9.lt
  simp at y0 y1
  clear hb9 hk9
  clear x9_0 x9_1 x9_2 x9_3 x9_4 l9
  have hx10 := HX.out.below (HC9.out) HX.out.lt
  have x10_0 := hx10.cell 0
  have x10_1 := hx10.cell 1
  have x10_2 := hx10.cell 2
  have x10_3 := hx10.cell 3
  have x10_4 := hx10.cell 4
  simp at x10_0 x10_1 x10_2 x10_3 x10_4
  have l10 := hx10.lt
  clear hx10
  go_wp2_with fail
  refine (HEV.out h40 v9).mono ?_
  rintro e v10 ⟨rfl, hb10⟩
  have HC10 : Hid (Below W.heap.size W v10) := HC9.out.trans (hb10.mono HC9.out.size)
  clear hb10 y0 y1 ly
  clear x10_0 x10_1 x10_2 x10_3 x10_4 l10
  have hx11 := HX.out.below (HC10.out) HX.out.lt
  have x11_0 := hx11.cell 0
  have x11_1 := hx11.cell 1
  have x11_2 := hx11.cell 2
  have x11_3 := hx11.cell 3
  have x11_4 := hx11.cell 4
  simp at x11_0 x11_1 x11_2 x11_3 x11_4
  have l11 := hx11.lt
  clear hx11
  have hand := HAND.out
  go_wp2
  clear x11_0 x11_1 x11_2 x11_3 x11_4 l11
  clear hand hw1
  have HS10 : Hid (s < 2 ^ p.n) := le_full.1 HSN.out
  go_loopw [19, 157] (fun sv iv wr => ∃ k t : Nat, k ≤ wl ∧ iv = .int .i64 k ∧ sv = .int .i64 t ∧ Hid (p.rest s k = t) ∧ t < 1024 ∧ Below W.heap.size W wr) (fun _ i _ => wl - (intOf i).toNat)
  case atStart => exact ⟨0, s, Nat.zero_le _, rfl, rfl, rfl, hs10, HC10.out⟩
  case round =>
    obtain ⟨k, t, hk, rfl, rfl, HT, ht10, hb⟩ := hrel
    have HB := Lib.hid hb
    clear hb
    by_cases hlt : k < wl
    · obtain ⟨⟨q, ⟨l, u⟩⟩, hc⟩ : ∃ c, p.weighed[k]? = some c := ⟨_, List.getElem?_eq_getElem (by rw [HEW.out]; exact hlt)⟩
      have hba : p.ba k = ⟨q, ⟨l, u⟩⟩ := by unfold PressD.ba; rw [hc]; rfl
      have hkw : k < p.weighed.length := by rw [HEW.out]; exact hlt
      have hokb := PressD.ok_ba HV.out hkw
      rw [hba] at hokb
      obtain ⟨k1, k2, k3, k4, k5, k6, k7⟩ := hokb
      simp only at k1 k5 k6 k7
      have hwb := PressD.weight_bale_in HV.out HWR.out hkw
      rw [hba] at hwb
      have hwle := PressD.weight_le HV.out HWR.out (p.bs k)
      have HRE : Hid (p.rest s (k + 1) = dif t (p.bs k)) := by show _ = _; rw [PressD.rest, HT.out]
      obtain ⟨B, hB⟩ : ∃ B, p.bs k = B := ⟨_, rfl⟩
      rw [hB] at k1 k2 k3 k4 hwb hwle HRE
      subst k1
      clear hB k4
      have hB10 : B < 1024 := Nat.lt_of_lt_of_le k2 (PressD.n_pow HV.out)
      have HSB : Hid (setE p B = 0) := by show _ = _; rw [setE_ok HV.out (le_full.2 k2), if_pos HWR.out]
      obtain ⟨⟨a0, a1⟩, hA⟩ : ∃ K, p.weight B = K := ⟨_, rfl⟩
      rw [hA] at hwb hwle
      have HWB : Hid (weightR p B = ⟨a0, a1⟩) := by show _ = _; rw [weightR, HSB.out, if_pos rfl]; exact hA
      have HNT : Hid (bits BinOp.andNot IntKind.i64 (t : Int) (B : Int) = ((dif t B : Nat) : Int)) := not_i64 t B (by omega) (by omega)
      have hdt : dif t B < 1024 := Nat.lt_of_le_of_lt (dif_le _ _) ht10
      obtain ⟨t2, ht2⟩ : ∃ r, dif t B = r := ⟨_, rfl⟩
      rw [ht2] at hdt HRE HNT
      clear hA ht2 hba hkw
      obtain ⟨hw0, hw2⟩ := hwb
      simp only at hw0 hw2 hwle
      have d1 : decide (a1 < a0) = false := by simp; omega
      have d2 : decide (a0 < l) = false := by simp; omega
      have d3 : decide (u < a1) = false := by simp; omega
      obtain ⟨b, off, rfl, hbl, H0, H1, H2⟩ := rd_ba ((HPW.out.grow HB.out).hwl) k _ hc
      have hbw : b < wr.heap.size := hbl
      simp only at H0 H1 H2
      clear hc hbl
      obtain ⟨Y, hY⟩ : ∃ Y, Y = wr.alloc (.cells #[.int .i64 B, .int .i64 l, .int .i64 u] 56) := ⟨_, rfl⟩
      have HYB : Hid (Blk Y wr.heap.size 56 #[.int .i64 B, .int .i64 l, .int .i64 u]) := by rw [hY]; exact Blk.new wr 56 _
      have HYC : Hid (Below W.heap.size W Y) := by rw [hY]; exact HB.out.alloc HB.out.size _
      have hnt := HNT.out
      have hx := HX.out.below (HB.out) HX.out.lt
      have z0 := hx.cell 0
      have z1 := hx.cell 1
      have z2 := hx.cell 2
      have z3 := hx.cell 3
      have z4 := hx.cell 4
      simp at z0 z1 z2 z3 z4
      have zl := hx.lt
      clear hx
      go_upto_region 20 with fail
      rw [← hY]
      clear hY H0 H1 H2 hbw
      clear z0 z1 z2 z3 z4 zl
      have hx := HX.out.below (HYC.out) HX.out.lt
      have z0 := hx.cell 0
      have z1 := hx.cell 1
      have z2 := hx.cell 2
      have z3 := hx.cell 3
      have z4 := hx.cell 4
      simp at z0 z1 z2 z3 z4
      have zl := hx.lt
      clear hx
      have q0 := HYB.out.cell 0
      have q1 := HYB.out.cell 1
      have q2 := HYB.out.cell 2
      simp at q0 q1 q2
      have ql := HYB.out.lt
      go_wp2_with fail
      refine (HWT.out B Y HYC.out).mono ?_
      rw [HSB.out, HWB.out]
      unfold spV
      rintro e Y2 ⟨rfl, hb2⟩
      have HC2 : Hid (Below W.heap.size W Y2) := HYC.out.trans (hb2.mono HYC.out.size)
      have hyb := HYB.out.below hb2 HYB.out.lt
      have hs2 := HC2.out.size
      clear hb2 q0 q1 q2 ql z0 z1 z2 z3 z4 zl hnt
      have q0 := hyb.cell 0
      have q1 := hyb.cell 1
      have q2 := hyb.cell 2
      simp at q0 q1 q2
      have ql := hyb.lt
      clear hyb
      go_wp2
      go_roundw
      case rel => exact ⟨k + 1, t2, by omega, by go_num, rfl, HRE.out, hdt, HC2.out.alloc hs2 _⟩
      case measure => simp [intOf]; omega
    obtain rfl : wl = k := by omega
    have HRT : Hid (p.rest s p.weighed.length = t) := by show _ = _; rw [HEW.out]; exact HT.out
    have htn : t < 2 ^ p.n := by rw [← HRT.out]; exact PressD.rest_lt HS10.out _
    have HTF : Hid (t ≤ full p.n) := le_full.2 htn
    have HWW := PressD.weight_rest HV.out HWR.out s
    rw [HRT.out] at HWW
    obtain ⟨⟨r0, r1⟩, hR⟩ : ∃ K, p.bare t = K := ⟨_, rfl⟩
    have hbd := PressD.bare_bd HV.out t
    rw [hR] at HWW hbd
    simp only at hbd
    obtain ⟨hr0, hr1, hr2⟩ := hbd
    have HBR := Lib.hid hR
    have HST : Hid (setE p t = 0) := by show _ = _; rw [setE_ok HV.out HTF.out, if_pos HWR.out]
    have HWT0 : Hid (weightR p t = ⟨r0, r1⟩) := by show _ = _; rw [weightR, HST.out, if_pos rfl]; exact HWW
    have HFREE : Hid (t &&& p.used p.weighed.length = 0) := by show _ = _; rw [← HRT.out]; exact PressD.rest_free s _
    clear hR HWW htn
    have hx := HX.out.below (HB.out) HX.out.lt
    have z0 := hx.cell 0
    have z1 := hx.cell 1
    have z2 := hx.cell 2
    have z3 := hx.cell 3
    have z4 := hx.cell 4
    simp at z0 z1 z2 z3 z4
    have zl := hx.lt
    clear hx
    go_wp2_with fail
    refine (HWT.out t wr HB.out).mono ?_
    rw [HST.out, HWT0.out]
    unfold spV
    rintro e v12 ⟨rfl, hb12⟩
    have HC12 : Hid (Below W.heap.size W v12) := HB.out.trans (hb12.mono HB.out.size)
    have hs12 := HC12.out.size
    obtain ⟨V, hV⟩ : ∃ V, V = v12.alloc (.cells #[.int .i64 r0, .int .i64 r1] 29) := ⟨_, rfl⟩
    have HSV : Hid (Blk V v12.heap.size 29 #[.int .i64 r0, .int .i64 r1]) := by rw [hV]; exact Blk.new v12 29 _
    have HCV : Hid (Below W.heap.size W V) := by rw [hV]; exact HC12.out.alloc hs12 _
    clear hb12 z0 z1 z2 z3 z4 zl
    go_upto_region 26 with fail
    rw [← hV]
    clear hV
    have hx := HX.out.below (HCV.out) HX.out.lt
    have z0 := hx.cell 0
    have z1 := hx.cell 1
    have z2 := hx.cell 2
    have z3 := hx.cell 3
    have z4 := hx.cell 4
    simp at z0 z1 z2 z3 z4
    have zl := hx.lt
    clear hx
    go_wp2
    clear z0 z1 z2 z3 z4 zl
    go_loopw [26, 27, 207] (fun lo hi i wr => ∃ (k : Nat) (x y : Int), k ≤ fl ∧ i = .int .i64 k ∧ lo = .int .i64 x ∧ hi = .int .i64 y ∧ Hid (sb (fun i => (p.fw i).lo) t k = x ∧ sb (fun i => (p.fw i).hi) t k = y) ∧ (0 ≤ x ∧ x ≤ 20 * k ∧ 0 ≤ y ∧ y ≤ 20 * k) ∧ Below V.heap.size V wr) (fun _ _ i _ => fl - (intOf i).toNat)
    case atStart => exact ⟨0, 0, 0, Nat.zero_le _, rfl, rfl, rfl, ⟨rfl, rfl⟩, by omega, Below.refl _ _⟩
    case round =>
      obtain ⟨k, x, y, hk, rfl, rfl, rfl, HXY, ⟨hx0, hx1, hy0, hy1⟩, hb⟩ := hrel
      have HB2 := Lib.hid hb
      have HBV : Hid (Below W.heap.size W wr) := HCV.out.trans (hb.mono HCV.out.size)
      clear hb
      by_cases hlt : k < fl
      · obtain ⟨⟨⟨c0, c1⟩, cl⟩, hc⟩ : ∃ c, p.fl[k]? = some c := ⟨_, List.getElem?_eq_getElem (by have := HEQ.out.1; unfold PressD.n at this; omega)⟩
        have HC := Lib.hid (fw_of hc)
        have hcl := PressD.ok_fl HV.out (i := k) (by rw [HEQ.out.1]; exact hlt)
        rw [HC.out.1] at hcl
        simp only at hcl
        obtain ⟨g0, g1, g2, -, -, -⟩ := hcl
        obtain ⟨b, off, rfl, hbl, H0, H1, H2⟩ := rd_fl ((HPW.out.grow HBV.out).hfl) k _ hc
        have hbw : b < wr.heap.size := hbl
        simp only at H0 H1 H2 HC
        clear hc hbl
        have htb := tb_i64 t k (by omega)
        cases hbit : t.testBit k
        · have HN : Hid (sb (fun i => (p.fw i).lo) t (k + 1) = x ∧ sb (fun i => (p.fw i).hi) t (k + 1) = y) := by
            refine ⟨?_, ?_⟩
            · rw [sb, HXY.out.1, hbit]; simp
            · rw [sb, HXY.out.2, hbit]; simp
          rw [hbit] at htb
          clear hbit
          go_wp2
          go_roundw
          case rel => exact ⟨k + 1, x, y, by omega, by go_num, rfl, rfl, HN.out, by omega, HB2.out.alloc HB2.out.size _⟩
          case measure => simp [intOf]; omega
        · have HN : Hid (sb (fun i => (p.fw i).lo) t (k + 1) = x + c0 ∧ sb (fun i => (p.fw i).hi) t (k + 1) = y + c1) := by
            refine ⟨?_, ?_⟩
            · rw [sb, HXY.out.1, if_pos hbit, HC.out.1]
            · rw [sb, HXY.out.2, if_pos hbit, HC.out.1]
          rw [hbit] at htb
          clear hbit
          have w1 : IntKind.i64.wrap (x + c0) = x + c0 := wrap_i64 (by omega) (by omega)
          have w2 : IntKind.i64.wrap (y + c1) = y + c1 := wrap_i64 (by omega) (by omega)
          go_wp2
          refine wp_region_havoc [(0,false),(1,false),(2,false),(3,false),(4,false),(5,false),(6,false),(7,false),(8,false),(9,false),(10,false),(11,false)] [] (fun _ _ => False) (by kernel_rfl) (by kernel_rfl) (fun _ _ _ _ h => h.elim) ?_
          (apply hav_same (by simp only [List.getElem?_toArray, List.getElem?_cons_zero]; rfl) (by kernel_rfl); (focus (intro wv hgv _; have hcv : ∀ b o, b < _ → wv.cell? ⟨b, o, none⟩ = _ := fun b o hb => Below.cell hgv (p := ⟨b, o, none⟩) hb; (try go_simp); try rfl; done)); simp only [Act.put, List.setIfInBounds_toArray, List.set_cons_succ, List.set_cons_zero])
          iterate 11 (apply hav_same (by simp only [List.getElem?_toArray, List.getElem?_cons_succ, List.getElem?_cons_zero]; rfl) (by kernel_rfl); (focus (intro wv hgv _; have hcv : ∀ b o, b < _ → wv.cell? ⟨b, o, none⟩ = _ := fun b o hb => Below.cell hgv (p := ⟨b, o, none⟩) hb; (try go_simp); try rfl; done)); simp only [Act.put, List.setIfInBounds_toArray, List.set_cons_succ, List.set_cons_zero])
          refine hav_end (fun wz hgwz _ => ?_); simp only [List.filterMap]; have hcwz : ∀ b o, b < _ → wz.cell? ⟨b, o, none⟩ = _ := fun b o hb => Below.cell hgwz (p := ⟨b, o, none⟩) hb; have hfwz : ∀ b o, b < _ → wz.frozen? ⟨b, o, none⟩ = _ := fun b o hb => Below.frozen hgwz (p := ⟨b, o, none⟩) hb; have hzwz := Below.size hgwz; (try simp at hzwz)
          have HBZ : Hid (Below V.heap.size V wz) := (HB2.out.alloc HB2.out.size _).trans (hgwz.mono (by have := HB2.out.size; simp; omega))
          clear hgwz hcwz hfwz
          go_wp2
          go_roundw
          case rel => exact ⟨k + 1, x + c0, y + c1, by omega, by go_num, rfl, rfl, HN.out, by omega, HBZ.out⟩
          case measure => simp [intOf]; omega
      · obtain rfl : fl = k := by omega
        have hxy : r0 = x ∧ r1 = y := by
          have h := HBR.out
          rw [PressD.bare, HEQ.out.1, HXY.out.1, HXY.out.2] at h
          injection h with h1 h2
          exact ⟨h1.symm, h2.symm⟩
        obtain ⟨rfl, rfl⟩ := hxy
        clear HXY hx0 hx1 hy0 hy1
        have hsv := HSV.out.below HB2.out HSV.out.lt
        have y0 := hsv.cell 0
        have y1 := hsv.cell 1
        have ly := hsv.lt
        simp at y0 y1
        clear hsv
        go_upto_region 33 with fail
        refine wp_region_havoc [(0,false),(1,false),(2,false),(3,false),(4,false),(5,false),(6,false),(7,false),(8,false)] [] (fun _ _ => False) (by kernel_rfl) (by kernel_rfl) (fun _ _ _ _ h => h.elim) ?_
        (apply hav_same (by simp only [List.getElem?_toArray, List.getElem?_cons_zero]; rfl) (by kernel_rfl); (focus (intro wv hgv _; have hcv : ∀ b o, b < _ → wv.cell? ⟨b, o, none⟩ = _ := fun b o hb => Below.cell hgv (p := ⟨b, o, none⟩) hb; (try go_simp); try rfl; done)); simp only [Act.put, List.setIfInBounds_toArray, List.set_cons_succ, List.set_cons_zero])
        iterate 5 (apply hav_same (by simp only [List.getElem?_toArray, List.getElem?_cons_succ, List.getElem?_cons_zero]; rfl) (by kernel_rfl); (focus (intro wv hgv _; have hcv : ∀ b o, b < _ → wv.cell? ⟨b, o, none⟩ = _ := fun b o hb => Below.cell hgv (p := ⟨b, o, none⟩) hb; (try go_simp); try rfl; done)); simp only [Act.put, List.setIfInBounds_toArray, List.set_cons_succ, List.set_cons_zero])
        (apply hav_call (by simp only [List.getElem?_toArray, List.getElem?_cons_succ, List.getElem?_cons_zero]; rfl) (by kernel_rfl); (focus (intro wv; go_simp; try exact ⟨rfl, rfl⟩; done)); (focus (intro wv hgv _; have hq := lspan_any r0 r1 wv; unfold spV at hq; exact hq; done)); simp only [Act.put, List.setIfInBounds_toArray, List.set_cons_succ, List.set_cons_zero])
        iterate 2 (apply hav_same (by simp only [List.getElem?_toArray, List.getElem?_cons_succ, List.getElem?_cons_zero]; rfl) (by kernel_rfl); (focus (intro wv hgv _; have hcv : ∀ b o, b < _ → wv.cell? ⟨b, o, none⟩ = _ := fun b o hb => Below.cell hgv (p := ⟨b, o, none⟩) hb; (try go_simp); try rfl; done)); simp only [Act.put, List.setIfInBounds_toArray, List.set_cons_succ, List.set_cons_zero])
        refine hav_end (fun va hgva _ => ?_); simp only [List.filterMap]; have hcva : ∀ b o, b < _ → va.cell? ⟨b, o, none⟩ = _ := fun b o hb => Below.cell hgva (p := ⟨b, o, none⟩) hb; have hfva : ∀ b o, b < _ → va.frozen? ⟨b, o, none⟩ = _ := fun b o hb => Below.frozen hgva (p := ⟨b, o, none⟩) hb; have hzva := Below.size hgva; (try simp at hzva)
        have HBA : Hid (Below V.heap.size V va) := HB2.out.trans (hgva.mono HB2.out.size)
        have HCA : Hid (Below W.heap.size W va) := HCV.out.trans (HBA.out.mono HCV.out.size)
        clear hgva hcva hfva y0 y1 ly
        have hsv := HSV.out.below HBA.out HSV.out.lt
        have y0 := hsv.cell 0
        have y1 := hsv.cell 1
        have ly := hsv.lt
        simp at y0 y1
        clear hsv
        have hx := HX.out.below (HCA.out) HX.out.lt
        have z0 := hx.cell 0
        have z1 := hx.cell 1
        have z2 := hx.cell 2
        have z3 := hx.cell 3
        have z4 := hx.cell 4
        simp at z0 z1 z2 z3 z4
        have zl := hx.lt
        clear hx
        by_cases ht0 : t = 0
        · subst ht0
          go_wp2_with fail
          refine (awake_any _).mono ?_
          rintro e vb ⟨rfl, hbvb⟩
          go_wp2
          go_ret
          exact ⟨rfl, HBW.out.trans ((HCA.out.trans (hbvb.mono HCA.out.size)).mono HBW.out.size)⟩
        have htz : ((t : Int) == 0) = false := by simp; omega
        by_cases h4 : 4 ≤ wl
        · have d4 : decide ((4 : Int) ≤ (wl : Int)) = true := by simp; omega
          go_wp2_with fail
          refine (awake_any _).mono ?_
          rintro e vb ⟨rfl, hbvb⟩
          go_wp2
          go_ret
          exact ⟨rfl, HBW.out.trans ((HCA.out.trans (hbvb.mono HCA.out.size)).mono HBW.out.size)⟩
        have d4 : decide ((4 : Int) ≤ (wl : Int)) = false := by simp; omega
        obtain ⟨N0, hN0⟩ : ∃ N, max 1 (r0 - 2) = N := ⟨_, rfl⟩
        obtain ⟨N1, hN1⟩ : ∃ N, min 200 (r1 + 2) = N := ⟨_, rfl⟩
        have hn0 : 1 ≤ N0 := by omega
        have hn1 : N0 ≤ N1 + 1 := by omega
        have hn2 : N1 ≤ 200 := by omega
        have HMX : Hid (∀ w, (Builtin.max_ #[3, 3] 3 #[.int .i64 1, .int .i64 (r0 - 2)]).run Try.prog w = .ok (.int .i64 N0) w) := fun w => by rw [max_run, hN0]
        have HMN : Hid (∀ w, (Builtin.min_ #[3, 3] 3 #[.int .i64 200, .int .i64 (r1 + 2)]).run Try.prog w = .ok (.int .i64 N1) w) := fun w => by rw [min_run, hN1]
        have w5 : IntKind.i64.wrap (r0 - 2) = r0 - 2 := wrap_i64 (by omega) (by omega)
        have w6 : IntKind.i64.wrap (r1 + 2) = r1 + 2 := wrap_i64 (by omega) (by omega)
        clear hN0 hN1
        have hmx := HMX.out
        go_wp2
        clear y0 y1 ly z0 z1 z2 z3 z4 zl w5 hmx d4 htz
        obtain ⟨i0, hi, hz0, hz1, hz2⟩ := info_parts Try.infoE56
        have HI := Lib.hid hi
        have HI0 := Lib.hid hz0
        have HI1 := Lib.hid hz1
        have HI2 := Lib.hid hz2
        clear hi hz0 hz1 hz2
        go_loopw [30] (fun nv wr => ∃ n : Int, N0 ≤ n ∧ n ≤ N1 + 1 ∧ nv = .int .i64 n ∧ Below V.heap.size V wr) (fun n _ => (N1 + 1 - intOf n).toNat)
        case atStart => exact ⟨N0, by omega, hn1, rfl, HBA.out⟩
        case round =>
          clear HB2 HBA HCA
          obtain ⟨n, hna, hnb, rfl, hb⟩ := hrel
          have HB2 := Lib.hid hb
          have HBV2 : Hid (Below W.heap.size W wr) := HCV.out.trans (hb.mono HCV.out.size)
          clear hb
          have hsv := HSV.out.below HB2.out HSV.out.lt
          have y0 := hsv.cell 0
          have y1 := hsv.cell 1
          have ly := hsv.lt
          simp at y0 y1
          clear hsv
          have hx := HX.out.below (HBV2.out) HX.out.lt
          have z0 := hx.cell 0
          have z1 := hx.cell 1
          have z2 := hx.cell 2
          have z3 := hx.cell 3
          have z4 := hx.cell 4
          simp at z0 z1 z2 z3 z4
          have zl := hx.lt
          clear hx
          have hmn := HMN.out
          by_cases hle : n ≤ N1
          · have dn : decide (n ≤ N1) = true := by simp; omega
            have hn200 : n ≤ 200 := by omega
            have hn1' : 1 ≤ n := by omega
            -- the press with the bale
            obtain ⟨b, hb⟩ : ∃ b : Ba, b = ⟨(t : Int), ⟨n, n⟩⟩ := ⟨_, rfl⟩
            have HBB := Lib.hid hb
            have hxok : (p.more b).ok = true := by rw [hb]; exact PressD.more_ok HV.out (by rw [HEW.out]; omega) (le_full.1 HTF.out) (by omega) HFREE.out (by omega) (by omega) (by omega)
            have HXOK := Lib.hid hxok
            have hxw : (p.more b).wrong = 0 ↔ r0 ≤ n ∧ n ≤ r1 := by
              have h : (p.more b).wrong = 0 ↔ (p.bare t).lo ≤ n ∧ n ≤ (p.bare t).hi := by rw [hb] at hxok ⊢; exact PressD.more_wrong HWR.out hxok
              rw [HBR.out] at h
              exact h
            obtain ⟨E', hE'⟩ : ∃ E, setE (p.more b) t = E := ⟨_, rfl⟩
            obtain ⟨⟨e0, e1⟩, hW'⟩ : ∃ K, weightR (p.more b) t = K := ⟨_, rfl⟩
            obtain ⟨f0, f1, hF'⟩ : ∃ f0 f1, falseR (p.more b) = .tuple #[.int .i64 f0, .int .i64 f1] := by
              unfold falseR
              split
              · exact ⟨_, _, rfl⟩
              · split <;> exact ⟨_, _, rfl⟩
            have HIN : Hid ((E' = 0 ∧ n = e0 ∧ n = e1 ∧ f1 = 4 ∧ inB n r0 r1 = true) ∨ (E' = 10 ∧ f1 = 0 ∧ inB n r0 r1 = false)) := by
              show _ ∨ _
              have hs0 : setE (p.more b) t = if (p.more b).wrong = 0 then 0 else 10 := setE_ok hxok HTF.out
              by_cases hin : r0 ≤ n ∧ n ≤ r1
              · refine .inl ?_
                have hw0 := hxw.2 hin
                rw [if_pos hw0] at hs0
                have hEz : E' = 0 := by rw [← hE', hs0]
                rw [weightR, hs0, if_pos rfl, Int.toNat_natCast] at hW'
                have hmw : (p.more b).weight t = ⟨n, n⟩ := by rw [hb] at hxok hw0 ⊢; exact PressD.more_weight hxok hw0 (by rw [HBR.out]; exact hin.1) (by rw [HBR.out]; exact hin.2)
                rw [hmw] at hW'
                injection hW' with h1 h2
                rw [falseR, if_neg (by rw [hxok]; simp), if_pos hw0] at hF'
                simp at hF'
                exact ⟨hEz, h1, h2, hF'.2.symm, inB_iff.2 hin⟩
              · refine .inr ?_
                have hw0 : ¬ (p.more b).wrong = 0 := fun h => hin (hxw.1 h)
                rw [if_neg hw0] at hs0
                rw [falseR, if_neg (by rw [hxok]; simp), if_neg hw0] at hF'
                simp at hF'
                refine ⟨by rw [← hE', hs0], hF'.2.symm, ?_⟩
                cases hq : inB n r0 r1
                · rfl
                · exact absurd (inB_iff.1 hq) hin
            have HE' := Lib.hid hE'
            have HW' := Lib.hid hW'
            have HF' := Lib.hid hF'
            clear hxok hxw hE' hW' hF' hb
            obtain ⟨U, hU⟩ : ∃ U, U = wr.alloc (Obj.cells #[Value.slice fa fl fc, Value.int IntKind.i64 low, Value.int IntKind.i64 top, Value.int IntKind.i64 bales, Value.slice wa wl wp] 25) := ⟨_, rfl⟩
            have HXU : Hid (Blk U wr.heap.size 25 #[Value.slice fa fl fc, Value.int IntKind.i64 low, Value.int IntKind.i64 top, Value.int IntKind.i64 bales, Value.slice wa wl wp]) := by rw [hU]; exact Blk.new wr 25 _
            have hsr := HBV2.out.size
            have HBU : Hid (Below W.heap.size W U) := by rw [hU]; exact HBV2.out.alloc hsr _
            have HVU : Hid (Below V.heap.size V U) := by rw [hU]; exact HB2.out.alloc HB2.out.size _
            have hUs : U.heap.size = wr.heap.size + 1 := by rw [hU]; simp
            have HOWN := Lib.hid (ownsRow_empty (w := U) (g := wr.heap.size + 1) hUs 56 3)
            have HBU1 : Hid (Below W.heap.size W (U.alloc (Obj.cells #[] 56))) := HBU.out.alloc (by omega) _
            have HVU1 : Hid (Below V.heap.size V (U.alloc (Obj.cells #[] 56))) := HVU.out.alloc HVU.out.size _
            have HUU : Hid (Below (wr.heap.size + 1) U (U.alloc (Obj.cells #[] 56))) := (Below.refl _ _).alloc (by omega) _
            have HRW := Lib.hid (HPW.out.hwl.below HBU1.out)
            have hbs : wr.heap.size + 1 ≤ (U.alloc (Obj.cells #[] 56)).heap.size := by simp; omega
            subst hU
            go_wp2_with (at_builtin; refine wpList_append_row rfl _ _ 23 rfl (wr.heap.size + 1) 56 i0 _ 3 24 Try.underlying23 HI.out HI0.out HI1.out HI2.out rfl (by decide) baF_len baF_one (wr.heap.size + 1) 0 0 [] rfl HOWN.out wa wl wp _ p.weighed rfl HEW.out HRW.out (by omega) (by omega) hbs ?_)
            intro g1 c1 w1 hown1 hb1
            have hown1 : w1.ownsRow (wr.heap.size + 1) 56 3 (.slice (some ⟨g1, 0, none⟩) wl c1) wl (p.weighed.flatMap baF) := by simpa using hown1
            have HO1 := Lib.hid hown1
            have hvr := HB2.out.size
            have HX1 := Lib.hid (HXU.out.below (HUU.out.trans hb1) (by omega))
            have HC1' : Hid (Below W.heap.size W w1) := HBU1.out.trans (hb1.mono (by omega))
            have HV1 : Hid (Below V.heap.size V w1) := HVU1.out.trans (hb1.mono (by omega))
            have hs1 : wr.heap.size + 1 ≤ w1.heap.size := Nat.le_trans hbs hb1.size
            clear hown1 hb1 z0 z1 z2 z3 z4 zl y0 y1 ly hmn dn
            go_wp2_with fail
            refine (weighed_any (t : Int) n n _).mono ?_
            rintro e w2 ⟨rfl, hb2⟩
            have HO2 := Lib.hid (own_below HO1.out hb2)
            have HX2 := Lib.hid (HX1.out.below hb2 (by omega))
            have HC2' : Hid (Below W.heap.size W w2) := HC1'.out.trans (hb2.mono HC1'.out.size)
            have HV2 : Hid (Below V.heap.size V w2) := HV1.out.trans (hb2.mono HV1.out.size)
            have hs2 : wr.heap.size + 1 ≤ w2.heap.size := Nat.le_trans hs1 hb2.size
            clear hb2
            have HO3 := Lib.hid (own_below HO2.out ((Below.refl w2.heap.size w2).alloc (Nat.le_refl _) (.cells #[.int .i64 t, .int .i64 n, .int .i64 n] 56)))
            have HX3 := Lib.hid (HX2.out.below ((Below.refl w2.heap.size w2).alloc (Nat.le_refl _) (.cells #[.int .i64 t, .int .i64 n, .int .i64 n] 56)) (by omega))
            have HC3' := Lib.hid (HC2'.out.alloc HC2'.out.size (.cells #[.int .i64 t, .int .i64 n, .int .i64 n] 56))
            have HV3 := Lib.hid (HV2.out.alloc HV2.out.size (.cells #[.int .i64 t, .int .i64 n, .int .i64 n] 56))
            have hs3 : wr.heap.size + 1 ≤ (w2.alloc (.cells #[.int .i64 t, .int .i64 n, .int .i64 n] 56)).heap.size := by simp; omega
            have HNEW : Hid (RdG baF 3 (w2.alloc (.cells #[.int .i64 t, .int .i64 n, .int .i64 n] 56)) (w2.heap.size + 1) (some ⟨w2.heap.size, 0, none⟩) [b]) :=
              RdG.of_blk (t := 56) baF_len (by rw [HBB.out]; exact Blk.new w2 56 _) (by omega)
            go_wp2_with (at_builtin; refine wpList_append_row rfl _ _ 23 rfl (wr.heap.size + 1) 56 i0 _ 3 24 Try.underlying23 HI.out HI0.out HI1.out HI2.out rfl (by decide) baF_len baF_one g1 wl c1 _ rfl HO3.out (some ⟨w2.heap.size, 0, none⟩) 1 1 _ [b] rfl rfl HNEW.out (by omega) (by omega) hs3 ?_)
            intro g2 c2 w3 hown3 hb3
            have HX4 := Lib.hid (HX3.out.below hb3 (by omega))
            have HC4' : Hid (Below W.heap.size W w3) := HC3'.out.trans (hb3.mono (by omega))
            have HV4' : Hid (Below V.heap.size V w3) := HV3.out.trans (hb3.mono (by omega))
            obtain ⟨g2', c2', cur, he, hg, hkg, hcs, hcap, hrd⟩ := own_read (l := (p.more b).weighed) (n := wl + 1) (by omega) (by rw [PressD.more, List.flatMap_append]; exact hown3)
            simp at he
            obtain ⟨rfl, rfl⟩ := he
            have HKG := Lib.hid hkg
            have HRD := Lib.hid hrd
            clear hown3 hb3 hkg hrd
            obtain ⟨M, hM⟩ : ∃ M, M = w3.setCell ⟨wr.heap.size, 4, none⟩ (Value.slice (some ⟨g2, 0, none⟩) (wl + 1) c2) := ⟨_, rfl⟩
            have HXM : Hid (Blk M wr.heap.size 25 #[Value.slice fa fl fc, Value.int IntKind.i64 low, Value.int IntKind.i64 top, Value.int IntKind.i64 bales, Value.slice (some ⟨g2, 0, none⟩) (wl + 1) c2]) := by
              rw [hM]
              have h := HX4.out.set_ 4 (Value.slice (some ⟨g2, 0, none⟩) (wl + 1) c2)
              show Blk _ _ _ _
              simpa using h
            have HGM : Hid (Blk M g2 56 cur) := by rw [hM]; exact HKG.out.far (by show g2 ≠ wr.heap.size; omega) _
            have HRM : Hid (RdG baF 3 M M.heap.size (some ⟨g2, 0, none⟩) (p.more b).weighed) := HRD.out.blk HKG.out HGM.out HGM.out.lt
            have HCM : Hid (Below W.heap.size W M) := by rw [hM]; exact setCell_below HC4'.out hsr 4 _
            have HVM : Hid (Below V.heap.size V M) := by rw [hM]; exact setCell_below HV4'.out hvr 4 _
            have HPM : Hid (PressIn M M.heap.size fa fl low top bales (some ⟨g2, 0, none⟩) (wl + 1) (p.more b)) := by
              have h := HPW.out.grow HCM.out
              exact ⟨h.elow, h.etop, h.ebales, h.efl, by rw [PressD.more_len, HEW.out], h.mfl, by omega, h.hfl, HRM.out⟩
            have x4 := HX4.out.cell 4
            have xf := HX4.out.frozen 4
            have lx := HX4.out.lt
            simp at x4
            go_upto_region 42 with fail
            rw [← hM]
            clear hM x4 xf lx
            have hx := HXM.out
            have x0 := hx.cell 0
            have x1 := hx.cell 1
            have x2 := hx.cell 2
            have x3 := hx.cell 3
            have x4 := hx.cell 4
            simp at x0 x1 x2 x3 x4
            have xl := hx.lt
            clear hx
            go_wp2_with fail
            refine (PWeight_any (p := p.more b) (t : Int) M (by exact HPM.out)).mono ?_
            rw [HE'.out, HW'.out]
            unfold spV
            rintro e w4 ⟨rfl, hb4⟩
            have HM4 : Hid (Below M.heap.size M w4) := hb4
            have hm4 := hb4.size
            obtain ⟨V4, hV4⟩ : ∃ V, V = w4.alloc (.cells #[.int .i64 e0, .int .i64 e1] 29) := ⟨_, rfl⟩
            have HS4 : Hid (Blk V4 w4.heap.size 29 #[.int .i64 e0, .int .i64 e1]) := by rw [hV4]; exact Blk.new w4 29 _
            have HD4 : Hid (Below M.heap.size M V4) := by rw [hV4]; exact HM4.out.alloc hm4 _
            clear hb4 x0 x1 x2 x3 x4 xl
            go_upto_region 43 with fail
            rw [← hV4]
            clear hV4
            have hx := HXM.out.below HD4.out HXM.out.lt
            have x0 := hx.cell 0
            have x1 := hx.cell 1
            have x2 := hx.cell 2
            have x3 := hx.cell 3
            have x4 := hx.cell 4
            simp at x0 x1 x2 x3 x4
            have xl := hx.lt
            clear hx
            go_wp2_with fail
            refine (PFalse_any (p := p.more b) V4 (by exact HPM.out.grow HD4.out)).mono ?_
            rw [HF'.out]
            rintro e w5 ⟨rfl, hb5⟩
            have HD5 : Hid (Below M.heap.size M w5) := HD4.out.trans (hb5.mono HD4.out.size)
            have HV5 : Hid (Below V.heap.size V w5) := HVM.out.trans (HD5.out.mono HVM.out.size)
            have hs5 := HS4.out.below hb5 HS4.out.lt
            have x0 := hs5.cell 0
            have x1 := hs5.cell 1
            have xl := hs5.lt
            simp at x0 x1
            have hsv := HSV.out.below HV5.out HSV.out.lt
            have y0 := hsv.cell 0
            have y1 := hsv.cell 1
            have ly := hsv.lt
            simp at y0 y1
            clear hs5 hsv hb5
            have wn : IntKind.i64.wrap (n + 1) = n + 1 := wrap_i64 (by omega) (by omega)
            go_upto_region 44 with fail
            rcases HIN.out with ⟨rfl, rfl, rfl, rfl, hin⟩ | ⟨rfl, rfl, hin⟩
            · refine wp_region_havoc [(0,false),(1,false),(2,false),(3,false),(4,false),(5,false),(6,false),(7,false),(8,false),(9,false),(10,false),(11,false),(12,false),(13,false),(14,false),(15,false),(16,false),(17,false),(18,false),(19,false),(20,false),(21,false),(22,false),(23,false),(24,false)] [] (fun _ _ => False) (by kernel_rfl) (by kernel_rfl) (fun _ _ _ _ h => h.elim) ?_
              (apply hav_same (by simp only [List.getElem?_toArray, List.getElem?_cons_zero]; rfl) (by kernel_rfl); (focus (intro wv hgv _; have hcv : ∀ b o, b < _ → wv.cell? ⟨b, o, none⟩ = _ := fun b o hb => Below.cell hgv (p := ⟨b, o, none⟩) hb; (try go_simp); try rfl; done)); simp only [Act.put, List.setIfInBounds_toArray, List.set_cons_succ, List.set_cons_zero])
              iterate 3 (apply hav_same (by simp only [List.getElem?_toArray, List.getElem?_cons_succ, List.getElem?_cons_zero]; rfl) (by kernel_rfl); (focus (intro wv hgv _; have hcv : ∀ b o, b < _ → wv.cell? ⟨b, o, none⟩ = _ := fun b o hb => Below.cell hgv (p := ⟨b, o, none⟩) hb; (try go_simp); try rfl; done)); simp only [Act.put, List.setIfInBounds_toArray, List.set_cons_succ, List.set_cons_zero])
              (apply hav_call (by simp only [List.getElem?_toArray, List.getElem?_cons_succ, List.getElem?_cons_zero]; rfl) (by kernel_rfl); (focus (intro wv; go_simp; try exact ⟨rfl, rfl⟩; done)); (focus (intro wv hgv _; have hq := inside_any n ⟨r0, r1⟩ wv; rw [show inB n (Sp.mk r0 r1).lo (Sp.mk r0 r1).hi = true from hin] at hq; unfold spV at hq; exact hq; done)); simp only [Act.put, List.setIfInBounds_toArray, List.set_cons_succ, List.set_cons_zero])
              iterate 6 (apply hav_same (by simp only [List.getElem?_toArray, List.getElem?_cons_succ, List.getElem?_cons_zero]; rfl) (by kernel_rfl); (focus (intro wv hgv _; have hcv : ∀ b o, b < _ → wv.cell? ⟨b, o, none⟩ = _ := fun b o hb => Below.cell hgv (p := ⟨b, o, none⟩) hb; (try go_simp); try rfl; done)); simp only [Act.put, List.setIfInBounds_toArray, List.set_cons_succ, List.set_cons_zero])
              (apply hav_call (by simp only [List.getElem?_toArray, List.getElem?_cons_succ, List.getElem?_cons_zero]; rfl) (by kernel_rfl); (focus (intro wv; go_simp; try exact ⟨rfl, rfl⟩; done)); (focus (intro wv hgv _; have hq := inside_any n ⟨r0, r1⟩ wv; rw [show inB n (Sp.mk r0 r1).lo (Sp.mk r0 r1).hi = true from hin] at hq; unfold spV at hq; exact hq; done)); simp only [Act.put, List.setIfInBounds_toArray, List.set_cons_succ, List.set_cons_zero])
              iterate 9 (apply hav_same (by simp only [List.getElem?_toArray, List.getElem?_cons_succ, List.getElem?_cons_zero]; rfl) (by kernel_rfl); (focus (intro wv hgv _; have hcv : ∀ b o, b < _ → wv.cell? ⟨b, o, none⟩ = _ := fun b o hb => Below.cell hgv (p := ⟨b, o, none⟩) hb; (try go_simp); try rfl; done)); simp only [Act.put, List.setIfInBounds_toArray, List.set_cons_succ, List.set_cons_zero])
              (apply hav_call (by simp only [List.getElem?_toArray, List.getElem?_cons_succ, List.getElem?_cons_zero]; rfl) (by kernel_rfl); (focus (intro wv; go_simp; try exact ⟨rfl, rfl⟩; done)); (focus (intro wv hgv _; have hq := lspan_any n n wv; unfold spV at hq; exact hq; done)); simp only [Act.put, List.setIfInBounds_toArray, List.set_cons_succ, List.set_cons_zero])
              iterate 3 (apply hav_same (by simp only [List.getElem?_toArray, List.getElem?_cons_succ, List.getElem?_cons_zero]; rfl) (by kernel_rfl); (focus (intro wv hgv _; have hcv : ∀ b o, b < _ → wv.cell? ⟨b, o, none⟩ = _ := fun b o hb => Below.cell hgv (p := ⟨b, o, none⟩) hb; (try go_simp); try rfl; done)); simp only [Act.put, List.setIfInBounds_toArray, List.set_cons_succ, List.set_cons_zero])
              refine hav_end (fun wz hgwz _ => ?_); simp only [List.filterMap]; have hcwz : ∀ b o, b < _ → wz.cell? ⟨b, o, none⟩ = _ := fun b o hb => Below.cell hgwz (p := ⟨b, o, none⟩) hb; have hfwz : ∀ b o, b < _ → wz.frozen? ⟨b, o, none⟩ = _ := fun b o hb => Below.frozen hgwz (p := ⟨b, o, none⟩) hb; have hzwz := Below.size hgwz; (try simp at hzwz)
              have HBZ : Hid (Below V.heap.size V wz) := HV5.out.trans (hgwz.mono HV5.out.size)
              clear hgwz hcwz hfwz x0 x1 xl y0 y1 ly
              go_wp2
              go_roundw
              case rel => exact ⟨n + 1, by omega, by omega, rfl, HBZ.out⟩
              case measure => simp [intOf]; omega
            · refine wp_region_havoc [(0,false),(1,false),(2,false),(3,false),(4,false),(5,false),(6,false),(7,false),(8,false),(9,false),(10,false),(11,false),(12,false),(13,false),(14,false),(15,false),(16,false),(17,false),(18,false),(19,false),(20,false),(21,false),(22,false),(23,false),(24,false)] [] (fun _ _ => False) (by kernel_rfl) (by kernel_rfl) (fun _ _ _ _ h => h.elim) ?_
              (apply hav_same (by simp only [List.getElem?_toArray, List.getElem?_cons_zero]; rfl) (by kernel_rfl); (focus (intro wv hgv _; have hcv : ∀ b o, b < _ → wv.cell? ⟨b, o, none⟩ = _ := fun b o hb => Below.cell hgv (p := ⟨b, o, none⟩) hb; (try go_simp); try rfl; done)); simp only [Act.put, List.setIfInBounds_toArray, List.set_cons_succ, List.set_cons_zero])
              iterate 3 (apply hav_same (by simp only [List.getElem?_toArray, List.getElem?_cons_succ, List.getElem?_cons_zero]; rfl) (by kernel_rfl); (focus (intro wv hgv _; have hcv : ∀ b o, b < _ → wv.cell? ⟨b, o, none⟩ = _ := fun b o hb => Below.cell hgv (p := ⟨b, o, none⟩) hb; (try go_simp); try rfl; done)); simp only [Act.put, List.setIfInBounds_toArray, List.set_cons_succ, List.set_cons_zero])
              (apply hav_call (by simp only [List.getElem?_toArray, List.getElem?_cons_succ, List.getElem?_cons_zero]; rfl) (by kernel_rfl); (focus (intro wv; go_simp; try exact ⟨rfl, rfl⟩; done)); (focus (intro wv hgv _; have hq := inside_any n ⟨r0, r1⟩ wv; rw [show inB n (Sp.mk r0 r1).lo (Sp.mk r0 r1).hi = false from hin] at hq; unfold spV at hq; exact hq; done)); simp only [Act.put, List.setIfInBounds_toArray, List.set_cons_succ, List.set_cons_zero])
              iterate 6 (apply hav_same (by simp only [List.getElem?_toArray, List.getElem?_cons_succ, List.getElem?_cons_zero]; rfl) (by kernel_rfl); (focus (intro wv hgv _; have hcv : ∀ b o, b < _ → wv.cell? ⟨b, o, none⟩ = _ := fun b o hb => Below.cell hgv (p := ⟨b, o, none⟩) hb; (try go_simp); try rfl; done)); simp only [Act.put, List.setIfInBounds_toArray, List.set_cons_succ, List.set_cons_zero])
              (apply hav_call (by simp only [List.getElem?_toArray, List.getElem?_cons_succ, List.getElem?_cons_zero]; rfl) (by kernel_rfl); (focus (intro wv; go_simp; try exact ⟨rfl, rfl⟩; done)); (focus (intro wv hgv _; have hq := inside_any n ⟨r0, r1⟩ wv; rw [show inB n (Sp.mk r0 r1).lo (Sp.mk r0 r1).hi = false from hin] at hq; unfold spV at hq; exact hq; done)); simp only [Act.put, List.setIfInBounds_toArray, List.set_cons_succ, List.set_cons_zero])
              iterate 6 (apply hav_same (by simp only [List.getElem?_toArray, List.getElem?_cons_succ, List.getElem?_cons_zero]; rfl) (by kernel_rfl); (focus (intro wv hgv _; have hcv : ∀ b o, b < _ → wv.cell? ⟨b, o, none⟩ = _ := fun b o hb => Below.cell hgv (p := ⟨b, o, none⟩) hb; (try go_simp); try rfl; done)); simp only [Act.put, List.setIfInBounds_toArray, List.set_cons_succ, List.set_cons_zero])
              iterate 5 (refine hav_skip (by simp only [List.getElem?_toArray, List.getElem?_cons_succ, List.getElem?_cons_zero]; rfl) (by kernel_rfl) ?_; simp only [Act.put, List.setIfInBounds_toArray, List.set_cons_succ, List.set_cons_zero])
              iterate 2 (apply hav_same (by simp only [List.getElem?_toArray, List.getElem?_cons_succ, List.getElem?_cons_zero]; rfl) (by kernel_rfl); (focus (intro wv hgv _; have hcv : ∀ b o, b < _ → wv.cell? ⟨b, o, none⟩ = _ := fun b o hb => Below.cell hgv (p := ⟨b, o, none⟩) hb; (try go_simp); try rfl; done)); simp only [Act.put, List.setIfInBounds_toArray, List.set_cons_succ, List.set_cons_zero])
              refine hav_end (fun wz hgwz _ => ?_); simp only [List.filterMap]; have hcwz : ∀ b o, b < _ → wz.cell? ⟨b, o, none⟩ = _ := fun b o hb => Below.cell hgwz (p := ⟨b, o, none⟩) hb; have hfwz : ∀ b o, b < _ → wz.frozen? ⟨b, o, none⟩ = _ := fun b o hb => Below.frozen hgwz (p := ⟨b, o, none⟩) hb; have hzwz := Below.size hgwz; (try simp at hzwz)
              have HBZ : Hid (Below V.heap.size V wz) := HV5.out.trans (hgwz.mono HV5.out.size)
              clear hgwz hcwz hfwz x0 x1 xl y0 y1 ly
              go_wp2
              go_roundw
              case rel => exact ⟨n + 1, by omega, by omega, rfl, HBZ.out⟩
              case measure => simp [intOf]; omega
          · have dn : decide (n ≤ N1) = false := by simp; omega
            go_wp2_with fail
            refine (awake_any _).mono ?_
            rintro e vc ⟨rfl, hbvc⟩
            go_wp2
            go_ret
            exact ⟨rfl, HBW.out.trans ((HBV2.out.trans (hbvc.mono HBV2.out.size)).mono HBW.out.size)⟩
end
end Go.Proofs.Ytbfjebglaimcmaa
