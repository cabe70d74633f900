/- The walk of PressParts: for every press it answers true. -/
import Derived.Test.YtbfjebglaimcmaaLawE
import Derived.Test.YtbfjebglaimcmaaPlain4
namespace Go.Proofs.Ytbfjebglaimcmaa
open Go.RowKit Go.Hav
section
variable {low top bales : Int} {fa wa : Option Addr} {fl fc wl wp : Nat} {p : PressD}
set_option maxRecDepth 100000 in
set_option maxHeartbeats 6400000 in
theorem PressParts_any (m : Nat) (hm : m ≤ 65535) (o : Nat) (ho : o ≤ 255) (w : World) (hP : PressIn w w.heap.size fa fl low top bales wa wl p) :
    Calls Try.prog 7 #[pressV fa fl fc low top bales wa wl wp, .int .u16 m, .int .u8 o] w fun e w' => e = .returned (.bool true) ∧ Below w.heap.size w w' := by
  have HP := Lib.hid hP
  have HEQ : Hid (p.n = fl ∧ p.low = low ∧ p.top = top) := ⟨hP.efl, hP.elow, hP.etop⟩
  have HEW : Hid (p.weighed.length = wl) := hP.ewl
  clear hP
  unfold pressV
  go_enter Try.func7, Try.ntmps7
  go_wp2_with fail
  obtain ⟨W, hW⟩ : ∃ W, W = w.alloc (Obj.cells #[Value.slice fa fl fc, Value.int IntKind.i64 low, Value.int IntKind.i64 top, Value.int IntKind.i64 bales, Value.slice wa wl wp] 25) := ⟨_, rfl⟩
  have HX : Hid (Blk W w.heap.size 25 #[Value.slice fa fl fc, Value.int IntKind.i64 low, Value.int IntKind.i64 top, Value.int IntKind.i64 bales, Value.slice wa wl wp]) := by rw [hW]; exact Blk.new w 25 _
  have HBW : Hid (Below w.heap.size w W) := by rw [hW]; exact (Below.refl _ _).alloc (Nat.le_refl _) _
  rw [← hW]
  clear hW
  have HPW : Hid (PressIn W W.heap.size fa fl low top bales wa wl p) := HP.out.grow HBW.out
  have HWT : Hid (∀ (q : Nat) (wv : World), Below W.heap.size W wv → Calls Try.prog 14 #[.agg #[.slice fa fl fc, .int .i64 low, .int .i64 top, .int .i64 bales, .slice wa wl wp], .int .i64 q] wv fun e w' => e = .returned (.tuple #[spV (weightR p q), .int .i64 (setE p q)]) ∧ Below wv.heap.size wv w') :=
    fun q wv hb => PWeight_any (p := p) q wv (by exact HPW.out.grow hb)
  have HEV : Hid (fl ≤ 40 → ∀ wv : World, Calls Try.prog 31 #[.agg #[.slice fa fl fc, .int .i64 low, .int .i64 top, .int .i64 bales, .slice wa wl wp]] wv fun e w' => e = .returned (.int .i64 (full fl : Nat)) ∧ Below wv.heap.size wv w') :=
    fun h wv => every_any (low := low) (top := top) (bales := bales) (fa := fa) (fc := fc) (wa := wa) (wl := wl) (wc := wp) h wv
  refine (fine_any (p := p) W (by exact HPW.out)).mono ?_
  rintro e v1 ⟨⟨b, rfl, hb⟩, hb1⟩
  have HC1 := Lib.hid hb1
  clear hb1
  cases b
  · clear hb
    go_wp2_with fail
    refine (awake_any _).mono ?_
    rintro e v2 ⟨rfl, hb2⟩
    go_wp2
    go_ret
    exact ⟨rfl, HBW.out.trans ((HC1.out.trans (hb2.mono HC1.out.size)).mono HBW.out.size)⟩
  obtain ⟨hv, h40, h41⟩ := hb rfl
  clear hb
  have hn10 : fl ≤ 10 := by have := (PressD.ok_head hv).1; rw [HEQ.out.1] at this; exact this
  have HV := Lib.hid hv
  have hfull : full fl ≤ 1023 := by
    unfold full
    have h := Nat.pow_le_pow_right (n := 2) (by omega) hn10
    omega
  have HAND : Hid (bits BinOp.and IntKind.i64 (m : Int) ((full fl : Nat) : Int) = ((m &&& full fl : Nat) : Int)) := and_i64 m (full fl) (by omega) (by omega)
  obtain ⟨s, hs⟩ : ∃ s, m &&& full fl = s := ⟨_, rfl⟩
  rw [hs] at HAND
  have hsf : s ≤ full fl := by rw [← hs]; exact Nat.and_le_right
  have hs10 : s < 1024 := by omega
  have HSN : Hid (s ≤ full p.n) := by show _ ≤ _; rw [HEQ.out.1]; exact hsf
  have HNOT : Hid (bits BinOp.andNot IntKind.i64 ((full fl : Nat) : Int) (s : Int) = ((p.others s : Nat) : Int)) := by show _ = _; rw [not_i64 (full fl) s (by omega) (by omega), PressD.others, HEQ.out.1]
  have HON : Hid (p.others s ≤ full p.n) := show _ ≤ _ from dif_le _ _
  clear hv hs
  have hx1 := HX.out.below (HC1.out) HX.out.lt
  have x1_0 := hx1.cell 0
  have x1_1 := hx1.cell 1
  have x1_2 := hx1.cell 2
  have x1_3 := hx1.cell 3
  have x1_4 := hx1.cell 4
  simp at x1_0 x1_1 x1_2 x1_3 x1_4
  have l1 := hx1.lt
  clear hx1
  go_wp2_with fail
  refine (HEV.out h40 _).mono ?_
  rintro e v2 ⟨rfl, hb2⟩
  have HC2 : Hid (Below W.heap.size W v2) := HC1.out.trans (hb2.mono HC1.out.size)
  clear hb2
  clear x1_0 x1_1 x1_2 x1_3 x1_4 l1
  have hx2 := HX.out.below (HC2.out) HX.out.lt
  have x2_0 := hx2.cell 0
  have x2_1 := hx2.cell 1
  have x2_2 := hx2.cell 2
  have x2_3 := hx2.cell 3
  have x2_4 := hx2.cell 4
  simp at x2_0 x2_1 x2_2 x2_3 x2_4
  have l2 := hx2.lt
  clear hx2
  have hand := HAND.out
  go_wp2_with fail
  refine (HWT.out s v2 HC2.out).mono ?_
  -- the three weights, and the one error
  obtain ⟨E, hE⟩ : ∃ E, (if p.wrong = 0 then (0 : Int) else 10) = E := ⟨_, rfl⟩
  have HSE : Hid (setE p s = E) := by show _ = _; rw [setE_ok HV.out HSN.out, hE]
  have HOE : Hid (setE p (p.others s : Nat) = E) := by show _ = _; rw [setE_ok HV.out HON.out, hE]
  have HFE : Hid (setE p (full fl : Nat) = E) := by show _ = _; rw [setE_ok HV.out (by rw [HEQ.out.1]; exact Nat.le_refl _), hE]
  have HEE := Lib.hid hE
  obtain ⟨⟨a0, a1⟩, hA⟩ : ∃ K, weightR p s = K := ⟨_, rfl⟩
  obtain ⟨⟨b0, b1⟩, hB⟩ : ∃ K, weightR p (p.others s : Nat) = K := ⟨_, rfl⟩
  obtain ⟨⟨c0, c1⟩, hC⟩ : ∃ K, weightR p (full fl : Nat) = K := ⟨_, rfl⟩
  have HA := Lib.hid hA
  have HB := Lib.hid hB
  have HC := Lib.hid hC
  clear hE hA hB hC
  obtain ⟨t, ht⟩ : ∃ t, p.others s = t := ⟨_, rfl⟩
  rw [ht] at HNOT HON HOE HB
  have HTT := Lib.hid ht
  have ht10 : t < 1024 := by have h := HON.out; rw [HEQ.out.1] at h; omega
  clear ht
  rw [HSE.out, HA.out]
  unfold spV
  rintro e v3 ⟨rfl, hb3⟩
  have HC3 : Hid (Below W.heap.size W v3) := HC2.out.trans (hb3.mono HC2.out.size)
  have hs3 := HC3.out.size
  obtain ⟨V3, hV3⟩ : ∃ V, V = v3.alloc (.cells #[.int .i64 a0, .int .i64 a1] 29) := ⟨_, rfl⟩
  have HS3 : Hid (Blk V3 v3.heap.size 29 #[.int .i64 a0, .int .i64 a1]) := by rw [hV3]; exact Blk.new v3 29 _
  have HD3 : Hid (Below W.heap.size W V3) := by rw [hV3]; exact HC3.out.alloc hs3 _
  clear hb3
  clear x2_0 x2_1 x2_2 x2_3 x2_4 l2
  have hx3 := HX.out.below (HC3.out) HX.out.lt
  have x3_0 := hx3.cell 0
  have x3_1 := hx3.cell 1
  have x3_2 := hx3.cell 2
  have x3_3 := hx3.cell 3
  have x3_4 := hx3.cell 4
  simp at x3_0 x3_1 x3_2 x3_3 x3_4
  have l3 := hx3.lt
  clear hx3
  go_upto_region 5 with fail
  rw [← hV3]
  clear x3_0 x3_1 x3_2 x3_3 x3_4 l3
  clear hV3
  have hx4 := HX.out.below (HD3.out) HX.out.lt
  have x4_0 := hx4.cell 0
  have x4_1 := hx4.cell 1
  have x4_2 := hx4.cell 2
  have x4_3 := hx4.cell 3
  have x4_4 := hx4.cell 4
  simp at x4_0 x4_1 x4_2 x4_3 x4_4
  have l4 := hx4.lt
  clear hx4
  have hVB : V3.heap.size ≤ V3.heap.size := Nat.le_refl _
  refine HavG.wp_region_havoc (R := GT V3.heap.size 29 (.int .i64 b0) (.int .i64 b1)) [(0,false),(1,false),(2,false),(3,false),(4,false),(5,false),(6,false),(7,false),(8,false),(9,true),(10,true),(11,false)] [] (fun _ _ => False) (by kernel_rfl) (by kernel_rfl) (fun _ _ _ _ h => h.elim) ?_
  (apply HavG.hav_same (by simp only [List.getElem?_toArray, List.getElem?_cons_zero]; rfl) (by kernel_rfl); (focus (intro wv hgv _; have hcv : ∀ b o, b < _ → wv.cell? ⟨b, o, none⟩ = _ := fun b o hb => Below.cell hgv.1 (p := ⟨b, o, none⟩) hb; (try go_simp); try rfl; done)); simp only [Act.put, List.setIfInBounds_toArray, List.set_cons_succ, List.set_cons_zero])
  (apply HavG.hav_same (by simp only [List.getElem?_toArray, List.getElem?_cons_succ, List.getElem?_cons_zero]; rfl) (by kernel_rfl); (focus (intro wv hgv _; have hcv : ∀ b o, b < _ → wv.cell? ⟨b, o, none⟩ = _ := fun b o hb => Below.cell hgv.1 (p := ⟨b, o, none⟩) hb; (try go_simp); try rfl; done)); simp only [Act.put, List.setIfInBounds_toArray, List.set_cons_succ, List.set_cons_zero])
  (apply HavG.hav_call (by simp only [List.getElem?_toArray, List.getElem?_cons_succ, List.getElem?_cons_zero]; rfl) (by kernel_rfl); (focus (intro wv; go_simp; try exact ⟨rfl, rfl⟩; done)); (focus (intro wv hgv _; exact (HEV.out h40 wv).mono fun e w' h => ⟨h.1, GT.below hgv.1.size h.2⟩; done)); simp only [Act.put, List.setIfInBounds_toArray, List.set_cons_succ, List.set_cons_zero])
  (apply HavG.hav_same (by simp only [List.getElem?_toArray, List.getElem?_cons_succ, List.getElem?_cons_zero]; rfl) (by kernel_rfl); (focus (intro wv hgv _; have hcv : ∀ b o, b < _ → wv.cell? ⟨b, o, none⟩ = _ := fun b o hb => Below.cell hgv.1 (p := ⟨b, o, none⟩) hb; (try go_simp); try rfl; done)); simp only [Act.put, List.setIfInBounds_toArray, List.set_cons_succ, List.set_cons_zero])
  (apply HavG.hav_same (by simp only [List.getElem?_toArray, List.getElem?_cons_succ, List.getElem?_cons_zero]; rfl) (by kernel_rfl); (focus (intro wv hgv _; have hcv : ∀ b o, b < _ → wv.cell? ⟨b, o, none⟩ = _ := fun b o hb => Below.cell hgv.1 (p := ⟨b, o, none⟩) hb; have hnt := HNOT.out; (try go_simp); try rfl; done)); simp only [Act.put, List.setIfInBounds_toArray, List.set_cons_succ, List.set_cons_zero])
  (apply HavG.hav_call (by simp only [List.getElem?_toArray, List.getElem?_cons_succ, List.getElem?_cons_zero]; rfl) (by kernel_rfl); (focus (intro wv; go_simp; try exact ⟨rfl, rfl⟩; done)); (focus (intro wv hgv _; have hq := HWT.out t wv (HD3.out.trans (hgv.1.mono HD3.out.size)); rw [HOE.out, HB.out] at hq; unfold spV at hq; exact hq.mono fun e w' h => ⟨h.1, GT.below hgv.1.size h.2⟩; done)); simp only [Act.put, List.setIfInBounds_toArray, List.set_cons_succ, List.set_cons_zero])
  iterate 3 (apply HavG.hav_same (by simp only [List.getElem?_toArray, List.getElem?_cons_succ, List.getElem?_cons_zero]; rfl) (by kernel_rfl); (focus (intro wv hgv _; have hcv : ∀ b o, b < _ → wv.cell? ⟨b, o, none⟩ = _ := fun b o hb => Below.cell hgv.1 (p := ⟨b, o, none⟩) hb; (try go_simp); try rfl; done)); simp only [Act.put, List.setIfInBounds_toArray, List.set_cons_succ, List.set_cons_zero])
  refine HavG.hav_val_ghost (PlaceT V3.heap.size 29) (by simp only [List.getElem?_toArray, List.getElem?_cons_succ, List.getElem?_cons_zero]; rfl) (by kernel_rfl) (fun v w w' h hG => h.stable hG) ?_ (fun v => ?_)
  · intro wv hgv _
    refine ⟨.pointer (some ⟨wv.heap.size, 0, none⟩), wv.alloc (.cells #[.int .i64 0, .int .i64 0] 29), ?_, GT.below hgv.1.size ((Below.refl _ _).alloc (Nat.le_refl _) _), wv.heap.size, rfl, hgv.1.size, _, _, Blk.new wv 29 _⟩
    go_simp
    try rfl
  simp only [Act.put, List.setIfInBounds_toArray, List.set_cons_succ, List.set_cons_zero]
  refine HavG.hav_store (StoredT V3.heap.size 29 (.int .i64 b0) (.int .i64 b1) v) (by simp only [List.getElem?_toArray, List.getElem?_cons_succ, List.getElem?_cons_zero]; rfl) (by kernel_rfl) rfl (fun w w' h hG => h.stable hG) ?_ ?_
  · rintro wv hgv ⟨_, g, rfl, hgB, a, b, hk⟩
    have hs := GT.set (s0 := .int .i64 b0) (s1 := .int .i64 b1) hgB hk
    have c0 := hk.cell 0
    have c1 := hk.cell 1
    have f0 := hk.frozen 0
    have f1 := hk.frozen 1
    have lg := hk.lt
    simp at c0 c1
    refine ⟨_, ?_, hs.1, g, rfl, hgB, hs.2⟩
    go_simp
    try rfl
  (apply HavG.hav_same (by simp only [List.getElem?_toArray, List.getElem?_cons_succ, List.getElem?_cons_zero]; rfl) (by kernel_rfl); (focus (intro wv hgv _; have hcv : ∀ b o, b < _ → wv.cell? ⟨b, o, none⟩ = _ := fun b o hb => Below.cell hgv.1 (p := ⟨b, o, none⟩) hb; (try go_simp); try rfl; done)); simp only [Act.put, List.setIfInBounds_toArray, List.set_cons_succ, List.set_cons_zero])
  refine HavG.hav_end (fun v5 hg5 hF => ?_)
  simp only [List.filterMap]
  obtain ⟨⟨_, _⟩, g5, rfl, hgB5, hk5⟩ := hF
  have HK5 := Lib.hid hk5
  have HC5 : Hid (Below W.heap.size W v5) := HD3.out.trans (hg5.1.mono HD3.out.size)
  have HS5 := Lib.hid (HS3.out.below (hg5.1.mono (by have := HS3.out.lt; omega)) (Nat.lt_of_lt_of_le HS3.out.lt (Nat.le_refl _)))
  clear hg5 hk5
  clear x4_0 x4_1 x4_2 x4_3 x4_4 l4
  have hx5 := HX.out.below (HC5.out) HX.out.lt
  have x5_0 := hx5.cell 0
  have x5_1 := hx5.cell 1
  have x5_2 := hx5.cell 2
  have x5_3 := hx5.cell 3
  have x5_4 := hx5.cell 4
  simp at x5_0 x5_1 x5_2 x5_3 x5_4
  have l5 := hx5.lt
  clear hx5
  go_upto_region 6 with fail
  refine HavG.wp_region_havoc (R := GT v5.heap.size 29 (.int .i64 c0) (.int .i64 c1)) [(0,false),(1,false),(2,false),(3,false),(4,false),(5,false),(6,false),(7,true),(8,true),(9,false)] [] (fun _ _ => False) (by kernel_rfl) (by kernel_rfl) (fun _ _ _ _ h => h.elim) ?_
  (apply HavG.hav_same (by simp only [List.getElem?_toArray, List.getElem?_cons_zero]; rfl) (by kernel_rfl); (focus (intro wv hgv _; have hcv : ∀ b o, b < _ → wv.cell? ⟨b, o, none⟩ = _ := fun b o hb => Below.cell hgv.1 (p := ⟨b, o, none⟩) hb; (try go_simp); try rfl; done)); simp only [Act.put, List.setIfInBounds_toArray, List.set_cons_succ, List.set_cons_zero])
  (apply HavG.hav_same (by simp only [List.getElem?_toArray, List.getElem?_cons_succ, List.getElem?_cons_zero]; rfl) (by kernel_rfl); (focus (intro wv hgv _; have hcv : ∀ b o, b < _ → wv.cell? ⟨b, o, none⟩ = _ := fun b o hb => Below.cell hgv.1 (p := ⟨b, o, none⟩) hb; (try go_simp); try rfl; done)); simp only [Act.put, List.setIfInBounds_toArray, List.set_cons_succ, List.set_cons_zero])
  (apply HavG.hav_call (by simp only [List.getElem?_toArray, List.getElem?_cons_succ, List.getElem?_cons_zero]; rfl) (by kernel_rfl); (focus (intro wv; go_simp; try exact ⟨rfl, rfl⟩; done)); (focus (intro wv hgv _; exact (HEV.out h40 wv).mono fun e w' h => ⟨h.1, GT.below hgv.1.size h.2⟩; done)); simp only [Act.put, List.setIfInBounds_toArray, List.set_cons_succ, List.set_cons_zero])
  (apply HavG.hav_call (by simp only [List.getElem?_toArray, List.getElem?_cons_succ, List.getElem?_cons_zero]; rfl) (by kernel_rfl); (focus (intro wv; go_simp; try exact ⟨rfl, rfl⟩; done)); (focus (intro wv hgv _; have hq := HWT.out (full fl) wv (HC5.out.trans (hgv.1.mono HC5.out.size)); rw [HFE.out, HC.out] at hq; unfold spV at hq; exact hq.mono fun e w' h => ⟨h.1, GT.below hgv.1.size h.2⟩; done)); simp only [Act.put, List.setIfInBounds_toArray, List.set_cons_succ, List.set_cons_zero])
  iterate 3 (apply HavG.hav_same (by simp only [List.getElem?_toArray, List.getElem?_cons_succ, List.getElem?_cons_zero]; rfl) (by kernel_rfl); (focus (intro wv hgv _; have hcv : ∀ b o, b < _ → wv.cell? ⟨b, o, none⟩ = _ := fun b o hb => Below.cell hgv.1 (p := ⟨b, o, none⟩) hb; (try go_simp); try rfl; done)); simp only [Act.put, List.setIfInBounds_toArray, List.set_cons_succ, List.set_cons_zero])
  refine HavG.hav_val_ghost (PlaceT v5.heap.size 29) (by simp only [List.getElem?_toArray, List.getElem?_cons_succ, List.getElem?_cons_zero]; rfl) (by kernel_rfl) (fun v w w' h hG => h.stable hG) ?_ (fun v => ?_)
  · intro wv hgv _
    refine ⟨.pointer (some ⟨wv.heap.size, 0, none⟩), wv.alloc (.cells #[.int .i64 0, .int .i64 0] 29), ?_, GT.below hgv.1.size ((Below.refl _ _).alloc (Nat.le_refl _) _), wv.heap.size, rfl, hgv.1.size, _, _, Blk.new wv 29 _⟩
    go_simp
    try rfl
  simp only [Act.put, List.setIfInBounds_toArray, List.set_cons_succ, List.set_cons_zero]
  refine HavG.hav_store (StoredT v5.heap.size 29 (.int .i64 c0) (.int .i64 c1) v) (by simp only [List.getElem?_toArray, List.getElem?_cons_succ, List.getElem?_cons_zero]; rfl) (by kernel_rfl) rfl (fun w w' h hG => h.stable hG) ?_ ?_
  · rintro wv hgv ⟨_, g, rfl, hgB, a, b, hk⟩
    have hs := GT.set (s0 := .int .i64 c0) (s1 := .int .i64 c1) hgB hk
    have c0' := hk.cell 0
    have c1' := hk.cell 1
    have f0 := hk.frozen 0
    have f1 := hk.frozen 1
    have lg := hk.lt
    simp at c0' c1'
    refine ⟨_, ?_, hs.1, g, rfl, hgB, hs.2⟩
    go_simp
    try rfl
  (apply HavG.hav_same (by simp only [List.getElem?_toArray, List.getElem?_cons_succ, List.getElem?_cons_zero]; rfl) (by kernel_rfl); (focus (intro wv hgv _; have hcv : ∀ b o, b < _ → wv.cell? ⟨b, o, none⟩ = _ := fun b o hb => Below.cell hgv.1 (p := ⟨b, o, none⟩) hb; (try go_simp); try rfl; done)); simp only [Act.put, List.setIfInBounds_toArray, List.set_cons_succ, List.set_cons_zero])
  refine HavG.hav_end (fun v6 hg6 hF => ?_)
  simp only [List.filterMap]
  obtain ⟨⟨_, _⟩, g6, rfl, hgB6, hk6⟩ := hF
  have HK6 := Lib.hid hk6
  have HC6 : Hid (Below W.heap.size W v6) := HC5.out.trans (hg6.1.mono HC5.out.size)
  have HB6 := Lib.hid (HK5.out.below hg6.1 HK5.out.lt)
  have HS6 := Lib.hid (HS5.out.below hg6.1 HS5.out.lt)
  clear hg6 hk6
  clear x5_0 x5_1 x5_2 x5_3 x5_4 l5
  have y0 := HS6.out.cell 0
  have y1 := HS6.out.cell 1
  have y2 := HK6.out.cell 0
  have y3 := HK6.out.cell 1
  have ly := HS6.out.lt
  have lz := HK6.out.lt
  simp at y0 y1 y2 y3
  have hEE : (E != E) = false := by simp
  by_cases hw : p.wrong = 0
  case neg =>
    obtain rfl : E = 10 := by rw [← HEE.out, if_neg hw]
    have ha : a0 = 0 ∧ a1 = 0 := by have h := HA.out; rw [weightR, HSE.out] at h; simp at h; omega
    have hc : c0 = 0 ∧ c1 = 0 := by have h := HC.out; rw [weightR, HFE.out] at h; simp at h; omega
    obtain ⟨rfl, rfl⟩ := ha
    obtain ⟨rfl, rfl⟩ := hc
    go_wp2_with fail
    refine (awake_any _).mono ?_
    rintro e v7 ⟨rfl, hb7⟩
    go_wp2
    go_ret
    exact ⟨rfl, HBW.out.trans ((HC6.out.trans (hb7.mono HC6.out.size)).mono HBW.out.size)⟩
  obtain rfl : E = 0 := by rw [← HEE.out, if_pos hw]
  have hsn : s < 2 ^ p.n := le_full.1 HSN.out
  have hEA : p.weight s = ⟨a0, a1⟩ := by have h := HA.out; rw [weightR, HSE.out, if_pos rfl] at h; exact h
  have hEB : p.weight t = ⟨b0, b1⟩ := by have h := HB.out; rw [weightR, HOE.out, if_pos rfl] at h; exact h
  have hEC : p.weight (full p.n) = ⟨c0, c1⟩ := by have h := HC.out; rw [weightR, HFE.out, if_pos rfl] at h; rw [HEQ.out.1]; exact h
  have htog := PressD.weight_tog HV.out hw hsn
  rw [HTT.out, hEA, hEB, hEC] at htog
  obtain ⟨t1, t2, t3, t4⟩ := htog
  simp only at t1 t2 t3 t4
  have hba := PressD.weight_bd HV.out s
  have hbb := PressD.weight_bd HV.out t
  have hbc := PressD.weight_bd HV.out (full p.n)
  rw [hEA] at hba
  rw [hEB] at hbb
  rw [hEC] at hbc
  obtain ⟨ba1, ba2, ba3, ba4⟩ := hba
  obtain ⟨bb1, bb2, bb3, bb4⟩ := hbb
  obtain ⟨bc1, bc2, bc3, bc4⟩ := hbc
  simp only at ba1 ba2 ba3 ba4 bb1 bb2 bb3 bb4 bc1 bc2 bc3 bc4
  have w1 : IntKind.i64.wrap (a0 + b0) = a0 + b0 := wrap_i64 (by omega) (by omega)
  have w2 : IntKind.i64.wrap (a1 + b1) = a1 + b1 := wrap_i64 (by omega) (by omega)
  have w3 : IntKind.i64.wrap (a0 + b1) = a0 + b1 := wrap_i64 (by omega) (by omega)
  have w4 : IntKind.i64.wrap (a1 + b0) = a1 + b0 := wrap_i64 (by omega) (by omega)
  have d1 : decide (c0 < a0 + b0) = false := by simp; omega
  have d2 : decide (a1 + b1 < c1) = false := by simp; omega
  have d3 : decide (a0 + b1 < c0) = false := by simp; omega
  have d4 : decide (c1 < a1 + b0) = false := by simp; omega
  have y4 := HB6.out.cell 0
  have y5 := HB6.out.cell 1
  have lb := HB6.out.lt
  simp at y4 y5
  have HX6 := HX.out.below HC6.out HX.out.lt
  have x4 := HX6.cell 4
  have lx := HX6.lt
  simp at x4
  clear HX6
  have HNONE : Hid (wl = 0 → c0 = a0 + b0 ∧ c1 = a1 + b1) := show _ → _ from fun h0 => by
    have h := PressD.weight_none (p := p) (by rw [HEW.out, h0]) hsn
    rw [HTT.out, hEA, hEB, hEC] at h
    simpa using h
  have HKA := Lib.hid hEA
  have HBLE : Hid (b0 ≤ b1) := by have h := PressD.weight_le HV.out hw t; rw [hEB] at h; exact h
  have HWR := Lib.hid hw
  clear hw hsn hEA hEB hEC t1 t2 t3 t4
  by_cases hwl : wl = 0
  · obtain ⟨e1, e2⟩ := HNONE.out hwl
    subst e1 e2
    subst hwl
    have hbl : decide (b1 < b0) = false := by have := HBLE.out; simp; omega
    go_upto_region 9 with fail
    refine wp_region_havoc [(0,false),(1,false),(2,false),(3,false),(4,false),(5,false),(6,false),(7,false),(8,false),(9,false),(10,false),(11,false),(12,false),(13,false),(14,false),(15,false),(16,false),(17,false),(18,false),(19,false),(20,false),(21,false),(22,false),(23,false),(24,false),(25,false),(26,false),(27,false),(28,false),(29,false),(30,false),(31,false),(32,false),(33,false),(34,false),(35,false),(36,false),(37,false),(38,false),(39,false),(40,false),(41,false),(42,false),(43,false),(44,false),(45,false),(46,false),(47,false),(48,false),(49,false),(50,false),(51,false),(52,false),(53,false),(54,false),(55,false),(56,false),(57,false),(58,false)] [] (fun _ _ => False) (by kernel_rfl) (by kernel_rfl) (fun _ _ _ _ h => h.elim) ?_
    (apply hav_same (by simp only [List.getElem?_toArray, List.getElem?_cons_zero]; rfl) (by kernel_rfl); (focus (intro wv hgv _; have hcv : ∀ b o, b < _ → wv.cell? ⟨b, o, none⟩ = _ := fun b o hb => Below.cell hgv (p := ⟨b, o, none⟩) hb; (try go_simp); try rfl; done)); simp only [Act.put, List.setIfInBounds_toArray, List.set_cons_succ, List.set_cons_zero])
    iterate 54 (apply hav_same (by simp only [List.getElem?_toArray, List.getElem?_cons_succ, List.getElem?_cons_zero]; rfl) (by kernel_rfl); (focus (intro wv hgv _; have hcv : ∀ b o, b < _ → wv.cell? ⟨b, o, none⟩ = _ := fun b o hb => Below.cell hgv (p := ⟨b, o, none⟩) hb; (try go_simp); try rfl; done)); simp only [Act.put, List.setIfInBounds_toArray, List.set_cons_succ, List.set_cons_zero])
    (apply hav_call (by simp only [List.getElem?_toArray, List.getElem?_cons_succ, List.getElem?_cons_zero]; rfl) (by kernel_rfl); (focus (intro wv; go_simp; try exact ⟨rfl, rfl⟩; done)); (focus (intro wv hgv _; have hq := lspan_any (a0 + b0) (a1 + b1) wv; unfold spV at hq; exact hq; done)); simp only [Act.put, List.setIfInBounds_toArray, List.set_cons_succ, List.set_cons_zero])
    iterate 3 (apply hav_same (by simp only [List.getElem?_toArray, List.getElem?_cons_succ, List.getElem?_cons_zero]; rfl) (by kernel_rfl); (focus (intro wv hgv _; have hcv : ∀ b o, b < _ → wv.cell? ⟨b, o, none⟩ = _ := fun b o hb => Below.cell hgv (p := ⟨b, o, none⟩) hb; (try go_simp); try rfl; done)); simp only [Act.put, List.setIfInBounds_toArray, List.set_cons_succ, List.set_cons_zero])
    refine hav_end (fun v7 hgv7 _ => ?_); simp only [List.filterMap]; have hcv7 : ∀ b o, b < _ → v7.cell? ⟨b, o, none⟩ = _ := fun b o hb => Below.cell hgv7 (p := ⟨b, o, none⟩) hb; have hfv7 : ∀ b o, b < _ → v7.frozen? ⟨b, o, none⟩ = _ := fun b o hb => Below.frozen hgv7 (p := ⟨b, o, none⟩) hb; have hzv7 := Below.size hgv7; (try simp at hzv7)
    have HC7 : Hid (Below W.heap.size W v7) := HC6.out.trans (hgv7.mono HC6.out.size)
    have x47 : v7.cell? ⟨w.heap.size, 4, none⟩ = some (.slice wa 0 wp) := (Below.cell hgv7 (p := ⟨w.heap.size, 4, none⟩) lx).trans x4
    have lx7 : w.heap.size < v7.heap.size := by have := hgv7.size; omega
    clear hgv7 hcv7 hfv7
    go_wp2_with fail
    refine (awake_any _).mono ?_
    rintro e v8 ⟨rfl, hb8⟩
    go_wp2
    go_ret
    exact ⟨rfl, HBW.out.trans ((HC7.out.trans (hb8.mono HC7.out.size)).mono HBW.out.size)⟩
  have hwb : (wl == 0) = false := by simp [hwl]
  have hwb2 : ((wl : Int) == 0) = false := by simp; omega
  go_upto_region 9 with fail
  refine wp_region_havoc [(0,false),(1,false),(2,false),(3,false),(4,false),(5,false),(6,false),(7,false),(8,false),(9,false),(10,false),(11,false),(12,false),(13,false),(14,false),(15,false),(16,false),(17,false),(18,false),(19,false),(20,false),(21,false),(22,false),(23,false),(24,false),(25,false),(26,false),(27,false),(28,false),(29,false),(30,false),(31,false),(32,false),(33,false),(34,false),(35,false),(36,false),(37,false),(38,false),(39,false),(40,false),(41,false),(42,false),(43,false),(44,false),(45,false),(46,false),(47,false),(48,false),(49,false),(50,false),(51,false),(52,false),(53,false),(54,false),(55,false),(56,false),(57,false),(58,false)] [] (fun _ _ => False) (by kernel_rfl) (by kernel_rfl) (fun _ _ _ _ h => h.elim) ?_
  (apply hav_same (by simp only [List.getElem?_toArray, List.getElem?_cons_zero]; rfl) (by kernel_rfl); (focus (intro wv hgv _; have hcv : ∀ b o, b < _ → wv.cell? ⟨b, o, none⟩ = _ := fun b o hb => Below.cell hgv (p := ⟨b, o, none⟩) hb; (try go_simp); try rfl; done)); simp only [Act.put, List.setIfInBounds_toArray, List.set_cons_succ, List.set_cons_zero])
  iterate 43 (apply hav_same (by simp only [List.getElem?_toArray, List.getElem?_cons_succ, List.getElem?_cons_zero]; rfl) (by kernel_rfl); (focus (intro wv hgv _; have hcv : ∀ b o, b < _ → wv.cell? ⟨b, o, none⟩ = _ := fun b o hb => Below.cell hgv (p := ⟨b, o, none⟩) hb; (try go_simp); try rfl; done)); simp only [Act.put, List.setIfInBounds_toArray, List.set_cons_succ, List.set_cons_zero])
  iterate 13 (refine hav_skip (by simp only [List.getElem?_toArray, List.getElem?_cons_succ, List.getElem?_cons_zero]; rfl) (by kernel_rfl) ?_; simp only [Act.put, List.setIfInBounds_toArray, List.set_cons_succ, List.set_cons_zero])
  iterate 2 (apply hav_same (by simp only [List.getElem?_toArray, List.getElem?_cons_succ, List.getElem?_cons_zero]; rfl) (by kernel_rfl); (focus (intro wv hgv _; have hcv : ∀ b o, b < _ → wv.cell? ⟨b, o, none⟩ = _ := fun b o hb => Below.cell hgv (p := ⟨b, o, none⟩) hb; (try go_simp); try rfl; done)); simp only [Act.put, List.setIfInBounds_toArray, List.set_cons_succ, List.set_cons_zero])
  refine hav_end (fun v7 hgv7 _ => ?_); simp only [List.filterMap]; have hcv7 : ∀ b o, b < _ → v7.cell? ⟨b, o, none⟩ = _ := fun b o hb => Below.cell hgv7 (p := ⟨b, o, none⟩) hb; have hfv7 : ∀ b o, b < _ → v7.frozen? ⟨b, o, none⟩ = _ := fun b o hb => Below.frozen hgv7 (p := ⟨b, o, none⟩) hb; have hzv7 := Below.size hgv7; (try simp at hzv7)
  have HC7 : Hid (Below W.heap.size W v7) := HC6.out.trans (hgv7.mono HC6.out.size)
  have HS7 := Lib.hid (HS6.out.below hgv7 HS6.out.lt)
  clear hgv7 hcv7 hfv7 hwb
  clear y0 y1 y2 y3 y4 y5 ly lz lb x4 lx d1 d2 d3 d4 w1 w2 w3 w4
  have HX7 := HX.out.below HC7.out HX.out.lt
  have x0 := HX7.cell 0
  have x1 := HX7.cell 1
  have x2 := HX7.cell 2
  have x3 := HX7.cell 3
  have x4 := HX7.cell 4
  have lx := HX7.lt
  simp at x0 x1 x2 x3 x4
  clear HX7
  have hwl1 : 0 < p.weighed.length := by rw [HEW.out]; omega
  obtain ⟨wb, wo, hwa, -⟩ := HPW.out.hwl 0 _ (List.getElem?_eq_getElem hwl1)
  subst hwa
  have hwl41 : wl ≤ 4 := by have := (PressD.ok_head HV.out).2.2.2.2.2.2; rw [HEW.out] at this; exact this
  obtain ⟨i0, hi, hz0, hz1, hz2⟩ := info_parts Try.infoE56
  have HI := Lib.hid hi
  have HI0 := Lib.hid hz0
  have HI1 := Lib.hid hz1
  have HI2 := Lib.hid hz2
  clear hi hz0 hz1 hz2
  obtain ⟨j, hj⟩ : ∃ j, o % wl = j := ⟨_, rfl⟩
  have hjl : j < wl := by rw [← hj]; exact Nat.mod_lt _ (by omega)
  have HREM : Hid ((o : Int).tmod (wl : Int) = (j : Int)) := by show _ = _; rw [← hj]; exact (Int.ofNat_tmod o wl).symm
  clear hj
  obtain ⟨U, hU⟩ : ∃ U, U = v7.alloc (Obj.cells #[Value.slice fa fl fc, Value.int IntKind.i64 low, Value.int IntKind.i64 top, Value.int IntKind.i64 bales, Value.slice (some ⟨wb, wo, none⟩) wl wp] 25) := ⟨_, rfl⟩
  have HXU : Hid (Blk U v7.heap.size 25 #[Value.slice fa fl fc, Value.int IntKind.i64 low, Value.int IntKind.i64 top, Value.int IntKind.i64 bales, Value.slice (some ⟨wb, wo, none⟩) wl wp]) := by rw [hU]; exact Blk.new v7 25 _
  have hs7 := HC7.out.size
  have HBU : Hid (Below W.heap.size W U) := by rw [hU]; exact HC7.out.alloc hs7 _
  have hUs : U.heap.size = v7.heap.size + 1 := by rw [hU]; simp
  have HOWN := Lib.hid (ownsRow_empty (w := U) (g := v7.heap.size + 1) hUs 56 3)
  have HBU1 : Hid (Below W.heap.size W (U.alloc (Obj.cells #[] 56))) := HBU.out.alloc (by omega) _
  have hx5 := HXU.out.below ((Below.refl U.heap.size U).alloc (Nat.le_refl _) (Obj.cells #[] 56)) HXU.out.lt
  have hUU : U.heap.size ≤ (U.alloc (Obj.cells #[] 56)).heap.size := by simp
  have HNEWS := Lib.hid ((HPW.out.hwl.below HBU1.out).news baF_len (by decide))
  clear hx5
  subst hU
  go_wp2_with (at_builtin; refine wpList_append_own _ rfl _ _ 23 rfl (v7.heap.size + 1) 56 i0 _ 3 24 Try.underlying23 HI.out HI0.out HI1.out HI2.out rfl (by decide) _ 0 [] rfl HOWN.out ⟨wb, wo, none⟩ wl wp (p.weighed.flatMap baF) rfl (by rw [flat_len baF 3 baF_len, HEW.out]) HNEWS.out (by simp only [List.mem_flatMap, baF]; rintro u ⟨x, _, hx⟩; simp at hx; rcases hx with rfl | rfl | rfl <;> rfl) (by unfold maxLen; omega) (by omega) (by simp) ?_)
  intro v' w2 hown2 hgrow2 _
  have hb2 : Below (v7.heap.size + 1) _ w2 := Below.grown (Below.refl _ _) hgrow2 (by simp) (by intro k hk; simp [Value.ownBlock] at hk; omega)
  have HX2 := Lib.hid ((HXU.out.below ((Below.refl (v7.heap.size + 1) _).alloc (by simp) (Obj.cells #[] 56)) (by omega)).below hb2 (by omega))
  have HC2' : Hid (Below W.heap.size W w2) := HBU1.out.trans (hb2.mono (by omega))
  have hown2 : w2.ownsRow (v7.heap.size + 1) 56 3 v' wl (p.weighed.flatMap baF) := by simpa using hown2
  obtain ⟨g, cap, cur, rfl, hg, hkg, hcs, hcap, hrd⟩ := own_read (by omega) hown2
  have HKG := Lib.hid hkg
  have HRD := Lib.hid hrd
  clear hb2 hown2 hgrow2 hkg hrd x0 x1 x2 x3 x4 lx
  have x4 := HX2.out.cell 4
  have xf := HX2.out.frozen 4
  have lx := HX2.out.lt
  simp at x4
  obtain ⟨M, hM⟩ : ∃ M, M = w2.setCell ⟨v7.heap.size, 4, none⟩ (Value.slice (some ⟨g, 0, none⟩) wl cap) := ⟨_, rfl⟩
  have HXM : Hid (Blk M v7.heap.size 25 #[Value.slice fa fl fc, Value.int IntKind.i64 low, Value.int IntKind.i64 top, Value.int IntKind.i64 bales, Value.slice (some ⟨g, 0, none⟩) wl cap]) := by
    rw [hM]
    have h := HX2.out.set_ 4 (Value.slice (some ⟨g, 0, none⟩) wl cap)
    show Blk _ _ _ _
    simpa using h
  have HGM : Hid (Blk M g 56 cur) := by rw [hM]; exact HKG.out.far (by show g ≠ v7.heap.size; omega) _
  have HRM : Hid (RdG baF 3 M M.heap.size (some ⟨g, 0, none⟩) p.weighed) := HRD.out.blk HKG.out HGM.out HGM.out.lt
  have HCM : Hid (Below W.heap.size W M) := by rw [hM]; exact setCell_below HC2'.out hs7 4 _
  go_upto_region 15 with fail
  rw [← hM]
  clear hM x4 xf lx
  have x4 := HXM.out.cell 4
  have lx := HXM.out.lt
  simp at x4
  have hwb3 : ¬ wl = 0 := by omega
  have hjw : (j : Int) < wl := by omega
  have hj0 : (0 : Int) ≤ j := by omega
  have hrem := HREM.out
  refine wp_region_havoc [(0,false),(1,false),(2,false),(3,false),(4,false),(5,false),(6,false),(7,false),(8,false),(9,false)] [] (fun _ _ => False) (by kernel_rfl) (by kernel_rfl) (fun _ _ _ _ h => h.elim) ?_
  (apply hav_same (by simp only [List.getElem?_toArray, List.getElem?_cons_zero]; rfl) (by kernel_rfl); (focus (intro wv hgv _; have hcv : ∀ b o, b < _ → wv.cell? ⟨b, o, none⟩ = _ := fun b o hb => Below.cell hgv (p := ⟨b, o, none⟩) hb; (try go_simp); try rfl; done)); simp only [Act.put, List.setIfInBounds_toArray, List.set_cons_succ, List.set_cons_zero])
  iterate 2 (apply hav_same (by simp only [List.getElem?_toArray, List.getElem?_cons_succ, List.getElem?_cons_zero]; rfl) (by kernel_rfl); (focus (intro wv hgv _; have hcv : ∀ b o, b < _ → wv.cell? ⟨b, o, none⟩ = _ := fun b o hb => Below.cell hgv (p := ⟨b, o, none⟩) hb; (try go_simp); try rfl; done)); simp only [Act.put, List.setIfInBounds_toArray, List.set_cons_succ, List.set_cons_zero])
  (apply hav_same (by simp only [List.getElem?_toArray, List.getElem?_cons_succ, List.getElem?_cons_zero]; rfl) (by kernel_rfl); (focus (intro wv hgv _; exact conv8 rfl rfl (by omega) (by omega) _)); simp only [Act.put, List.setIfInBounds_toArray, List.set_cons_succ, List.set_cons_zero])
  iterate 3 (apply hav_same (by simp only [List.getElem?_toArray, List.getElem?_cons_succ, List.getElem?_cons_zero]; rfl) (by kernel_rfl); (focus (intro wv hgv _; have hcv : ∀ b o, b < _ → wv.cell? ⟨b, o, none⟩ = _ := fun b o hb => Below.cell hgv (p := ⟨b, o, none⟩) hb; (try go_simp); try rfl; done)); simp only [Act.put, List.setIfInBounds_toArray, List.set_cons_succ, List.set_cons_zero])
  iterate 3 (apply hav_same (by simp only [List.getElem?_toArray, List.getElem?_cons_succ, List.getElem?_cons_zero]; rfl) (by kernel_rfl); (focus (intro wv hgv _; have hcv : ∀ b o, b < _ → wv.cell? ⟨b, o, none⟩ = _ := fun b o hb => Below.cell hgv (p := ⟨b, o, none⟩) hb; (try go_simp); try rfl; done)); simp only [Act.put, List.setIfInBounds_toArray, List.set_cons_succ, List.set_cons_zero])
  refine hav_end (fun v8 hgv8 _ => ?_); simp only [List.filterMap]; have hcv8 : ∀ b o, b < _ → v8.cell? ⟨b, o, none⟩ = _ := fun b o hb => Below.cell hgv8 (p := ⟨b, o, none⟩) hb; have hfv8 : ∀ b o, b < _ → v8.frozen? ⟨b, o, none⟩ = _ := fun b o hb => Below.frozen hgv8 (p := ⟨b, o, none⟩) hb; have hzv8 := Below.size hgv8; (try simp at hzv8)
  have HC8 : Hid (Below W.heap.size W v8) := HCM.out.trans (hgv8.mono HCM.out.size)
  have HG8 := Lib.hid (HGM.out.below hgv8 HGM.out.lt)
  have HX8 := Lib.hid (HXM.out.below hgv8 HXM.out.lt)
  have HR8 := Lib.hid (HRM.out.blk HGM.out HG8.out HG8.out.lt)
  clear hgv8 hcv8 hfv8 x4 lx
  obtain ⟨⟨q, ⟨l, u⟩⟩, hc⟩ : ∃ c, p.weighed[j]? = some c := ⟨_, List.getElem?_eq_getElem (by rw [HEW.out]; exact hjl)⟩
  have hba : p.ba j = ⟨q, ⟨l, u⟩⟩ := by unfold PressD.ba; rw [hc]; rfl
  have hjw' : j < p.weighed.length := by rw [HEW.out]; exact hjl
  have hokb := PressD.ok_ba HV.out hjw'
  rw [hba] at hokb
  obtain ⟨k1, k2, k3, k4, k5, k6, k7⟩ := hokb
  simp only at k1 k5 k6 k7
  obtain ⟨B, hB⟩ : ∃ B, p.bs j = B := ⟨_, rfl⟩
  rw [hB] at k1 k2 k3 k4
  subst k1
  have HBS := Lib.hid hB
  clear hB k4
  have hB10 : B < 1024 := Nat.lt_of_lt_of_le k2 (PressD.n_pow HV.out)
  have HBF : Hid (B ≤ full p.n) := le_full.2 k2
  obtain ⟨gb, go, he, lg, z0, z1, z2⟩ := rd_ba HR8.out j _ hc
  injection he with he
  injection he with e1 e2
  subst e1 e2
  rw [Nat.zero_add] at z0 z1 z2
  have zf := HG8.out.frozen (j * 3 + 2)
  obtain ⟨M2, hM2⟩ : ∃ M2, M2 = v8.setCell ⟨g, j * 3 + 2, none⟩ (.int .i64 l) := ⟨_, rfl⟩
  have HEX : Hid (p.weighed.set j ⟨(B : Int), ⟨l, l⟩⟩ = (p.exactB j).weighed) := by show _ = _; unfold PressD.exactB; rw [hba]
  have HR9 : Hid (RdG baF 3 M2 M2.heap.size (some ⟨g, 0, none⟩) (p.exactB j).weighed) := by
    have h := HR8.out.set_hi HG8.out (by rw [HEW.out]; exact hcs) hc l
    simp only at h
    rw [HEX.out, ← hM2] at h
    exact h.more (by rw [hM2]; simp [World.setCell])
  have HG9 : Hid (Blk M2 g 56 (cur.setIfInBounds (j * 3 + 2) (.int .i64 l))) := by rw [hM2]; exact HG8.out.set_ _ _
  have HX9 : Hid (Blk M2 v7.heap.size 25 #[Value.slice fa fl fc, Value.int IntKind.i64 low, Value.int IntKind.i64 top, Value.int IntKind.i64 bales, Value.slice (some ⟨g, 0, none⟩) wl cap]) := by rw [hM2]; exact HX8.out.far (by show v7.heap.size ≠ g; omega) _
  have HC9 : Hid (Below W.heap.size W M2) := by rw [hM2]; exact setCell_below HC8.out (by omega) _ _
  have HP9 : Hid (PressIn M2 M2.heap.size fa fl low top bales (some ⟨g, 0, none⟩) wl (p.exactB j)) := by
    have h := HPW.out.grow HC9.out
    exact ⟨h.elow, h.etop, h.ebales, h.efl, by rw [PressD.exact_len]; exact h.ewl, h.mfl, h.mwl, h.hfl, HR9.out⟩
  have HWX : Hid (∀ (q : Nat) (wv : World), Below M2.heap.size M2 wv → Calls Try.prog 14 #[.agg #[.slice fa fl fc, .int .i64 low, .int .i64 top, .int .i64 bales, .slice (some ⟨g, 0, none⟩) wl cap], .int .i64 q] wv fun e w' => e = .returned (.tuple #[spV (weightR (p.exactB j) q), .int .i64 (setE (p.exactB j) q)]) ∧ Below wv.heap.size wv w') :=
    fun q wv hb => PWeight_any (p := p.exactB j) q wv (by exact HP9.out.grow hb)
  have HROW : Hid (∀ wv, Below M2.heap.size M2 wv → wv.cell? ⟨g, j * 3, none⟩ = some (.int .i64 B) ∧ wv.cell? ⟨g, j * 3 + 1, none⟩ = some (.int .i64 l) ∧ g < wv.heap.size) := by
    refine show ∀ _, _ from fun wv hb => ?_
    have h := HG9.out.below hb HG9.out.lt
    refine ⟨?_, ?_, h.lt⟩
    · rw [h.cell, Array.getElem?_setIfInBounds_ne (by omega), ← HG8.out.cell]; exact z0
    · rw [h.cell, Array.getElem?_setIfInBounds_ne (by omega), ← HG8.out.cell]; exact z1
  go_upto_region 17 with fail
  rw [← hM2]
  clear hM2 z0 z1 z2 lg zf
  -- the two weights
  have HXV := Lib.hid (PressD.exact_ok HV.out hjw')
  obtain ⟨F, hF⟩ : ∃ F, (if (p.exactB j).wrong = 0 then (0 : Int) else 10) = F := ⟨_, rfl⟩
  have hu1 : s &&& B < 1024 := Nat.lt_of_le_of_lt Nat.and_le_left hs10
  have HU1 : Hid (setE (p.exactB j) (s &&& B : Nat) = F) := by show _ = _; rw [setE_ok HXV.out (Nat.le_trans Nat.and_le_left HSN.out), hF]
  have HU2 : Hid (setE (p.exactB j) (dif B s : Nat) = F) := by show _ = _; rw [setE_ok HXV.out (Nat.le_trans (dif_le _ _) HBF.out), hF]
  have HN1 : Hid (bits BinOp.and IntKind.i64 (s : Int) (B : Int) = ((s &&& B : Nat) : Int)) := and_i64 s B (by omega) (by omega)
  have HN2 : Hid (bits BinOp.andNot IntKind.i64 (B : Int) (s : Int) = ((dif B s : Nat) : Int)) := not_i64 B s (by omega) (by omega)
  have HFF := Lib.hid hF
  clear hF
  obtain ⟨⟨m0, m1⟩, hK1⟩ : ∃ K, weightR (p.exactB j) (s &&& B : Nat) = K := ⟨_, rfl⟩
  obtain ⟨⟨n0, n1⟩, hK2⟩ : ∃ K, weightR (p.exactB j) (dif B s : Nat) = K := ⟨_, rfl⟩
  have HK1 := Lib.hid hK1
  have HK2 := Lib.hid hK2
  have HPARTS : Hid ((p.exactB j).wrong = 0 → IntKind.i64.wrap (m0 + n1) = l ∧ IntKind.i64.wrap (m1 + n0) = l) := by
    refine show _ → _ from fun h0 => ?_
    have hF : F = 0 := by rw [← HFF.out, if_pos h0]
    have h := PressD.exact_parts (s := s) HV.out hjw' h0
    rw [weightR, HU1.out, if_pos hF] at hK1
    rw [weightR, HU2.out, if_pos hF] at hK2
    rw [HBS.out, hba] at h
    simp only [Int.toNat_natCast] at hK1 hK2
    rw [hK1, hK2] at h
    simp only at h
    obtain ⟨h1, h2⟩ := h
    rw [h1, h2]
    exact ⟨wrap_i64 (by omega) (by omega), wrap_i64 (by omega) (by omega)⟩
  clear hK1 hK2
  obtain ⟨r, hr⟩ : ∃ r, s &&& B = r := ⟨_, rfl⟩
  obtain ⟨r2, hr2⟩ : ∃ r, dif B s = r := ⟨_, rfl⟩
  rw [hr] at HU1 HN1 HK1 hu1
  rw [hr2] at HU2 HN2 HK2
  clear hr hr2 hB10 k2
  have hx := HX9.out
  have x0 := hx.cell 0
  have x1 := hx.cell 1
  have x2 := hx.cell 2
  have x3 := hx.cell 3
  have x4 := hx.cell 4
  simp at x0 x1 x2 x3 x4
  have lx := hx.lt
  clear hx
  obtain ⟨z0, z1, lg⟩ := HROW.out M2 (Below.refl _ _)
  refine HavG.wp_region_havoc (R := GT M2.heap.size 29 (.int .i64 m0) (.int .i64 m1)) [(0,false),(1,false),(2,false),(3,false),(4,false),(5,false),(6,false),(7,false),(8,false),(9,false),(10,false),(11,true),(12,true),(13,false)] [] (fun _ _ => False) (by kernel_rfl) (by kernel_rfl) (fun _ _ _ _ h => h.elim) ?_
  (apply HavG.hav_same (by simp only [List.getElem?_toArray, List.getElem?_cons_zero]; rfl) (by kernel_rfl); (focus (intro wv hgv _; have hcv : ∀ b o, b < _ → wv.cell? ⟨b, o, none⟩ = _ := fun b o hb => Below.cell hgv.1 (p := ⟨b, o, none⟩) hb; (try go_simp); try rfl; done)); simp only [Act.put, List.setIfInBounds_toArray, List.set_cons_succ, List.set_cons_zero])
  iterate 5 (apply HavG.hav_same (by simp only [List.getElem?_toArray, List.getElem?_cons_succ, List.getElem?_cons_zero]; rfl) (by kernel_rfl); (focus (intro wv hgv _; have hcv : ∀ b o, b < _ → wv.cell? ⟨b, o, none⟩ = _ := fun b o hb => Below.cell hgv.1 (p := ⟨b, o, none⟩) hb; (try go_simp); try rfl; done)); simp only [Act.put, List.setIfInBounds_toArray, List.set_cons_succ, List.set_cons_zero])
  (apply HavG.hav_same (by simp only [List.getElem?_toArray, List.getElem?_cons_succ, List.getElem?_cons_zero]; rfl) (by kernel_rfl); (focus (intro wv hgv _; have hcv : ∀ b o, b < _ → wv.cell? ⟨b, o, none⟩ = _ := fun b o hb => Below.cell hgv.1 (p := ⟨b, o, none⟩) hb; have hnt := HN1.out; (try go_simp); try rfl; done)); simp only [Act.put, List.setIfInBounds_toArray, List.set_cons_succ, List.set_cons_zero])
  (apply HavG.hav_call (by simp only [List.getElem?_toArray, List.getElem?_cons_succ, List.getElem?_cons_zero]; rfl) (by kernel_rfl); (focus (intro wv; go_simp; try exact ⟨rfl, rfl⟩; done)); (focus (intro wv hgv _; have hq := HWX.out r wv (hgv.1); rw [HU1.out, HK1.out] at hq; unfold spV at hq; exact hq.mono fun e w' h => ⟨h.1, GT.below hgv.1.size h.2⟩; done)); simp only [Act.put, List.setIfInBounds_toArray, List.set_cons_succ, List.set_cons_zero])
  iterate 3 (apply HavG.hav_same (by simp only [List.getElem?_toArray, List.getElem?_cons_succ, List.getElem?_cons_zero]; rfl) (by kernel_rfl); (focus (intro wv hgv _; have hcv : ∀ b o, b < _ → wv.cell? ⟨b, o, none⟩ = _ := fun b o hb => Below.cell hgv.1 (p := ⟨b, o, none⟩) hb; (try go_simp); try rfl; done)); simp only [Act.put, List.setIfInBounds_toArray, List.set_cons_succ, List.set_cons_zero])
  refine HavG.hav_val_ghost (PlaceT M2.heap.size 29) (by simp only [List.getElem?_toArray, List.getElem?_cons_succ, List.getElem?_cons_zero]; rfl) (by kernel_rfl) (fun v w w' h hG => h.stable hG) ?_ (fun v => ?_)
  · intro wv hgv _
    refine ⟨.pointer (some ⟨wv.heap.size, 0, none⟩), wv.alloc (.cells #[.int .i64 0, .int .i64 0] 29), ?_, GT.below hgv.1.size ((Below.refl _ _).alloc (Nat.le_refl _) _), wv.heap.size, rfl, hgv.1.size, _, _, Blk.new wv 29 _⟩
    go_simp
    try rfl
  simp only [Act.put, List.setIfInBounds_toArray, List.set_cons_succ, List.set_cons_zero]
  refine HavG.hav_store (StoredT M2.heap.size 29 (.int .i64 m0) (.int .i64 m1) v) (by simp only [List.getElem?_toArray, List.getElem?_cons_succ, List.getElem?_cons_zero]; rfl) (by kernel_rfl) rfl (fun w w' h hG => h.stable hG) ?_ ?_
  · rintro wv hgv ⟨_, g', rfl, hgB, a, b, hk⟩
    have hs := GT.set (s0 := .int .i64 m0) (s1 := .int .i64 m1) hgB hk
    have c0' := hk.cell 0
    have c1' := hk.cell 1
    have f0 := hk.frozen 0
    have f1 := hk.frozen 1
    have lg' := hk.lt
    simp at c0' c1'
    refine ⟨_, ?_, hs.1, g', rfl, hgB, hs.2⟩
    go_simp
    try rfl
  (apply HavG.hav_same (by simp only [List.getElem?_toArray, List.getElem?_cons_succ, List.getElem?_cons_zero]; rfl) (by kernel_rfl); (focus (intro wv hgv _; have hcv : ∀ b o, b < _ → wv.cell? ⟨b, o, none⟩ = _ := fun b o hb => Below.cell hgv.1 (p := ⟨b, o, none⟩) hb; (try go_simp); try rfl; done)); simp only [Act.put, List.setIfInBounds_toArray, List.set_cons_succ, List.set_cons_zero])
  refine HavG.hav_end (fun v10 hgv10 hF => ?_)
  simp only [List.filterMap]
  obtain ⟨⟨_, _⟩, gv10, rfl, hgBv10, hkv10⟩ := hF
  have HC10 : Hid (Below M2.heap.size M2 v10) := hgv10.1
  have HK10 := Lib.hid hkv10
  clear hgv10 hkv10 x0 x1 x2 x3 x4 lx z0 z1 lg
  have hx := HX9.out.below HC10.out HX9.out.lt
  have x0 := hx.cell 0
  have x1 := hx.cell 1
  have x2 := hx.cell 2
  have x3 := hx.cell 3
  have x4 := hx.cell 4
  simp at x0 x1 x2 x3 x4
  have lx := hx.lt
  clear hx
  obtain ⟨z0, z1, lg⟩ := HROW.out v10 HC10.out
  go_upto_region 18 with fail
  refine HavG.wp_region_havoc (R := GT v10.heap.size 29 (.int .i64 n0) (.int .i64 n1)) [(0,false),(1,false),(2,false),(3,false),(4,false),(5,false),(6,false),(7,false),(8,false),(9,false),(10,false),(11,true),(12,true),(13,false)] [] (fun _ _ => False) (by kernel_rfl) (by kernel_rfl) (fun _ _ _ _ h => h.elim) ?_
  (apply HavG.hav_same (by simp only [List.getElem?_toArray, List.getElem?_cons_zero]; rfl) (by kernel_rfl); (focus (intro wv hgv _; have hcv : ∀ b o, b < _ → wv.cell? ⟨b, o, none⟩ = _ := fun b o hb => Below.cell hgv.1 (p := ⟨b, o, none⟩) hb; (try go_simp); try rfl; done)); simp only [Act.put, List.setIfInBounds_toArray, List.set_cons_succ, List.set_cons_zero])
  iterate 5 (apply HavG.hav_same (by simp only [List.getElem?_toArray, List.getElem?_cons_succ, List.getElem?_cons_zero]; rfl) (by kernel_rfl); (focus (intro wv hgv _; have hcv : ∀ b o, b < _ → wv.cell? ⟨b, o, none⟩ = _ := fun b o hb => Below.cell hgv.1 (p := ⟨b, o, none⟩) hb; (try go_simp); try rfl; done)); simp only [Act.put, List.setIfInBounds_toArray, List.set_cons_succ, List.set_cons_zero])
  (apply HavG.hav_same (by simp only [List.getElem?_toArray, List.getElem?_cons_succ, List.getElem?_cons_zero]; rfl) (by kernel_rfl); (focus (intro wv hgv _; have hcv : ∀ b o, b < _ → wv.cell? ⟨b, o, none⟩ = _ := fun b o hb => Below.cell hgv.1 (p := ⟨b, o, none⟩) hb; have hnt := HN2.out; (try go_simp); try rfl; done)); simp only [Act.put, List.setIfInBounds_toArray, List.set_cons_succ, List.set_cons_zero])
  (apply HavG.hav_call (by simp only [List.getElem?_toArray, List.getElem?_cons_succ, List.getElem?_cons_zero]; rfl) (by kernel_rfl); (focus (intro wv; go_simp; try exact ⟨rfl, rfl⟩; done)); (focus (intro wv hgv _; have hq := HWX.out r2 wv (HC10.out.trans (hgv.1.mono HC10.out.size)); rw [HU2.out, HK2.out] at hq; unfold spV at hq; exact hq.mono fun e w' h => ⟨h.1, GT.below hgv.1.size h.2⟩; done)); simp only [Act.put, List.setIfInBounds_toArray, List.set_cons_succ, List.set_cons_zero])
  iterate 3 (apply HavG.hav_same (by simp only [List.getElem?_toArray, List.getElem?_cons_succ, List.getElem?_cons_zero]; rfl) (by kernel_rfl); (focus (intro wv hgv _; have hcv : ∀ b o, b < _ → wv.cell? ⟨b, o, none⟩ = _ := fun b o hb => Below.cell hgv.1 (p := ⟨b, o, none⟩) hb; (try go_simp); try rfl; done)); simp only [Act.put, List.setIfInBounds_toArray, List.set_cons_succ, List.set_cons_zero])
  refine HavG.hav_val_ghost (PlaceT v10.heap.size 29) (by simp only [List.getElem?_toArray, List.getElem?_cons_succ, List.getElem?_cons_zero]; rfl) (by kernel_rfl) (fun v w w' h hG => h.stable hG) ?_ (fun v => ?_)
  · intro wv hgv _
    refine ⟨.pointer (some ⟨wv.heap.size, 0, none⟩), wv.alloc (.cells #[.int .i64 0, .int .i64 0] 29), ?_, GT.below hgv.1.size ((Below.refl _ _).alloc (Nat.le_refl _) _), wv.heap.size, rfl, hgv.1.size, _, _, Blk.new wv 29 _⟩
    go_simp
    try rfl
  simp only [Act.put, List.setIfInBounds_toArray, List.set_cons_succ, List.set_cons_zero]
  refine HavG.hav_store (StoredT v10.heap.size 29 (.int .i64 n0) (.int .i64 n1) v) (by simp only [List.getElem?_toArray, List.getElem?_cons_succ, List.getElem?_cons_zero]; rfl) (by kernel_rfl) rfl (fun w w' h hG => h.stable hG) ?_ ?_
  · rintro wv hgv ⟨_, g', rfl, hgB, a, b, hk⟩
    have hs := GT.set (s0 := .int .i64 n0) (s1 := .int .i64 n1) hgB hk
    have c0' := hk.cell 0
    have c1' := hk.cell 1
    have f0 := hk.frozen 0
    have f1 := hk.frozen 1
    have lg' := hk.lt
    simp at c0' c1'
    refine ⟨_, ?_, hs.1, g', rfl, hgB, hs.2⟩
    go_simp
    try rfl
  (apply HavG.hav_same (by simp only [List.getElem?_toArray, List.getElem?_cons_succ, List.getElem?_cons_zero]; rfl) (by kernel_rfl); (focus (intro wv hgv _; have hcv : ∀ b o, b < _ → wv.cell? ⟨b, o, none⟩ = _ := fun b o hb => Below.cell hgv.1 (p := ⟨b, o, none⟩) hb; (try go_simp); try rfl; done)); simp only [Act.put, List.setIfInBounds_toArray, List.set_cons_succ, List.set_cons_zero])
  refine HavG.hav_end (fun v11 hgv11 hF => ?_)
  simp only [List.filterMap]
  obtain ⟨⟨_, _⟩, gv11, rfl, hgBv11, hkv11⟩ := hF
  have HC11 : Hid (Below M2.heap.size M2 v11) := HC10.out.trans (hgv11.1.mono HC10.out.size)
  have HK11 := Lib.hid hkv11
  have HL11 := Lib.hid (HK10.out.below hgv11.1 HK10.out.lt)
  have HCW : Hid (Below W.heap.size W v11) := HC9.out.trans (HC11.out.mono HC9.out.size)
  clear hgv11 hkv11 x0 x1 x2 x3 x4 lx z0 z1 lg
  obtain ⟨z0, z1, lg⟩ := HROW.out v11 HC11.out
  have y0 := HL11.out.cell 0
  have y1 := HL11.out.cell 1
  have y2 := HK11.out.cell 0
  have y3 := HK11.out.cell 1
  have ly := HL11.out.lt
  have lz := HK11.out.lt
  simp at y0 y1 y2 y3
  have hFb : (F != F) = false := by simp
  by_cases hxw : (p.exactB j).wrong = 0
  case neg =>
    obtain rfl : F = 10 := by rw [← HFF.out, if_neg hxw]
    go_wp2_with fail
    refine (awake_any _).mono ?_
    rintro e v12 ⟨rfl, hb12⟩
    go_wp2
    go_ret
    exact ⟨rfl, HBW.out.trans ((HCW.out.trans (hb12.mono HCW.out.size)).mono HBW.out.size)⟩
  obtain rfl : F = 0 := by rw [← HFF.out, if_pos hxw]
  obtain ⟨w1, w2'⟩ := HPARTS.out hxw
  have hll : (l == l) = true := by simp
  go_upto_region 23 with fail
  refine wp_region_havoc [(0,false),(1,false),(2,false),(3,false),(4,false),(5,false),(6,false),(7,false),(8,false),(9,false),(10,false),(11,false),(12,false),(13,false),(14,false),(15,false),(16,false),(17,false),(18,false),(19,false),(20,false),(21,false),(22,false),(23,false),(24,false),(25,false),(26,false),(27,false)] [] (fun _ _ => False) (by kernel_rfl) (by kernel_rfl) (fun _ _ _ _ h => h.elim) ?_
  (apply hav_same (by simp only [List.getElem?_toArray, List.getElem?_cons_zero]; rfl) (by kernel_rfl); (focus (intro wv hgv _; have hcv : ∀ b o, b < _ → wv.cell? ⟨b, o, none⟩ = _ := fun b o hb => Below.cell hgv (p := ⟨b, o, none⟩) hb; (try go_simp); try rfl; done)); simp only [Act.put, List.setIfInBounds_toArray, List.set_cons_succ, List.set_cons_zero])
  iterate 24 (apply hav_same (by simp only [List.getElem?_toArray, List.getElem?_cons_succ, List.getElem?_cons_zero]; rfl) (by kernel_rfl); (focus (intro wv hgv _; have hcv : ∀ b o, b < _ → wv.cell? ⟨b, o, none⟩ = _ := fun b o hb => Below.cell hgv (p := ⟨b, o, none⟩) hb; (try go_simp); try rfl; done)); simp only [Act.put, List.setIfInBounds_toArray, List.set_cons_succ, List.set_cons_zero])
  (apply hav_call (by simp only [List.getElem?_toArray, List.getElem?_cons_succ, List.getElem?_cons_zero]; rfl) (by kernel_rfl); (focus (intro wv; go_simp; try exact ⟨rfl, rfl⟩; done)); (focus (intro wv hgv _; exact awake_any wv; done)); simp only [Act.put, List.setIfInBounds_toArray, List.set_cons_succ, List.set_cons_zero])
  iterate 2 (apply hav_same (by simp only [List.getElem?_toArray, List.getElem?_cons_succ, List.getElem?_cons_zero]; rfl) (by kernel_rfl); (focus (intro wv hgv _; have hcv : ∀ b o, b < _ → wv.cell? ⟨b, o, none⟩ = _ := fun b o hb => Below.cell hgv (p := ⟨b, o, none⟩) hb; (try go_simp); try rfl; done)); simp only [Act.put, List.setIfInBounds_toArray, List.set_cons_succ, List.set_cons_zero])
  refine hav_end (fun v12 hgv12 _ => ?_); simp only [List.filterMap]; have hcv12 : ∀ b o, b < _ → v12.cell? ⟨b, o, none⟩ = _ := fun b o hb => Below.cell hgv12 (p := ⟨b, o, none⟩) hb; have hfv12 : ∀ b o, b < _ → v12.frozen? ⟨b, o, none⟩ = _ := fun b o hb => Below.frozen hgv12 (p := ⟨b, o, none⟩) hb; have hzv12 := Below.size hgv12; (try simp at hzv12)
  go_wp2
  go_ret
  exact ⟨rfl, HBW.out.trans ((HCW.out.trans (hgv12.mono HCW.out.size)).mono HBW.out.size)⟩
end
end Go.Proofs.Ytbfjebglaimcmaa
