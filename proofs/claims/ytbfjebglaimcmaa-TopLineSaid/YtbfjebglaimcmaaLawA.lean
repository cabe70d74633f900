/- The walk of awake: the document's examples. -/
import Derived.Test.YtbfjebglaimcmaaRefF
namespace Go.Proofs.Ytbfjebglaimcmaa
open Go.RowKit Go.Hav
def sq0 : PressD := sampD []
def sq1 : PressD := sampD [⟨7, ⟨14, 14⟩⟩]
def sq2 : PressD := sampD [⟨24, ⟨8, 9⟩⟩]
theorem sq_weight : Value.tuple #[spV (weightR sq1 3), .int .i64 (setE sq1 3)] = .tuple #[.agg #[.int .i64 10, .int .i64 10], .int .i64 0] := by kernel_rfl
theorem sq_fits0 : Value.tuple #[.int .i64 (if setE sq0 5 = 0 then sq0.fits (5 : Int).toNat else 0), .int .i64 (setE sq0 5)] = .tuple #[.int .i64 1, .int .i64 0] := by kernel_rfl
theorem sq_fits1 : Value.tuple #[.int .i64 (if setE sq1 5 = 0 then sq1.fits (5 : Int).toNat else 0), .int .i64 (setE sq1 5)] = .tuple #[.int .i64 2, .int .i64 0] := by kernel_rfl
theorem sq_most : mostR sq0 = .tuple #[.int .i64 5, .int .i64 2, .int .i64 0] := by kernel_rfl
theorem sq_plan : planE sq0 = 0 := by kernel_rfl
theorem sq_ints : intsP sq0 = [24, 37] := by kernel_rfl
theorem sq_wait : waitR sq0 = .tuple #[.agg #[.int .i64 1, .int .i64 0, .int .i64 0], .int .i64 0] := by kernel_rfl
theorem sq_add : addR sq0 5 = .tuple #[.int .i64 5, .int .i64 0] := by kernel_rfl
theorem sq_false : falseR sq2 = .tuple #[.int .i64 1, .int .i64 0] := by kernel_rfl
theorem sq_add2 : addR sq0 38 = .tuple #[.int .i64 0, .int .i64 4] := by kernel_rfl
theorem eq3_one (w : World) : (Op.equalIn 10000 41 (.agg #[.int .i64 1, .int .i64 0, .int .i64 0]) (.agg #[.int .i64 1, .int .i64 0, .int .i64 0])).run Try.prog w = .ok true w := by kernel_rfl
set_option maxRecDepth 100000 in
set_option maxHeartbeats 6400000 in
theorem awake_any (w : World) : Calls Try.prog 13 #[] w fun e w' => e = .returned (.bool true) ∧ Below w.heap.size w w' := by
  go_enter Try.func13, Try.ntmps13
  go_wp2_with fail
  refine (sample_any (wa := none) (wl := 0) (wc := 0) [] rfl (by omega) _ (RdG.nil _ _ _ _ _)).mono ?_
  rintro e w1 ⟨⟨g1, rfl, hp1⟩, hb1⟩
  have HP1 := Lib.hid hp1
  have HB1 := Lib.hid hb1
  unfold pressV
  clear hp1 hb1
  go_wp2_with fail
  refine (weighed_any 7 14 14 _).mono ?_
  rintro e w2 ⟨rfl, hb2⟩
  have HP2 := Lib.hid (HP1.out.grow hb2)
  have HB2 : Hid (Below w.heap.size w w2) := HB1.out.trans (hb2.mono HB1.out.size)
  clear hb2
  go_wp2_with fail
  refine (sample_any (wa := some ⟨w2.heap.size, 0, none⟩) (wl := 1) (wc := 1) [⟨7, ⟨14, 14⟩⟩] rfl (by omega) _ (RdG.of_blk (t := 56) baF_len (Blk.new_ rfl 56 _) (by simp))).mono ?_
  rintro e w3 ⟨⟨g2, rfl, hp3⟩, hb3⟩
  have HQ3 := Lib.hid hp3
  have HP3 := Lib.hid (HP2.out.grow (((Below.refl w2.heap.size w2).alloc (Nat.le_refl _) _).trans (hb3.mono (by simp))))
  have HB3 : Hid (Below w.heap.size w w3) := HB2.out.trans ((((Below.refl w2.heap.size w2).alloc (Nat.le_refl _) _).trans (hb3.mono (by simp))).mono HB2.out.size)
  unfold pressV
  clear hp3 hb3
  go_wp2_with fail
  obtain ⟨W, hW⟩ : ∃ W, W = (w3.alloc (.cells #[.slice (some ⟨g1, 0, none⟩) 6 6, .int .i64 9, .int .i64 12, .int .i64 3, .slice none 0 0] 25)).alloc (.cells #[.slice (some ⟨g2, 0, none⟩) 6 6, .int .i64 9, .int .i64 12, .int .i64 3, .slice (some ⟨w2.heap.size, 0, none⟩) 1 1] 25) := ⟨_, rfl⟩
  have HX1 : Hid (Blk W w3.heap.size 25 #[.slice (some ⟨g1, 0, none⟩) 6 6, .int .i64 9, .int .i64 12, .int .i64 3, .slice none 0 0]) := by rw [hW]; exact (Blk.new w3 25 _).alloc _
  have HX2 : Hid (Blk W (w3.heap.size + 1) 25 #[.slice (some ⟨g2, 0, none⟩) 6 6, .int .i64 9, .int .i64 12, .int .i64 3, .slice (some ⟨w2.heap.size, 0, none⟩) 1 1]) := by rw [hW]; exact Blk.new_ (by simp) 25 _
  have HBW : Hid (Below w3.heap.size w3 W) := by rw [hW]; exact ((Below.refl _ _).alloc (Nat.le_refl _) _).alloc (by simp) _
  rw [← hW]
  clear hW
  have HPW := Lib.hid (HP3.out.grow HBW.out)
  have HQW := Lib.hid (HQ3.out.grow HBW.out)
  have HBB : Hid (Below w.heap.size w W) := HB3.out.trans (HBW.out.mono HB3.out.size)
  have HC0 : Hid (Below W.heap.size W W) := Below.refl _ _
  have hx0 := HX2.out.below HC0.out HX2.out.lt
  have x0_0 := hx0.cell 0
  have x0_1 := hx0.cell 1
  have x0_2 := hx0.cell 2
  have x0_3 := hx0.cell 3
  have x0_4 := hx0.cell 4
  simp at x0_0 x0_1 x0_2 x0_3 x0_4
  have l0 := hx0.lt
  clear hx0
  go_wp2_with fail
  refine (PWeight_any (fa := some ⟨g2, 0, none⟩) (fl := 6) (fc := 6) (low := 9) (top := 12) (bales := 3) (wa := some ⟨w2.heap.size, 0, none⟩) (wl := 1) (wc := 1) (p := sq1) 3 _ (by exact HQW.out.grow (HC0.out))).mono ?_
  rw [sq_weight]
  rintro e v1 ⟨rfl, hb1⟩
  have HC1 : Hid (Below W.heap.size W v1) := HC0.out.trans (hb1.mono HC0.out.size)
  clear hb1
  clear x0_0 x0_1 x0_2 x0_3 x0_4 l0
  have HA1 : Hid (Blk (v1.alloc (.cells #[.int .i64 10, .int .i64 10] 29)) v1.heap.size 29 #[.int .i64 10, .int .i64 10]) := Blk.new v1 29 _
  have hs1 : W.heap.size ≤ v1.heap.size := HC1.out.size
  have HD1 : Hid (Below W.heap.size W (v1.alloc (.cells #[.int .i64 10, .int .i64 10] 29))) := HC1.out.alloc hs1 _
  obtain ⟨V1, hV1⟩ : ∃ V, V = v1.alloc (.cells #[.int .i64 10, .int .i64 10] 29) := ⟨_, rfl⟩
  rw [← hV1] at HA1 HD1
  have hxa := HX1.out.below HC1.out HX1.out.lt
  have xa0 := hxa.cell 0
  have xa1 := hxa.cell 1
  have xa2 := hxa.cell 2
  have xa3 := hxa.cell 3
  have xa4 := hxa.cell 4
  simp at xa0 xa1 xa2 xa3 xa4
  have la := hxa.lt
  clear hxa
  go_wp2_with fail
  rw [← hV1]
  refine (PFits_any (fa := some ⟨g1, 0, none⟩) (fl := 6) (fc := 6) (low := 9) (top := 12) (bales := 3) (wa := none) (wl := 0) (wc := 0) (p := sq0) 5 _ (by exact HPW.out.grow HD1.out)).mono ?_
  rw [sq_fits0]
  rintro e v2 ⟨rfl, hb2⟩
  have HC2 : Hid (Below W.heap.size W v2) := HD1.out.trans (hb2.mono HD1.out.size)
  have HA2 := Lib.hid (HA1.out.below hb2 HA1.out.lt)
  clear hb2 xa0 xa1 xa2 xa3 xa4 la hV1 HD1 HA1
  have hx2 := HX1.out.below HC2.out HX1.out.lt
  have x2_0 := hx2.cell 0
  have x2_1 := hx2.cell 1
  have x2_2 := hx2.cell 2
  have x2_3 := hx2.cell 3
  have x2_4 := hx2.cell 4
  simp at x2_0 x2_1 x2_2 x2_3 x2_4
  have l2 := hx2.lt
  clear hx2
  go_wp2_with fail
  refine (PMost_any (fa := some ⟨g1, 0, none⟩) (fl := 6) (fc := 6) (low := 9) (top := 12) (bales := 3) (wa := none) (wl := 0) (wc := 0) (p := sq0)  _ (by exact HPW.out.grow (HC2.out))).mono ?_
  rw [sq_most]
  rintro e v3 ⟨rfl, hb3⟩
  have HC3 : Hid (Below W.heap.size W v3) := HC2.out.trans (hb3.mono HC2.out.size)
  have HA3 := Lib.hid (HA2.out.below hb3 HA2.out.lt)
  clear hb3
  clear x2_0 x2_1 x2_2 x2_3 x2_4 l2
  have hx3 := HX1.out.below HC3.out HX1.out.lt
  have x3_0 := hx3.cell 0
  have x3_1 := hx3.cell 1
  have x3_2 := hx3.cell 2
  have x3_3 := hx3.cell 3
  have x3_4 := hx3.cell 4
  simp at x3_0 x3_1 x3_2 x3_3 x3_4
  have l3 := hx3.lt
  clear hx3
  go_wp2_with fail
  refine (PPlan_any (fa := some ⟨g1, 0, none⟩) (fl := 6) (fc := 6) (low := 9) (top := 12) (bales := 3) (wa := none) (wl := 0) (wc := 0) (p := sq0)  _ (by exact HPW.out.grow (HC3.out))).mono ?_
  rw [sq_plan, sq_ints]
  rintro e v4 ⟨vl, rfl, hown, hb4⟩
  have HC4 : Hid (Below W.heap.size W v4) := HC3.out.trans (hb4.mono HC3.out.size)
  have HA4 := Lib.hid (HA3.out.below hb4 HA3.out.lt)
  obtain ⟨Al, cl, hvl, hrl, _⟩ := own_rd inF_len (by decide) hown
  simp only [List.length_cons, List.length_nil, Nat.reduceAdd] at hvl
  subst hvl
  have HL4 := Lib.hid hrl
  clear hrl hown
  clear hb4
  clear x3_0 x3_1 x3_2 x3_3 x3_4 l3
  have hx4 := HX1.out.below HC4.out HX1.out.lt
  have x4_0 := hx4.cell 0
  have x4_1 := hx4.cell 1
  have x4_2 := hx4.cell 2
  have x4_3 := hx4.cell 3
  have x4_4 := hx4.cell 4
  simp at x4_0 x4_1 x4_2 x4_3 x4_4
  have l4 := hx4.lt
  clear hx4
  go_wp2_with fail
  refine (PWait_any (fa := some ⟨g1, 0, none⟩) (fl := 6) (fc := 6) (low := 9) (top := 12) (bales := 3) (wa := none) (wl := 0) (wc := 0) (p := sq0)  _ (by exact HPW.out.grow (HC4.out))).mono ?_
  rw [sq_wait]
  rintro e v5 ⟨rfl, hb5⟩
  have HC5 : Hid (Below W.heap.size W v5) := HC4.out.trans (hb5.mono HC4.out.size)
  have HA5 := Lib.hid (HA4.out.below hb5 HA4.out.lt)
  have HL5 := Lib.hid (HL4.out.grow hb5)
  clear hb5
  clear x4_0 x4_1 x4_2 x4_3 x4_4 l4
  have HJ5 : Hid (Blk (v5.alloc (.cells #[.int .i64 1, .int .i64 0, .int .i64 0] 41)) v5.heap.size 41 #[.int .i64 1, .int .i64 0, .int .i64 0]) := Blk.new v5 41 _
  have hs5 : W.heap.size ≤ v5.heap.size := HC5.out.size
  have HD5 : Hid (Below W.heap.size W (v5.alloc (.cells #[.int .i64 1, .int .i64 0, .int .i64 0] 41))) := HC5.out.alloc hs5 _
  have HA5b := Lib.hid (HA5.out.alloc (.cells #[.int .i64 1, .int .i64 0, .int .i64 0] 41))
  have HL5b := Lib.hid (HL5.out.grow ((Below.refl v5.heap.size v5).alloc (Nat.le_refl _) (.cells #[.int .i64 1, .int .i64 0, .int .i64 0] 41)))
  obtain ⟨V5, hV5⟩ : ∃ V, V = v5.alloc (.cells #[.int .i64 1, .int .i64 0, .int .i64 0] 41) := ⟨_, rfl⟩
  rw [← hV5] at HJ5 HD5 HA5b HL5b
  have hxa := HX1.out.below HC5.out HX1.out.lt
  have xa0 := hxa.cell 0
  have xa1 := hxa.cell 1
  have xa2 := hxa.cell 2
  have xa3 := hxa.cell 3
  have xa4 := hxa.cell 4
  simp at xa0 xa1 xa2 xa3 xa4
  have la := hxa.lt
  clear hxa
  go_wp2_with fail
  rw [← hV5]
  refine (PAdd_any (fa := some ⟨g1, 0, none⟩) (fl := 6) (fc := 6) (low := 9) (top := 12) (bales := 3) (wa := none) (wl := 0) (wc := 0) (p := sq0) 5 _ (by exact HPW.out.grow HD5.out)).mono ?_
  rw [sq_add]
  rintro e v6 ⟨rfl, hb6⟩
  have HC6 : Hid (Below W.heap.size W v6) := HD5.out.trans (hb6.mono HD5.out.size)
  have HA6 := Lib.hid (HA5b.out.below hb6 HA5b.out.lt)
  have HJ6 := Lib.hid (HJ5.out.below hb6 HJ5.out.lt)
  have HL6 := Lib.hid (HL5b.out.grow hb6)
  clear hb6 xa0 xa1 xa2 xa3 xa4 la hV5 HD5
  go_wp2_with fail
  refine (weighed_any 24 8 9 _).mono ?_
  rintro e v7 ⟨rfl, hb7⟩
  have HC7 : Hid (Below W.heap.size W v7) := HC6.out.trans (hb7.mono HC6.out.size)
  have HA7 := Lib.hid (HA6.out.below hb7 HA6.out.lt)
  have HJ7 := Lib.hid (HJ6.out.below hb7 HJ6.out.lt)
  have HL7 := Lib.hid (HL6.out.grow hb7)
  clear hb7
  go_wp2_with fail
  refine (sample_any (wa := some ⟨v7.heap.size, 0, none⟩) (wl := 1) (wc := 1) [⟨24, ⟨8, 9⟩⟩] rfl (by omega) _ (RdG.of_blk (t := 56) baF_len (Blk.new_ rfl 56 _) (by simp))).mono ?_
  rintro e v8 ⟨⟨g3, rfl, hp8⟩, hb8⟩
  have hgr : Below v7.heap.size v7 v8 := ((Below.refl v7.heap.size v7).alloc (Nat.le_refl _) _).trans (hb8.mono (by simp))
  have HR8 := Lib.hid hp8
  have HC8 : Hid (Below W.heap.size W v8) := HC7.out.trans (hgr.mono HC7.out.size)
  have HA8 := Lib.hid (HA7.out.below hgr HA7.out.lt)
  have HJ8 := Lib.hid (HJ7.out.below hgr HJ7.out.lt)
  have HL8 := Lib.hid (HL7.out.grow hgr)
  unfold pressV
  clear hp8 hb8 hgr
  go_wp2_with fail
  refine (PFalse_any (p := sq2) _ (by exact HR8.out)).mono ?_
  rw [sq_false]
  rintro e v9 ⟨rfl, hb9⟩
  have HC9 : Hid (Below W.heap.size W v9) := HC8.out.trans (hb9.mono HC8.out.size)
  have HA9 := Lib.hid (HA8.out.below hb9 HA8.out.lt)
  have HJ9 := Lib.hid (HJ8.out.below hb9 HJ8.out.lt)
  have HL9 := Lib.hid (HL8.out.grow hb9)
  clear hb9
  have hx9 := HX1.out.below HC9.out HX1.out.lt
  have x9_0 := hx9.cell 0
  have x9_1 := hx9.cell 1
  have x9_2 := hx9.cell 2
  have x9_3 := hx9.cell 3
  have x9_4 := hx9.cell 4
  simp at x9_0 x9_1 x9_2 x9_3 x9_4
  have l9 := hx9.lt
  clear hx9
  go_wp2_with fail
  refine (PAdd_any (fa := some ⟨g1, 0, none⟩) (fl := 6) (fc := 6) (low := 9) (top := 12) (bales := 3) (wa := none) (wl := 0) (wc := 0) (p := sq0) 38 _ (by exact HPW.out.grow (HC9.out))).mono ?_
  rw [sq_add2]
  rintro e v10 ⟨rfl, hb10⟩
  have HC10 : Hid (Below W.heap.size W v10) := HC9.out.trans (hb10.mono HC9.out.size)
  have HA10 := Lib.hid (HA9.out.below hb10 HA9.out.lt)
  have HJ10 := Lib.hid (HJ9.out.below hb10 HJ9.out.lt)
  have HL10 := Lib.hid (HL9.out.grow hb10)
  clear hb10
  clear x9_0 x9_1 x9_2 x9_3 x9_4 l9
  have hx10 := HX2.out.below HC10.out HX2.out.lt
  have x10_0 := hx10.cell 0
  have x10_1 := hx10.cell 1
  have x10_2 := hx10.cell 2
  have x10_3 := hx10.cell 3
  have x10_4 := hx10.cell 4
  simp at x10_0 x10_1 x10_2 x10_3 x10_4
  have l10 := hx10.lt
  clear hx10
  go_wp2_with fail
  refine (PFits_any (fa := some ⟨g2, 0, none⟩) (fl := 6) (fc := 6) (low := 9) (top := 12) (bales := 3) (wa := some ⟨w2.heap.size, 0, none⟩) (wl := 1) (wc := 1) (p := sq1) 5 _ (by exact HQW.out.grow (HC10.out))).mono ?_
  rw [sq_fits1]
  rintro e v11 ⟨rfl, hb11⟩
  have HC11 : Hid (Below W.heap.size W v11) := HC10.out.trans (hb11.mono HC10.out.size)
  have HA11 := Lib.hid (HA10.out.below hb11 HA10.out.lt)
  have HJ11 := Lib.hid (HJ10.out.below hb11 HJ10.out.lt)
  have HL11 := Lib.hid (HL10.out.grow hb11)
  clear hb11
  clear x10_0 x10_1 x10_2 x10_3 x10_4 l10
  have a0 := HA11.out.cell 0
  have a1 := HA11.out.cell 1
  have la := HA11.out.lt
  simp at a0 a1
  go_wp2
  refine wp_region_havoc [(0,false),(1,false),(2,false),(3,false),(4,false),(5,false),(6,false),(7,false),(8,false),(9,false),(10,false),(11,false),(12,false),(13,false),(14,false),(15,false),(16,false),(17,false),(18,false),(19,false),(20,false),(21,false),(22,false),(23,false),(24,false),(25,false),(26,false),(27,false),(28,false),(29,true),(30,false),(31,false),(32,false),(33,false),(34,false),(35,false),(36,false)] [] (fun _ _ => False) (by kernel_rfl) (by kernel_rfl) (fun _ _ _ _ h => h.elim) ?_
  (apply hav_same (by simp only [List.getElem?_toArray, List.getElem?_cons_zero]; rfl) (by kernel_rfl); (focus (intro wv hgv _; have hcv : ∀ b o, b < _ → wv.cell? ⟨b, o, none⟩ = _ := fun b o hb => Below.cell hgv (p := ⟨b, o, none⟩) hb; (try go_simp); try rfl; done)); simp only [Act.put, List.setIfInBounds_toArray, List.set_cons_succ, List.set_cons_zero])
  (apply hav_call (by simp only [List.getElem?_toArray, List.getElem?_cons_succ, List.getElem?_cons_zero]; rfl) (by kernel_rfl); (focus (intro wv; go_simp; try exact ⟨rfl, rfl⟩; done)); (focus (intro wv hgv _; have hq := lspan_any 10 10 wv; unfold spV at hq; exact hq; done)); simp only [Act.put, List.setIfInBounds_toArray, List.set_cons_succ, List.set_cons_zero])
  iterate 27 (apply hav_same (by simp only [List.getElem?_toArray, List.getElem?_cons_succ, List.getElem?_cons_zero]; rfl) (by kernel_rfl); (focus (intro wv hgv _; have hcv : ∀ b o, b < _ → wv.cell? ⟨b, o, none⟩ = _ := fun b o hb => Below.cell hgv (p := ⟨b, o, none⟩) hb; (try go_simp); try rfl; done)); simp only [Act.put, List.setIfInBounds_toArray, List.set_cons_succ, List.set_cons_zero])
  (apply hav_new (fun g => .slice (some ⟨g, 0, none⟩) 2 2) (.cells #[.int .i64 24, .int .i64 37] 3) (by simp only [List.getElem?_toArray, List.getElem?_cons_succ, List.getElem?_cons_zero]; rfl) (by kernel_rfl); (focus (intro wv hgv _; have hcv : ∀ b o, b < _ → wv.cell? ⟨b, o, none⟩ = _ := fun b o hb => Below.cell hgv (p := ⟨b, o, none⟩) hb; (try go_simp); try rfl; done)); intro v; simp only [Act.put, List.setIfInBounds_toArray, List.set_cons_succ, List.set_cons_zero])
  apply hav_call (by simp only [List.getElem?_toArray, List.getElem?_cons_succ, List.getElem?_cons_zero]; rfl) (by kernel_rfl)
  focus (intro wv; go_simp; try exact ⟨rfl, rfl⟩; done)
  focus (intro wv hgv hF; obtain ⟨_, g, hv, hB, hh⟩ := hF; subst hv; have hq := ints_any (A := Al) (n := 2) (c := cl) (l := [24, 37]) (A2 := some ⟨g, 0, none⟩) (n2 := 2) (c2 := 2) (l2 := [24, 37]) (by omega) rfl (by omega) rfl wv (HL11.out.grow hgv) (RdG.of_blk (t := 3) inF_len hh (Array.getElem?_eq_some_iff.1 hh).1); rw [decide_eq_true rfl] at hq; exact hq)
  simp only [Act.put, List.setIfInBounds_toArray, List.set_cons_succ, List.set_cons_zero]
  iterate 6 (apply hav_same (by simp only [List.getElem?_toArray, List.getElem?_cons_succ, List.getElem?_cons_zero]; rfl) (by kernel_rfl); (focus (intro wv hgv _; have hcv : ∀ b o, b < _ → wv.cell? ⟨b, o, none⟩ = _ := fun b o hb => Below.cell hgv (p := ⟨b, o, none⟩) hb; (try go_simp); try rfl; done)); simp only [Act.put, List.setIfInBounds_toArray, List.set_cons_succ, List.set_cons_zero])
  refine hav_end (fun w12 hgw12 hF => ?_); simp only [List.filterMap]; have hcw12 : ∀ b o, b < _ → w12.cell? ⟨b, o, none⟩ = _ := fun b o hb => Below.cell hgw12 (p := ⟨b, o, none⟩) hb; have hfw12 : ∀ b o, b < _ → w12.frozen? ⟨b, o, none⟩ = _ := fun b o hb => Below.frozen hgw12 (p := ⟨b, o, none⟩) hb; have hzw12 := Below.size hgw12; (try simp at hzw12)
  have HC12 : Hid (Below W.heap.size W w12) := HC11.out.trans (hgw12.mono HC11.out.size)
  have HJ12 := HJ11.out.below hgw12 HJ11.out.lt
  have j0 := HJ12.cell 0
  have j1 := HJ12.cell 1
  have j2 := HJ12.cell 2
  have lj := HJ12.lt
  simp at j0 j1 j2
  have he3 := eq3_one
  clear hgw12 hcw12 hfw12 hF HJ12
  go_wp2
  go_ret
  exact ⟨rfl, HBB.out.trans (HC12.out.mono HBB.out.size)⟩
end Go.Proofs.Ytbfjebglaimcmaa
