/- The law RiverNames: errors, numbers and limits have the document's values, and the chapter's examples hold. No condition. -/
import Derived.Test.YtiodmkokpfgkkaaClashX
namespace Go.Proofs.Ytiodmkokpfgkkaa
open Go.RowKit Go.Hav Go.Shelf Go.Sq
attribute [local go_sem] Oper.semAt_some
def loN (i : Nat) : Int := ([10, 8, 6, 8, 6, 4] : List Int).getD i 0
def hiN (i : Nat) : Int := ([11, 10, 14, 13, 12, 11] : List Int).getD i 0
theorem sn_depth (i : Nat) (h : i < 6) : Value.tuple #[hullV (depthV sq0 i), .int .i64 (depthE sq0 i)] = .tuple #[.agg #[.int .i64 (loN i), .int .i64 (hiN i)], .int .i64 0] := by
  have : i = 0 ∨ i = 1 ∨ i = 2 ∨ i = 3 ∨ i = 4 ∨ i = 5 := by omega
  rcases this with rfl | rfl | rfl | rfl | rfl | rfl <;> (show _ = _; kernel_rfl)
theorem sn_depth2 : Value.tuple #[hullV (depthV sq1 2), .int .i64 (depthE sq1 2)] = .tuple #[.agg #[.int .i64 6, .int .i64 9], .int .i64 0] := by kernel_rfl
theorem sn_fresh : Value.tuple #[.int .i64 (freshV sq0 0), .int .i64 (freshE sq0 0)] = .tuple #[.int .i64 12, .int .i64 0] := by kernel_rfl
theorem sn_bears1 : Value.tuple #[.int .i64 (bearsV sq0 8 1), .int .i64 (bearsE sq0 8 1)] = .tuple #[.int .i64 2, .int .i64 0] := by kernel_rfl
theorem sn_bears2 : Value.tuple #[.int .i64 (bearsV sq0 15 2), .int .i64 (bearsE sq0 15 2)] = .tuple #[.int .i64 0, .int .i64 0] := by kernel_rfl
theorem sn_bears3 : Value.tuple #[.int .i64 (bearsV sq0 8 3), .int .i64 (bearsE sq0 8 3)] = .tuple #[.int .i64 2, .int .i64 0] := by kernel_rfl
theorem sn_until : Value.tuple #[.int .i64 (untilV sq0 12), .int .i64 (untilE sq0 12)] = .tuple #[.int .i64 0, .int .i64 4] := by kernel_rfl
theorem sn_last1 : Value.tuple #[.int .i64 (lastV sq0 8), .int .i64 (lastE sq0 8)] = .tuple #[.int .i64 5, .int .i64 0] := by kernel_rfl
theorem sn_last2 : Value.tuple #[.int .i64 (lastV sq0 15), .int .i64 (lastE sq0 15)] = .tuple #[.int .i64 0, .int .i64 4] := by kernel_rfl
theorem sn_clash : Value.tuple #[.int .i64 (clashV sq1), .int .i64 (clashE sq1)] = .tuple #[.int .i64 0, .int .i64 4] := by kernel_rfl
theorem sn_fall : Value.tuple #[hullV (fallV sq3), .int .i64 (fallE sq3)] = .tuple #[.agg #[.int .i64 0, .int .i64 0], .int .i64 10] := by kernel_rfl
def cellsN : Array Value := #[.int .i64 10, .int .i64 11, .int .i64 8, .int .i64 10, .int .i64 6, .int .i64 14, .int .i64 8, .int .i64 13, .int .i64 6, .int .i64 12, .int .i64 4, .int .i64 11]
theorem cellsN_lo (i : Nat) (h : i < 6) : cellsN[i * 2]? = some (.int .i64 (loN i)) := by
  have : i = 0 ∨ i = 1 ∨ i = 2 ∨ i = 3 ∨ i = 4 ∨ i = 5 := by omega
  rcases this with rfl | rfl | rfl | rfl | rfl | rfl <;> rfl
theorem cellsN_hi (i : Nat) (h : i < 6) : cellsN[i * 2 + 1]? = some (.int .i64 (hiN i)) := by
  have : i = 0 ∨ i = 1 ∨ i = 2 ∨ i = 3 ∨ i = 4 ∨ i = 5 := by omega
  rcases this with rfl | rfl | rfl | rfl | rfl | rfl <;> rfl
noncomputable def namesT : Code := dropSeq 2 (Try.f5.body.getD .skip)
set_option maxRecDepth 100000 in
set_option maxHeartbeats 6400000 in
theorem names_tail (w0 w : World) (hb0 : Below w0.heap.size w0 w) (c0 c1 c2 c3 c4 c5 c6 c7 c8 c9 c10 c11 c12 c13 c14 c15 c16 c17 c18 c19 c20 c21 c22 c23 c24 c25 c26 c27 c28 c29 c30 c31 c32 c33 c34 c35 c36 c37 c38 c39 c40 c41 c42 c43 c44 c45 c46 c47 c48 c49 c50 c51 c52 c53 c54 c55 c56 c57 c58 c59 c60 c61 c62 c63 c64 c65 c66 c67 c68 c69 c70 c71 c72 c73 c74 c75 c76 c77 c78 c79 c80 c81 c82 c83 c84 c85 c86 c87 c88 c89 c90 c91 c92 c93 c94 c95 c96 c97 c98 c99 c100 c101 c102 c103 c104 c105 c106 c107 c108 c109 c110 c111 c112 c113 c114 c115 c116 c117 c118 c119 c120 c121 c122 c123 c124 c125 c126 c127 c128 c129 c130 c131 c132 c133 c134 c135 c136 c137 c138 c139 c140 c141 c142 c143 c144 c145 c146 c147 c148 c149 c150 c151 c152 c153 c154 c155 c156 c157 c158 c159 c160 c161 c162 c163 c164 c165 c166 c167 c168 c169 : Value) :
    Code.wp Try.prog namesT (bodyPost Try.prog Try.f5 fun e w' => e = .returned (.bool true) ∧ Below w0.heap.size w0 w') ⟨(c0 :: c1 :: c2 :: c3 :: c4 :: c5 :: c6 :: c7 :: c8 :: c9 :: c10 :: c11 :: c12 :: c13 :: c14 :: c15 :: c16 :: c17 :: c18 :: c19 :: c20 :: c21 :: c22 :: c23 :: c24 :: c25 :: c26 :: c27 :: c28 :: c29 :: c30 :: c31 :: c32 :: c33 :: c34 :: c35 :: c36 :: c37 :: c38 :: c39 :: c40 :: c41 :: c42 :: c43 :: c44 :: c45 :: c46 :: c47 :: c48 :: c49 :: c50 :: c51 :: c52 :: c53 :: c54 :: c55 :: c56 :: c57 :: c58 :: c59 :: c60 :: c61 :: c62 :: c63 :: c64 :: c65 :: c66 :: c67 :: c68 :: c69 :: c70 :: c71 :: c72 :: c73 :: c74 :: c75 :: c76 :: c77 :: c78 :: c79 :: c80 :: c81 :: c82 :: c83 :: c84 :: c85 :: c86 :: c87 :: c88 :: c89 :: c90 :: c91 :: c92 :: c93 :: c94 :: c95 :: c96 :: c97 :: c98 :: c99 :: c100 :: c101 :: c102 :: c103 :: c104 :: c105 :: c106 :: c107 :: c108 :: c109 :: c110 :: c111 :: c112 :: c113 :: c114 :: c115 :: c116 :: c117 :: c118 :: c119 :: c120 :: c121 :: c122 :: c123 :: c124 :: c125 :: c126 :: c127 :: c128 :: c129 :: c130 :: c131 :: c132 :: c133 :: c134 :: c135 :: c136 :: c137 :: c138 :: c139 :: c140 :: c141 :: c142 :: c143 :: c144 :: c145 :: c146 :: c147 :: c148 :: c149 :: c150 :: c151 :: c152 :: c153 :: c154 :: c155 :: c156 :: c157 :: c158 :: c159 :: c160 :: c161 :: c162 :: c163 :: c164 :: c165 :: c166 :: c167 :: c168 :: c169 :: []).toArray, []⟩ w := by
  conv => arg 2; whnf
  have HB0 := Lib.hid hb0
  clear hb0
  go_wp2_with fail
  refine (second_any _).mono ?_
  rintro e a1 ⟨g1, A1, rfl, hr, hb⟩
  have HR1 := Lib.hid hr
  have HBa1 : Hid (Below w0.heap.size w0 a1) := HB0.out.trans (hb.mono HB0.out.size)
  clear hr hb
  go_wp2_with fail
  refine (PDepth_any (fa := some ⟨g1, 0, none⟩) (fl := 1) (fc := 1) (la := A1) (ll := 1) (lc := 1) (r := sq1) (w := a1) 2 (by exact HR1.out)).mono ?_
  rw [sn_depth2]
  rintro e v1 ⟨rfl, hb⟩
  have HB1 : Hid (Below w0.heap.size w0 v1) := HBa1.out.trans (hb.mono HBa1.out.size)
  clear hb
  obtain ⟨V1, hV1⟩ : ∃ V, V = v1.alloc (.cells #[.int .i64 6, .int .i64 9] 23) := ⟨_, rfl⟩
  have hw1 : Below v1.heap.size v1 V1 := by rw [hV1]; exact (Below.refl _ _).alloc (Nat.le_refl _) _
  have HBV1 : Hid (Below w0.heap.size w0 V1) := HB1.out.trans (hw1.mono HB1.out.size)
  have HX1 : Hid (Blk V1 v1.heap.size 23 #[.int .i64 6, .int .i64 9]) := by rw [hV1]; exact Blk.new v1 23 _
  clear hw1
  go_wp2_with fail
  rw [← hV1]
  refine (sample0_any _).mono ?_
  rintro e a2 ⟨g2, A2, rfl, hr, hb⟩
  have HR2 := Lib.hid hr
  have HBa2 : Hid (Below w0.heap.size w0 a2) := HBV1.out.trans (hb.mono HBV1.out.size)
  have HX1a2 := Lib.hid (HX1.out.below hb HX1.out.lt)
  clear hr hb hV1
  go_wp2_with fail
  refine (PFresh_any (fa := some ⟨g2, 0, none⟩) (fl := 1) (fc := 1) (la := A2) (ll := 0) (lc := 0) (r := sq0) (w := a2) 0 (by exact HR2.out)).mono ?_
  rw [sn_fresh]
  rintro e v2 ⟨rfl, hb⟩
  have HB2 : Hid (Below w0.heap.size w0 v2) := HBa2.out.trans (hb.mono HBa2.out.size)
  have HX1a2v := Lib.hid (HX1a2.out.below hb HX1a2.out.lt)
  clear hb
  go_wp2_with fail
  refine (sample0_any _).mono ?_
  rintro e a3 ⟨g3, A3, rfl, hr, hb⟩
  have HR3 := Lib.hid hr
  have HBa3 : Hid (Below w0.heap.size w0 a3) := HB2.out.trans (hb.mono HB2.out.size)
  have HX1a2va3 := Lib.hid (HX1a2v.out.below hb HX1a2v.out.lt)
  clear hr hb
  go_wp2_with fail
  refine (PBears_any (fa := some ⟨g3, 0, none⟩) (fl := 1) (fc := 1) (la := A3) (ll := 0) (lc := 0) (r := sq0) (w := a3) 8 1 (by exact HR3.out)).mono ?_
  rw [sn_bears1]
  rintro e v3 ⟨rfl, hb⟩
  have HB3 : Hid (Below w0.heap.size w0 v3) := HBa3.out.trans (hb.mono HBa3.out.size)
  have HX1a2va3v := Lib.hid (HX1a2va3.out.below hb HX1a2va3.out.lt)
  clear hb
  go_wp2_with fail
  refine (sample0_any _).mono ?_
  rintro e a4 ⟨g4, A4, rfl, hr, hb⟩
  have HR4 := Lib.hid hr
  have HBa4 : Hid (Below w0.heap.size w0 a4) := HB3.out.trans (hb.mono HB3.out.size)
  have HX1a2va3va4 := Lib.hid (HX1a2va3v.out.below hb HX1a2va3v.out.lt)
  clear hr hb
  go_wp2_with fail
  refine (PBears_any (fa := some ⟨g4, 0, none⟩) (fl := 1) (fc := 1) (la := A4) (ll := 0) (lc := 0) (r := sq0) (w := a4) 15 2 (by exact HR4.out)).mono ?_
  rw [sn_bears2]
  rintro e v4 ⟨rfl, hb⟩
  have HB4 : Hid (Below w0.heap.size w0 v4) := HBa4.out.trans (hb.mono HBa4.out.size)
  have HX1a2va3va4v := Lib.hid (HX1a2va3va4.out.below hb HX1a2va3va4.out.lt)
  clear hb
  go_wp2_with fail
  refine (sample0_any _).mono ?_
  rintro e a5 ⟨g5, A5, rfl, hr, hb⟩
  have HR5 := Lib.hid hr
  have HBa5 : Hid (Below w0.heap.size w0 a5) := HB4.out.trans (hb.mono HB4.out.size)
  have HX1a2va3va4va5 := Lib.hid (HX1a2va3va4v.out.below hb HX1a2va3va4v.out.lt)
  clear hr hb
  go_wp2_with fail
  refine (PBears_any (fa := some ⟨g5, 0, none⟩) (fl := 1) (fc := 1) (la := A5) (ll := 0) (lc := 0) (r := sq0) (w := a5) 8 3 (by exact HR5.out)).mono ?_
  rw [sn_bears3]
  rintro e v5 ⟨rfl, hb⟩
  have HB5 : Hid (Below w0.heap.size w0 v5) := HBa5.out.trans (hb.mono HBa5.out.size)
  have HX1a2va3va4va5v := Lib.hid (HX1a2va3va4va5.out.below hb HX1a2va3va4va5.out.lt)
  clear hb
  go_wp2_with fail
  refine (sample0_any _).mono ?_
  rintro e a6 ⟨g6, A6, rfl, hr, hb⟩
  have HR6 := Lib.hid hr
  have HBa6 : Hid (Below w0.heap.size w0 a6) := HB5.out.trans (hb.mono HB5.out.size)
  have HX1a2va3va4va5va6 := Lib.hid (HX1a2va3va4va5v.out.below hb HX1a2va3va4va5v.out.lt)
  clear hr hb
  go_wp2_with fail
  refine (PUntil_any (fa := some ⟨g6, 0, none⟩) (fl := 1) (fc := 1) (la := A6) (ll := 0) (lc := 0) (r := sq0) (w := a6) 12 (by exact HR6.out)).mono ?_
  rw [sn_until]
  rintro e v6 ⟨rfl, hb⟩
  have HB6 : Hid (Below w0.heap.size w0 v6) := HBa6.out.trans (hb.mono HBa6.out.size)
  have HX1a2va3va4va5va6v := Lib.hid (HX1a2va3va4va5va6.out.below hb HX1a2va3va4va5va6.out.lt)
  clear hb
  go_wp2_with fail
  refine (sample0_any _).mono ?_
  rintro e a7 ⟨g7, A7, rfl, hr, hb⟩
  have HR7 := Lib.hid hr
  have HBa7 : Hid (Below w0.heap.size w0 a7) := HB6.out.trans (hb.mono HB6.out.size)
  have HX1a2va3va4va5va6va7 := Lib.hid (HX1a2va3va4va5va6v.out.below hb HX1a2va3va4va5va6v.out.lt)
  clear hr hb
  go_wp2_with fail
  refine (PLast_any (fa := some ⟨g7, 0, none⟩) (fl := 1) (fc := 1) (la := A7) (ll := 0) (lc := 0) (r := sq0) (w := a7) 8 (by exact HR7.out)).mono ?_
  rw [sn_last1]
  rintro e v7 ⟨rfl, hb⟩
  have HB7 : Hid (Below w0.heap.size w0 v7) := HBa7.out.trans (hb.mono HBa7.out.size)
  have HX1a2va3va4va5va6va7v := Lib.hid (HX1a2va3va4va5va6va7.out.below hb HX1a2va3va4va5va6va7.out.lt)
  clear hb
  go_wp2_with fail
  refine (sample0_any _).mono ?_
  rintro e a8 ⟨g8, A8, rfl, hr, hb⟩
  have HR8 := Lib.hid hr
  have HBa8 : Hid (Below w0.heap.size w0 a8) := HB7.out.trans (hb.mono HB7.out.size)
  have HX1a2va3va4va5va6va7va8 := Lib.hid (HX1a2va3va4va5va6va7v.out.below hb HX1a2va3va4va5va6va7v.out.lt)
  clear hr hb
  go_wp2_with fail
  refine (PLast_any (fa := some ⟨g8, 0, none⟩) (fl := 1) (fc := 1) (la := A8) (ll := 0) (lc := 0) (r := sq0) (w := a8) 15 (by exact HR8.out)).mono ?_
  rw [sn_last2]
  rintro e v8 ⟨rfl, hb⟩
  have HB8 : Hid (Below w0.heap.size w0 v8) := HBa8.out.trans (hb.mono HBa8.out.size)
  have HX1a2va3va4va5va6va7va8v := Lib.hid (HX1a2va3va4va5va6va7va8.out.below hb HX1a2va3va4va5va6va7va8.out.lt)
  clear hb
  go_wp2_with fail
  refine (second_any _).mono ?_
  rintro e a9 ⟨g9, A9, rfl, hr, hb⟩
  have HR9 := Lib.hid hr
  have HBa9 : Hid (Below w0.heap.size w0 a9) := HB8.out.trans (hb.mono HB8.out.size)
  have HX1a2va3va4va5va6va7va8va9 := Lib.hid (HX1a2va3va4va5va6va7va8v.out.below hb HX1a2va3va4va5va6va7va8v.out.lt)
  clear hr hb
  go_wp2_with fail
  refine (PClash_any (fa := some ⟨g9, 0, none⟩) (fl := 1) (fc := 1) (la := A9) (ll := 1) (lc := 1) (r := sq1) (w := a9)  (by exact HR9.out)).mono ?_
  rw [sn_clash]
  rintro e v9 ⟨rfl, hb⟩
  have HB9 : Hid (Below w0.heap.size w0 v9) := HBa9.out.trans (hb.mono HBa9.out.size)
  have HX1a2va3va4va5va6va7va8va9v := Lib.hid (HX1a2va3va4va5va6va7va8va9.out.below hb HX1a2va3va4va5va6va7va8va9.out.lt)
  clear hb
  go_wp2_with fail
  refine (clash_any _).mono ?_
  rintro e a10 ⟨g10, A10, rfl, hr, hb⟩
  have HR10 := Lib.hid hr
  have HBa10 : Hid (Below w0.heap.size w0 a10) := HB9.out.trans (hb.mono HB9.out.size)
  have HX1a2va3va4va5va6va7va8va9va10 := Lib.hid (HX1a2va3va4va5va6va7va8va9v.out.below hb HX1a2va3va4va5va6va7va8va9v.out.lt)
  clear hr hb
  go_wp2_with fail
  refine (PFall_any (fa := some ⟨g10, 0, none⟩) (fl := 1) (fc := 1) (la := A10) (ll := 3) (lc := 3) (r := sq3) (w := a10)  (by exact HR10.out)).mono ?_
  rw [sn_fall]
  rintro e v10 ⟨rfl, hb⟩
  have HB10 : Hid (Below w0.heap.size w0 v10) := HBa10.out.trans (hb.mono HBa10.out.size)
  have HX1a2va3va4va5va6va7va8va9va10v := Lib.hid (HX1a2va3va4va5va6va7va8va9va10.out.below hb HX1a2va3va4va5va6va7va8va9va10.out.lt)
  clear hb
  obtain ⟨V10, hV10⟩ : ∃ V, V = v10.alloc (.cells #[.int .i64 0, .int .i64 0] 23) := ⟨_, rfl⟩
  have hw10 : Below v10.heap.size v10 V10 := by rw [hV10]; exact (Below.refl _ _).alloc (Nat.le_refl _) _
  have HBV10 : Hid (Below w0.heap.size w0 V10) := HB10.out.trans (hw10.mono HB10.out.size)
  have HX1a2va3va4va5va6va7va8va9va10vV := Lib.hid (HX1a2va3va4va5va6va7va8va9va10v.out.below hw10 HX1a2va3va4va5va6va7va8va9va10v.out.lt)
  have HX10 : Hid (Blk V10 v10.heap.size 23 #[.int .i64 0, .int .i64 0]) := by rw [hV10]; exact Blk.new v10 23 _
  clear hw10
  have x0 := HX1a2va3va4va5va6va7va8va9va10vV.out.cell 0
  have x1 := HX1a2va3va4va5va6va7va8va9va10vV.out.cell 1
  have lx := HX1a2va3va4va5va6va7va8va9va10vV.out.lt
  simp at x0 x1
  go_wp2
  rw [← hV10]
  clear hV10
  refine wp_region_havoc [(0,false),(1,false),(2,false),(3,false),(4,false),(5,false),(6,false),(7,false),(8,false),(9,false),(10,false),(11,false),(12,false),(13,false),(14,false),(15,false),(16,false),(17,false),(18,false),(19,false),(20,false),(21,false),(22,false),(23,false),(24,false),(25,false),(26,false),(27,false),(28,false),(29,false),(30,false),(31,false),(32,false),(33,false),(34,false),(35,false),(36,false),(37,false),(38,false),(39,false),(40,false),(41,false),(42,false),(43,false),(44,false),(45,false),(46,false),(47,false),(48,false),(49,false),(50,false),(51,false),(52,false),(53,false),(54,false),(55,false),(56,false),(57,false),(58,false),(59,false),(60,false),(61,false),(62,false),(63,false),(64,false),(65,false),(66,false),(67,false),(68,false)] [] (fun _ _ => False) (by kernel_rfl) (by kernel_rfl) (fun _ _ _ _ h => h.elim) ?_
  (apply hav_same (by simp only [List.getElem?_toArray]; rfl) (by kernel_rfl); (focus (intro wv hgv _; have hcv : ∀ b o, b < _ → wv.cell? ⟨b, o, none⟩ = _ := fun b o hb => Below.cell hgv (p := ⟨b, o, none⟩) hb; (try go_simp); try rfl; done)); simp only [Act.put, List.setIfInBounds_toArray, List.set_cons_succ, List.set_cons_zero])
  (apply hav_call (by simp only [List.getElem?_toArray]; rfl) (by kernel_rfl); (focus (intro wv; go_simp; try exact ⟨rfl, rfl⟩; done)); (focus (intro wv hgv _; exact alive_any wv; done)); simp only [Act.put, List.setIfInBounds_toArray, List.set_cons_succ, List.set_cons_zero])
  iterate 3 (apply hav_same (by simp only [List.getElem?_toArray]; rfl) (by kernel_rfl); (focus (intro wv hgv _; have hcv : ∀ b o, b < _ → wv.cell? ⟨b, o, none⟩ = _ := fun b o hb => Below.cell hgv (p := ⟨b, o, none⟩) hb; (try go_simp); try rfl; done)); simp only [Act.put, List.setIfInBounds_toArray, List.set_cons_succ, List.set_cons_zero])
  (apply hav_call (by simp only [List.getElem?_toArray]; rfl) (by kernel_rfl); (focus (intro wv; go_simp; try exact ⟨rfl, rfl⟩; done)); (focus (intro wv hgv _; exact lspan_any 6 9 wv; done)); simp only [Act.put, List.setIfInBounds_toArray, List.set_cons_succ, List.set_cons_zero])
  iterate 63 (apply hav_same (by simp only [List.getElem?_toArray]; rfl) (by kernel_rfl); (focus (intro wv hgv _; have hcv : ∀ b o, b < _ → wv.cell? ⟨b, o, none⟩ = _ := fun b o hb => Below.cell hgv (p := ⟨b, o, none⟩) hb; (try go_simp); try rfl; done)); simp only [Act.put, List.setIfInBounds_toArray, List.set_cons_succ, List.set_cons_zero])
  refine hav_end (fun wz hgwz _ => ?_); simp only [List.filterMap]; have hcwz : ∀ b o, b < _ → wz.cell? ⟨b, o, none⟩ = _ := fun b o hb => Below.cell hgwz (p := ⟨b, o, none⟩) hb; have hfwz : ∀ b o, b < _ → wz.frozen? ⟨b, o, none⟩ = _ := fun b o hb => Below.frozen hgwz (p := ⟨b, o, none⟩) hb; have hzwz := Below.size hgwz; (try simp at hzwz)
  have HBz : Hid (Below w0.heap.size w0 wz) := HBV10.out.trans (hgwz.mono HBV10.out.size)
  clear hgwz hcwz hfwz
  go_wp2
  go_ret
  exact ⟨rfl, HBz.out⟩
set_option maxRecDepth 100000 in
set_option maxHeartbeats 6400000 in
theorem names_any (w : World) : Calls Try.prog 5 #[] w fun e w' => e = .returned (.bool true) ∧ Below w.heap.size w w' := by
  have HB0 : Hid (Below w.heap.size w w) := Below.refl _ _
  go_enter Try.func5, Try.ntmps5
  conv => arg 2; whnf
  conv => arg 2; arg 2; arg 2; change namesT
  go_wp2_with fail
  refine (lspan_any 10 11 _).mono ?_
  rintro e w1 ⟨rfl, hb⟩
  have HB1 : Hid (Below w.heap.size w w1) := HB0.out.trans (hb.mono HB0.out.size)
  clear hb
  go_wp2_with fail
  refine (lspan_any 8 10 _).mono ?_
  rintro e w2 ⟨rfl, hb⟩
  have HB2 : Hid (Below w.heap.size w w2) := HB1.out.trans (hb.mono HB1.out.size)
  clear hb
  go_wp2_with fail
  refine (lspan_any 6 14 _).mono ?_
  rintro e w3 ⟨rfl, hb⟩
  have HB3 : Hid (Below w.heap.size w w3) := HB2.out.trans (hb.mono HB2.out.size)
  clear hb
  go_wp2_with fail
  refine (lspan_any 8 13 _).mono ?_
  rintro e w4 ⟨rfl, hb⟩
  have HB4 : Hid (Below w.heap.size w w4) := HB3.out.trans (hb.mono HB3.out.size)
  clear hb
  go_wp2_with fail
  refine (lspan_any 6 12 _).mono ?_
  rintro e w5 ⟨rfl, hb⟩
  have HB5 : Hid (Below w.heap.size w w5) := HB4.out.trans (hb.mono HB4.out.size)
  clear hb
  go_wp2_with fail
  refine (lspan_any 4 11 _).mono ?_
  rintro e w6 ⟨rfl, hb⟩
  have HB6 : Hid (Below w.heap.size w w6) := HB5.out.trans (hb.mono HB5.out.size)
  clear hb
  obtain ⟨W, hW⟩ : ∃ W, W = w6.alloc (.cells cellsN 23) := ⟨_, rfl⟩
  have HBW : Hid (Below w.heap.size w W) := by rw [hW]; exact HB6.out.alloc HB6.out.size _
  have HKW : Hid (Blk W w6.heap.size 23 cellsN) := by rw [hW]; exact Blk.new w6 23 _
  unfold cellsN at hW
  go_wp2
  rw [← hW]
  clear hW
  go_loopw [33] (fun u wr => ∃ i : Nat, i ≤ 6 ∧ u = .int .i64 i ∧ Hid (Blk wr w6.heap.size 23 cellsN) ∧ Hid (Below w.heap.size w wr)) (fun u _ => 6 - (intOf u).toNat)
  case atStart => exact ⟨0, by omega, rfl, HKW, HBW⟩
  case round =>
    obtain ⟨i, hi, rfl, HK, HB⟩ := hrel
    by_cases hlt : i < 6
    · have c0 : wr.cell? ⟨w6.heap.size, i * 2, none⟩ = some (.int .i64 (loN i)) := (HK.out.cell (i * 2)).trans (cellsN_lo i hlt)
      have c1 : wr.cell? ⟨w6.heap.size, i * 2 + 1, none⟩ = some (.int .i64 (hiN i)) := (HK.out.cell (i * 2 + 1)).trans (cellsN_hi i hlt)
      have lk := HK.out.lt
      have hi6 : (i : Int) < 6 := by omega
      go_wp2_with fail
      obtain ⟨WA, hWA⟩ : ∃ WA, WA = wr.alloc (.cells #[.int .i64 (loN i), .int .i64 (hiN i)] 23) := ⟨_, rfl⟩
      have HXA : Hid (Blk WA wr.heap.size 23 #[.int .i64 (loN i), .int .i64 (hiN i)]) := by rw [hWA]; exact Blk.new wr 23 _
      have HBA : Hid (Below wr.heap.size wr WA) := by rw [hWA]; exact (Below.refl _ _).alloc (Nat.le_refl _) _
      rw [← hWA]
      clear hWA c0 c1
      refine (sample0_any _).mono ?_
      rintro e a1 ⟨g1, A1, rfl, hr, hb⟩
      have HR := Lib.hid hr
      have HB1 : Hid (Below wr.heap.size wr a1) := HBA.out.trans (hb.mono HBA.out.size)
      have HXB := Lib.hid (HXA.out.below hb HXA.out.lt)
      clear hr hb
      go_wp2_with fail
      refine (PDepth_any (fa := some ⟨g1, 0, none⟩) (fl := 1) (fc := 1) (la := A1) (ll := 0) (lc := 0) (r := sq0) (w := a1) (i : Int) (by exact HR.out)).mono ?_
      rw [sn_depth i hlt]
      rintro e v1 ⟨rfl, hb⟩
      have HB2 : Hid (Below wr.heap.size wr v1) := HB1.out.trans (hb.mono HB1.out.size)
      have HXC := Lib.hid (HXB.out.below hb HXB.out.lt)
      have x0 := HXC.out.cell 0
      have x1 := HXC.out.cell 1
      have lx := HXC.out.lt
      simp at x0 x1
      clear hb
      go_wp2
      go_roundw
      case rel =>
        have hB3 : Below wr.heap.size wr (v1.alloc (.cells #[.int .i64 (loN i), .int .i64 (hiN i)] 23)) := HB2.out.alloc HB2.out.size _
        exact ⟨i + 1, by omega, by go_num, HK.out.below hB3 HK.out.lt, HB.out.trans (hB3.mono HB.out.size)⟩
      case measure => simp [intOf]; omega
    · obtain rfl : i = 6 := by omega
      go_wp2
      exact names_tail w wr HB.out _ _ _ _ _ _ _ _ _ _ _ _ _ _ _ _ _ _ _ _ _ _ _ _ _ _ _ _ _ _ _ _ _ _ _ _ _ _ _ _ _ _ _ _ _ _ _ _ _ _ _ _ _ _ _ _ _ _ _ _ _ _ _ _ _ _ _ _ _ _ _ _ _ _ _ _ _ _ _ _ _ _ _ _ _ _ _ _ _ _ _ _ _ _ _ _ _ _ _ _ _ _ _ _ _ _ _ _ _ _ _ _ _ _ _ _ _ _ _ _ _ _ _ _ _ _ _ _ _ _ _ _ _ _ _ _ _ _ _ _ _ _ _ _ _ _ _ _ _ _ _ _ _ _ _ _ _ _ _ _ _ _ _ _ _ _ _ _ _ _
end Go.Proofs.Ytiodmkokpfgkkaa
