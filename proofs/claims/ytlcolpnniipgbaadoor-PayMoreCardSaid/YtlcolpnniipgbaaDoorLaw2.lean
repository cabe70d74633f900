/- The walk of awake: the results that the document fixes. -/
import Derived.Test.YtlcolpnniipgbaaDoorLaw1
namespace Go.Proofs.YtlcolpnniipgbaaDoor
open Go.RowKit Go.Hav
theorem aw1 : standsR (sampD true) 0 0 = (3, 0) := by kernel_rfl
theorem aw2 : spanR (checkE (sampD true) (whoB (sampD true) 1 && runB (sampD true) 0) true) (sheepS (sampD true) 1 0) = (⟨22, 24⟩, 0) := by kernel_rfl
theorem aw3 : spanR (checkE (sampD true) (runB (sampD true) 0) true) (outS (sampD true) 0) = (⟨50, 52⟩, 0) := by kernel_rfl
theorem aw4 : spanR (checkE (sampD true) (whoB (sampD true) 0) true) (wagesP (sampD true) 0) = (⟨72, 75⟩, 0) := by kernel_rfl
theorem aw5 : messR (sampD true) 0 = (67, 0) := by kernel_rfl
theorem aw6 : spanR (checkE (sampD true) (whoB (sampD true) 1) true) (leftP (sampD true) 1) = (⟨-41, -38⟩, 0) := by kernel_rfl
theorem aw7 : checkR (sampD true) (ruleX (sampD true)) = (2, 1, 0) := by kernel_rfl
theorem aw8 : wrongR (sampD false) = (2, 0) := by kernel_rfl
theorem aw9 : standsR (sampD true) 1 1 = (0, 4) := by kernel_rfl
set_option maxRecDepth 100000 in
set_option maxHeartbeats 6400000 in
theorem awake_any (w : World) (hR : RulesIn w) : Calls Tryd.prog 13 #[] w fun e w' => e = .returned (.bool true) ∧ Below w.heap.size w w' := by
  have HR := Lib.hid hR
  clear hR
  go_enter Tryd.func13, Tryd.ntmps13
  go_wp2_with fail
  refine (sample_any true _).mono ?_
  rintro e w1 ⟨⟨g1, g2, g3, g4, rc, cc, dc, pc, rfl, hP1⟩, hb1⟩
  have HB1 : Hid (Below w.heap.size w w1) := hb1
  clear hb1
  go_wp2_with fail
  refine (sample_any false _).mono ?_
  rintro e w2 ⟨⟨h1, h2, h3, h4, rc2, cc2, dc2, pc2, rfl, hP2⟩, hb2⟩
  have HP1 := Lib.hid (hP1.grow hb2)
  have HP2 := Lib.hid hP2
  have HB2 : Hid (Below w.heap.size w w2) := HB1.out.trans (hb2.mono HB1.out.size)
  clear hb2 hP1 hP2
  unfold payV
  -- MADE
  go_wp2_with fail
  have HX2 : Hid (Blk ((w2.alloc (.cells #[.int .i64 2, .slice (some ⟨g1, 0, none⟩) 2 rc, .slice (some ⟨g2, 0, none⟩) 5 cc, .int .i64 150, .int .i64 100, .slice (some ⟨g3, 0, none⟩) 2 dc, .slice (some ⟨g4, 0, none⟩) 4 pc] 27)).alloc (.cells #[.int .i64 2, .slice (some ⟨h1, 0, none⟩) 2 rc2, .slice (some ⟨h2, 0, none⟩) 5 cc2, .int .i64 150, .int .i64 100, .slice (some ⟨h3, 0, none⟩) 2 dc2, .slice (some ⟨h4, 0, none⟩) 4 pc2] 27)) w2.heap.size 27 #[.int .i64 2, .slice (some ⟨g1, 0, none⟩) 2 rc, .slice (some ⟨g2, 0, none⟩) 5 cc, .int .i64 150, .int .i64 100, .slice (some ⟨g3, 0, none⟩) 2 dc, .slice (some ⟨g4, 0, none⟩) 4 pc]) := (Blk.new _ _ _).alloc _
  have HY2 : Hid (Blk ((w2.alloc (.cells #[.int .i64 2, .slice (some ⟨g1, 0, none⟩) 2 rc, .slice (some ⟨g2, 0, none⟩) 5 cc, .int .i64 150, .int .i64 100, .slice (some ⟨g3, 0, none⟩) 2 dc, .slice (some ⟨g4, 0, none⟩) 4 pc] 27)).alloc (.cells #[.int .i64 2, .slice (some ⟨h1, 0, none⟩) 2 rc2, .slice (some ⟨h2, 0, none⟩) 5 cc2, .int .i64 150, .int .i64 100, .slice (some ⟨h3, 0, none⟩) 2 dc2, .slice (some ⟨h4, 0, none⟩) 4 pc2] 27)) (w2.heap.size + 1) 27 #[.int .i64 2, .slice (some ⟨h1, 0, none⟩) 2 rc2, .slice (some ⟨h2, 0, none⟩) 5 cc2, .int .i64 150, .int .i64 100, .slice (some ⟨h3, 0, none⟩) 2 dc2, .slice (some ⟨h4, 0, none⟩) 4 pc2]) := Blk.new_ (by simp) _ _
  have hs2 := HB2.out.size
  have HB20 : Hid (Below w.heap.size w ((w2.alloc (.cells #[.int .i64 2, .slice (some ⟨g1, 0, none⟩) 2 rc, .slice (some ⟨g2, 0, none⟩) 5 cc, .int .i64 150, .int .i64 100, .slice (some ⟨g3, 0, none⟩) 2 dc, .slice (some ⟨g4, 0, none⟩) 4 pc] 27)).alloc (.cells #[.int .i64 2, .slice (some ⟨h1, 0, none⟩) 2 rc2, .slice (some ⟨h2, 0, none⟩) 5 cc2, .int .i64 150, .int .i64 100, .slice (some ⟨h3, 0, none⟩) 2 dc2, .slice (some ⟨h4, 0, none⟩) 4 pc2] 27))) := (HB2.out.alloc (by omega) _).alloc (by simp; omega) _
  have HQ2 : Hid (Below w2.heap.size w2 ((w2.alloc (.cells #[.int .i64 2, .slice (some ⟨g1, 0, none⟩) 2 rc, .slice (some ⟨g2, 0, none⟩) 5 cc, .int .i64 150, .int .i64 100, .slice (some ⟨g3, 0, none⟩) 2 dc, .slice (some ⟨g4, 0, none⟩) 4 pc] 27)).alloc (.cells #[.int .i64 2, .slice (some ⟨h1, 0, none⟩) 2 rc2, .slice (some ⟨h2, 0, none⟩) 5 cc2, .int .i64 150, .int .i64 100, .slice (some ⟨h3, 0, none⟩) 2 dc2, .slice (some ⟨h4, 0, none⟩) 4 pc2] 27))) := ((Below.refl _ _).alloc (Nat.le_refl _) _).alloc (by simp) _
  refine (PStands_any (p := sampD true) 0 0 _ (by exact HP1.out.grow HQ2.out)).mono ?_
  rw [aw1]
  simp only
  rintro e w3 ⟨rfl, hb3⟩
  have HX3 : Hid (Blk w3 w2.heap.size 27 #[.int .i64 2, .slice (some ⟨g1, 0, none⟩) 2 rc, .slice (some ⟨g2, 0, none⟩) 5 cc, .int .i64 150, .int .i64 100, .slice (some ⟨g3, 0, none⟩) 2 dc, .slice (some ⟨g4, 0, none⟩) 4 pc]) := HX2.out.below hb3 HX2.out.lt
  have HY3 : Hid (Blk w3 (w2.heap.size + 1) 27 #[.int .i64 2, .slice (some ⟨h1, 0, none⟩) 2 rc2, .slice (some ⟨h2, 0, none⟩) 5 cc2, .int .i64 150, .int .i64 100, .slice (some ⟨h3, 0, none⟩) 2 dc2, .slice (some ⟨h4, 0, none⟩) 4 pc2]) := HY2.out.below hb3 HY2.out.lt
  have HB3 : Hid (Below w.heap.size w w3) := HB20.out.trans (hb3.mono HB20.out.size)
  have HQ3 : Hid (Below w2.heap.size w2 w3) := HQ2.out.trans (hb3.mono HQ2.out.size)
  have hx3 : w2.heap.size < w3.heap.size := HX3.out.lt
  have hy3 : w2.heap.size + 1 < w3.heap.size := HY3.out.lt
  have hw3 : w.heap.size ≤ w3.heap.size := HB3.out.size
  have x30 : w3.cell? ⟨w2.heap.size, 0, none⟩ = some (.int .i64 2) := HX3.out.cell 0
  have y30 : w3.cell? ⟨w2.heap.size + 1, 0, none⟩ = some (.int .i64 2) := HY3.out.cell 0
  have x31 : w3.cell? ⟨w2.heap.size, 1, none⟩ = some (.slice (some ⟨g1, 0, none⟩) 2 rc) := HX3.out.cell 1
  have y31 : w3.cell? ⟨w2.heap.size + 1, 1, none⟩ = some (.slice (some ⟨h1, 0, none⟩) 2 rc2) := HY3.out.cell 1
  have x32 : w3.cell? ⟨w2.heap.size, 2, none⟩ = some (.slice (some ⟨g2, 0, none⟩) 5 cc) := HX3.out.cell 2
  have y32 : w3.cell? ⟨w2.heap.size + 1, 2, none⟩ = some (.slice (some ⟨h2, 0, none⟩) 5 cc2) := HY3.out.cell 2
  have x33 : w3.cell? ⟨w2.heap.size, 3, none⟩ = some (.int .i64 150) := HX3.out.cell 3
  have y33 : w3.cell? ⟨w2.heap.size + 1, 3, none⟩ = some (.int .i64 150) := HY3.out.cell 3
  have x34 : w3.cell? ⟨w2.heap.size, 4, none⟩ = some (.int .i64 100) := HX3.out.cell 4
  have y34 : w3.cell? ⟨w2.heap.size + 1, 4, none⟩ = some (.int .i64 100) := HY3.out.cell 4
  have x35 : w3.cell? ⟨w2.heap.size, 5, none⟩ = some (.slice (some ⟨g3, 0, none⟩) 2 dc) := HX3.out.cell 5
  have y35 : w3.cell? ⟨w2.heap.size + 1, 5, none⟩ = some (.slice (some ⟨h3, 0, none⟩) 2 dc2) := HY3.out.cell 5
  have x36 : w3.cell? ⟨w2.heap.size, 6, none⟩ = some (.slice (some ⟨g4, 0, none⟩) 4 pc) := HX3.out.cell 6
  have y36 : w3.cell? ⟨w2.heap.size + 1, 6, none⟩ = some (.slice (some ⟨h4, 0, none⟩) 4 pc2) := HY3.out.cell 6
  clear hb3
  go_wp2_with fail
  refine (PSheep_any (p := sampD true) 1 0 _ (by exact HP1.out.grow HQ3.out)).mono ?_
  rw [aw2]
  simp only [spV]
  rintro e w4 ⟨rfl, hb4⟩
  have HX4 : Hid (Blk w4 w2.heap.size 27 #[.int .i64 2, .slice (some ⟨g1, 0, none⟩) 2 rc, .slice (some ⟨g2, 0, none⟩) 5 cc, .int .i64 150, .int .i64 100, .slice (some ⟨g3, 0, none⟩) 2 dc, .slice (some ⟨g4, 0, none⟩) 4 pc]) := HX3.out.below hb4 HX3.out.lt
  have HY4 : Hid (Blk w4 (w2.heap.size + 1) 27 #[.int .i64 2, .slice (some ⟨h1, 0, none⟩) 2 rc2, .slice (some ⟨h2, 0, none⟩) 5 cc2, .int .i64 150, .int .i64 100, .slice (some ⟨h3, 0, none⟩) 2 dc2, .slice (some ⟨h4, 0, none⟩) 4 pc2]) := HY3.out.below hb4 HY3.out.lt
  have HB4 : Hid (Below w.heap.size w w4) := HB3.out.trans (hb4.mono HB3.out.size)
  have HQ4 : Hid (Below w2.heap.size w2 w4) := HQ3.out.trans (hb4.mono HQ3.out.size)
  have hx4 : w2.heap.size < w4.heap.size := HX4.out.lt
  have hy4 : w2.heap.size + 1 < w4.heap.size := HY4.out.lt
  have hw4 : w.heap.size ≤ w4.heap.size := HB4.out.size
  clear x30 x31 x32 x33 x34 x35 x36 y30 y31 y32 y33 y34 y35 y36 hx3 hy3
  have x40 : w4.cell? ⟨w2.heap.size, 0, none⟩ = some (.int .i64 2) := HX4.out.cell 0
  have y40 : w4.cell? ⟨w2.heap.size + 1, 0, none⟩ = some (.int .i64 2) := HY4.out.cell 0
  have x41 : w4.cell? ⟨w2.heap.size, 1, none⟩ = some (.slice (some ⟨g1, 0, none⟩) 2 rc) := HX4.out.cell 1
  have y41 : w4.cell? ⟨w2.heap.size + 1, 1, none⟩ = some (.slice (some ⟨h1, 0, none⟩) 2 rc2) := HY4.out.cell 1
  have x42 : w4.cell? ⟨w2.heap.size, 2, none⟩ = some (.slice (some ⟨g2, 0, none⟩) 5 cc) := HX4.out.cell 2
  have y42 : w4.cell? ⟨w2.heap.size + 1, 2, none⟩ = some (.slice (some ⟨h2, 0, none⟩) 5 cc2) := HY4.out.cell 2
  have x43 : w4.cell? ⟨w2.heap.size, 3, none⟩ = some (.int .i64 150) := HX4.out.cell 3
  have y43 : w4.cell? ⟨w2.heap.size + 1, 3, none⟩ = some (.int .i64 150) := HY4.out.cell 3
  have x44 : w4.cell? ⟨w2.heap.size, 4, none⟩ = some (.int .i64 100) := HX4.out.cell 4
  have y44 : w4.cell? ⟨w2.heap.size + 1, 4, none⟩ = some (.int .i64 100) := HY4.out.cell 4
  have x45 : w4.cell? ⟨w2.heap.size, 5, none⟩ = some (.slice (some ⟨g3, 0, none⟩) 2 dc) := HX4.out.cell 5
  have y45 : w4.cell? ⟨w2.heap.size + 1, 5, none⟩ = some (.slice (some ⟨h3, 0, none⟩) 2 dc2) := HY4.out.cell 5
  have x46 : w4.cell? ⟨w2.heap.size, 6, none⟩ = some (.slice (some ⟨g4, 0, none⟩) 4 pc) := HX4.out.cell 6
  have y46 : w4.cell? ⟨w2.heap.size + 1, 6, none⟩ = some (.slice (some ⟨h4, 0, none⟩) 4 pc2) := HY4.out.cell 6
  clear hb4
  go_wp2_with fail
  refine (POut_any (p := sampD true) 0 _ (by exact HP1.out.grow (HQ4.out.alloc (by omega) _))).mono ?_
  rw [aw3]
  simp only [spV]
  rintro e w5 ⟨rfl, hb5⟩
  have HX5 : Hid (Blk w5 w2.heap.size 27 #[.int .i64 2, .slice (some ⟨g1, 0, none⟩) 2 rc, .slice (some ⟨g2, 0, none⟩) 5 cc, .int .i64 150, .int .i64 100, .slice (some ⟨g3, 0, none⟩) 2 dc, .slice (some ⟨g4, 0, none⟩) 4 pc]) := (HX4.out.alloc _).below hb5 (HX4.out.alloc _).lt
  have HY5 : Hid (Blk w5 (w2.heap.size + 1) 27 #[.int .i64 2, .slice (some ⟨h1, 0, none⟩) 2 rc2, .slice (some ⟨h2, 0, none⟩) 5 cc2, .int .i64 150, .int .i64 100, .slice (some ⟨h3, 0, none⟩) 2 dc2, .slice (some ⟨h4, 0, none⟩) 4 pc2]) := (HY4.out.alloc _).below hb5 (HY4.out.alloc _).lt
  have HS5_5 : Hid (Blk w5 w4.heap.size 34 #[.int .i64 22, .int .i64 24]) := (Blk.new_ rfl _ _).below hb5 (by simp)
  have HB5 : Hid (Below w.heap.size w w5) := (HB4.out.alloc (by omega) _).trans (hb5.mono (HB4.out.alloc (by omega) _).size)
  have HQ5 : Hid (Below w2.heap.size w2 w5) := (HQ4.out.alloc (by omega) _).trans (hb5.mono (HQ4.out.alloc (by omega) _).size)
  have hx5 : w2.heap.size < w5.heap.size := HX5.out.lt
  have hy5 : w2.heap.size + 1 < w5.heap.size := HY5.out.lt
  have hw5 : w.heap.size ≤ w5.heap.size := HB5.out.size
  clear x40 x41 x42 x43 x44 x45 x46 y40 y41 y42 y43 y44 y45 y46 hx4 hy4
  have x50 : w5.cell? ⟨w2.heap.size, 0, none⟩ = some (.int .i64 2) := HX5.out.cell 0
  have y50 : w5.cell? ⟨w2.heap.size + 1, 0, none⟩ = some (.int .i64 2) := HY5.out.cell 0
  have x51 : w5.cell? ⟨w2.heap.size, 1, none⟩ = some (.slice (some ⟨g1, 0, none⟩) 2 rc) := HX5.out.cell 1
  have y51 : w5.cell? ⟨w2.heap.size + 1, 1, none⟩ = some (.slice (some ⟨h1, 0, none⟩) 2 rc2) := HY5.out.cell 1
  have x52 : w5.cell? ⟨w2.heap.size, 2, none⟩ = some (.slice (some ⟨g2, 0, none⟩) 5 cc) := HX5.out.cell 2
  have y52 : w5.cell? ⟨w2.heap.size + 1, 2, none⟩ = some (.slice (some ⟨h2, 0, none⟩) 5 cc2) := HY5.out.cell 2
  have x53 : w5.cell? ⟨w2.heap.size, 3, none⟩ = some (.int .i64 150) := HX5.out.cell 3
  have y53 : w5.cell? ⟨w2.heap.size + 1, 3, none⟩ = some (.int .i64 150) := HY5.out.cell 3
  have x54 : w5.cell? ⟨w2.heap.size, 4, none⟩ = some (.int .i64 100) := HX5.out.cell 4
  have y54 : w5.cell? ⟨w2.heap.size + 1, 4, none⟩ = some (.int .i64 100) := HY5.out.cell 4
  have x55 : w5.cell? ⟨w2.heap.size, 5, none⟩ = some (.slice (some ⟨g3, 0, none⟩) 2 dc) := HX5.out.cell 5
  have y55 : w5.cell? ⟨w2.heap.size + 1, 5, none⟩ = some (.slice (some ⟨h3, 0, none⟩) 2 dc2) := HY5.out.cell 5
  have x56 : w5.cell? ⟨w2.heap.size, 6, none⟩ = some (.slice (some ⟨g4, 0, none⟩) 4 pc) := HX5.out.cell 6
  have y56 : w5.cell? ⟨w2.heap.size + 1, 6, none⟩ = some (.slice (some ⟨h4, 0, none⟩) 4 pc2) := HY5.out.cell 6
  clear hb5
  go_wp2_with fail
  refine (PWages_any (p := sampD true) 0 _ (by exact HP1.out.grow (HQ5.out.alloc (by omega) _))).mono ?_
  rw [aw4]
  simp only [spV]
  rintro e w6 ⟨rfl, hb6⟩
  have HX6 : Hid (Blk w6 w2.heap.size 27 #[.int .i64 2, .slice (some ⟨g1, 0, none⟩) 2 rc, .slice (some ⟨g2, 0, none⟩) 5 cc, .int .i64 150, .int .i64 100, .slice (some ⟨g3, 0, none⟩) 2 dc, .slice (some ⟨g4, 0, none⟩) 4 pc]) := (HX5.out.alloc _).below hb6 (HX5.out.alloc _).lt
  have HY6 : Hid (Blk w6 (w2.heap.size + 1) 27 #[.int .i64 2, .slice (some ⟨h1, 0, none⟩) 2 rc2, .slice (some ⟨h2, 0, none⟩) 5 cc2, .int .i64 150, .int .i64 100, .slice (some ⟨h3, 0, none⟩) 2 dc2, .slice (some ⟨h4, 0, none⟩) 4 pc2]) := (HY5.out.alloc _).below hb6 (HY5.out.alloc _).lt
  have HS5_6 := Lib.hid ((HS5_5.out.alloc _).below hb6 (HS5_5.out.alloc _).lt)
  have HS7_6 : Hid (Blk w6 w5.heap.size 34 #[.int .i64 50, .int .i64 52]) := (Blk.new_ rfl _ _).below hb6 (by simp)
  have HB6 : Hid (Below w.heap.size w w6) := (HB5.out.alloc (by omega) _).trans (hb6.mono (HB5.out.alloc (by omega) _).size)
  have HQ6 : Hid (Below w2.heap.size w2 w6) := (HQ5.out.alloc (by omega) _).trans (hb6.mono (HQ5.out.alloc (by omega) _).size)
  have hx6 : w2.heap.size < w6.heap.size := HX6.out.lt
  have hy6 : w2.heap.size + 1 < w6.heap.size := HY6.out.lt
  have hw6 : w.heap.size ≤ w6.heap.size := HB6.out.size
  clear x50 x51 x52 x53 x54 x55 x56 y50 y51 y52 y53 y54 y55 y56 hx5 hy5
  have x60 : w6.cell? ⟨w2.heap.size, 0, none⟩ = some (.int .i64 2) := HX6.out.cell 0
  have y60 : w6.cell? ⟨w2.heap.size + 1, 0, none⟩ = some (.int .i64 2) := HY6.out.cell 0
  have x61 : w6.cell? ⟨w2.heap.size, 1, none⟩ = some (.slice (some ⟨g1, 0, none⟩) 2 rc) := HX6.out.cell 1
  have y61 : w6.cell? ⟨w2.heap.size + 1, 1, none⟩ = some (.slice (some ⟨h1, 0, none⟩) 2 rc2) := HY6.out.cell 1
  have x62 : w6.cell? ⟨w2.heap.size, 2, none⟩ = some (.slice (some ⟨g2, 0, none⟩) 5 cc) := HX6.out.cell 2
  have y62 : w6.cell? ⟨w2.heap.size + 1, 2, none⟩ = some (.slice (some ⟨h2, 0, none⟩) 5 cc2) := HY6.out.cell 2
  have x63 : w6.cell? ⟨w2.heap.size, 3, none⟩ = some (.int .i64 150) := HX6.out.cell 3
  have y63 : w6.cell? ⟨w2.heap.size + 1, 3, none⟩ = some (.int .i64 150) := HY6.out.cell 3
  have x64 : w6.cell? ⟨w2.heap.size, 4, none⟩ = some (.int .i64 100) := HX6.out.cell 4
  have y64 : w6.cell? ⟨w2.heap.size + 1, 4, none⟩ = some (.int .i64 100) := HY6.out.cell 4
  have x65 : w6.cell? ⟨w2.heap.size, 5, none⟩ = some (.slice (some ⟨g3, 0, none⟩) 2 dc) := HX6.out.cell 5
  have y65 : w6.cell? ⟨w2.heap.size + 1, 5, none⟩ = some (.slice (some ⟨h3, 0, none⟩) 2 dc2) := HY6.out.cell 5
  have x66 : w6.cell? ⟨w2.heap.size, 6, none⟩ = some (.slice (some ⟨g4, 0, none⟩) 4 pc) := HX6.out.cell 6
  have y66 : w6.cell? ⟨w2.heap.size + 1, 6, none⟩ = some (.slice (some ⟨h4, 0, none⟩) 4 pc2) := HY6.out.cell 6
  clear hb6
  go_wp2_with fail
  refine (PMess_any (p := sampD true) 0 _ (by exact HP1.out.grow (HQ6.out.alloc (by omega) _))).mono ?_
  rw [aw5]
  simp only
  rintro e w7 ⟨rfl, hb7⟩
  have HX7 : Hid (Blk w7 w2.heap.size 27 #[.int .i64 2, .slice (some ⟨g1, 0, none⟩) 2 rc, .slice (some ⟨g2, 0, none⟩) 5 cc, .int .i64 150, .int .i64 100, .slice (some ⟨g3, 0, none⟩) 2 dc, .slice (some ⟨g4, 0, none⟩) 4 pc]) := (HX6.out.alloc _).below hb7 (HX6.out.alloc _).lt
  have HY7 : Hid (Blk w7 (w2.heap.size + 1) 27 #[.int .i64 2, .slice (some ⟨h1, 0, none⟩) 2 rc2, .slice (some ⟨h2, 0, none⟩) 5 cc2, .int .i64 150, .int .i64 100, .slice (some ⟨h3, 0, none⟩) 2 dc2, .slice (some ⟨h4, 0, none⟩) 4 pc2]) := (HY6.out.alloc _).below hb7 (HY6.out.alloc _).lt
  have HS5_7 := Lib.hid ((HS5_6.out.alloc _).below hb7 (HS5_6.out.alloc _).lt)
  have HS7_7 := Lib.hid ((HS7_6.out.alloc _).below hb7 (HS7_6.out.alloc _).lt)
  have HS9_7 : Hid (Blk w7 w6.heap.size 34 #[.int .i64 72, .int .i64 75]) := (Blk.new_ rfl _ _).below hb7 (by simp)
  have HB7 : Hid (Below w.heap.size w w7) := (HB6.out.alloc (by omega) _).trans (hb7.mono (HB6.out.alloc (by omega) _).size)
  have HQ7 : Hid (Below w2.heap.size w2 w7) := (HQ6.out.alloc (by omega) _).trans (hb7.mono (HQ6.out.alloc (by omega) _).size)
  have hx7 : w2.heap.size < w7.heap.size := HX7.out.lt
  have hy7 : w2.heap.size + 1 < w7.heap.size := HY7.out.lt
  have hw7 : w.heap.size ≤ w7.heap.size := HB7.out.size
  clear x60 x61 x62 x63 x64 x65 x66 y60 y61 y62 y63 y64 y65 y66 hx6 hy6
  have x70 : w7.cell? ⟨w2.heap.size, 0, none⟩ = some (.int .i64 2) := HX7.out.cell 0
  have y70 : w7.cell? ⟨w2.heap.size + 1, 0, none⟩ = some (.int .i64 2) := HY7.out.cell 0
  have x71 : w7.cell? ⟨w2.heap.size, 1, none⟩ = some (.slice (some ⟨g1, 0, none⟩) 2 rc) := HX7.out.cell 1
  have y71 : w7.cell? ⟨w2.heap.size + 1, 1, none⟩ = some (.slice (some ⟨h1, 0, none⟩) 2 rc2) := HY7.out.cell 1
  have x72 : w7.cell? ⟨w2.heap.size, 2, none⟩ = some (.slice (some ⟨g2, 0, none⟩) 5 cc) := HX7.out.cell 2
  have y72 : w7.cell? ⟨w2.heap.size + 1, 2, none⟩ = some (.slice (some ⟨h2, 0, none⟩) 5 cc2) := HY7.out.cell 2
  have x73 : w7.cell? ⟨w2.heap.size, 3, none⟩ = some (.int .i64 150) := HX7.out.cell 3
  have y73 : w7.cell? ⟨w2.heap.size + 1, 3, none⟩ = some (.int .i64 150) := HY7.out.cell 3
  have x74 : w7.cell? ⟨w2.heap.size, 4, none⟩ = some (.int .i64 100) := HX7.out.cell 4
  have y74 : w7.cell? ⟨w2.heap.size + 1, 4, none⟩ = some (.int .i64 100) := HY7.out.cell 4
  have x75 : w7.cell? ⟨w2.heap.size, 5, none⟩ = some (.slice (some ⟨g3, 0, none⟩) 2 dc) := HX7.out.cell 5
  have y75 : w7.cell? ⟨w2.heap.size + 1, 5, none⟩ = some (.slice (some ⟨h3, 0, none⟩) 2 dc2) := HY7.out.cell 5
  have x76 : w7.cell? ⟨w2.heap.size, 6, none⟩ = some (.slice (some ⟨g4, 0, none⟩) 4 pc) := HX7.out.cell 6
  have y76 : w7.cell? ⟨w2.heap.size + 1, 6, none⟩ = some (.slice (some ⟨h4, 0, none⟩) 4 pc2) := HY7.out.cell 6
  clear hb7
  go_wp2_with fail
  refine (PLeft_any (p := sampD true) 1 _ (by exact HP1.out.grow HQ7.out)).mono ?_
  rw [aw6]
  simp only [spV]
  rintro e w8 ⟨rfl, hb8⟩
  have HX8 : Hid (Blk w8 w2.heap.size 27 #[.int .i64 2, .slice (some ⟨g1, 0, none⟩) 2 rc, .slice (some ⟨g2, 0, none⟩) 5 cc, .int .i64 150, .int .i64 100, .slice (some ⟨g3, 0, none⟩) 2 dc, .slice (some ⟨g4, 0, none⟩) 4 pc]) := HX7.out.below hb8 HX7.out.lt
  have HY8 : Hid (Blk w8 (w2.heap.size + 1) 27 #[.int .i64 2, .slice (some ⟨h1, 0, none⟩) 2 rc2, .slice (some ⟨h2, 0, none⟩) 5 cc2, .int .i64 150, .int .i64 100, .slice (some ⟨h3, 0, none⟩) 2 dc2, .slice (some ⟨h4, 0, none⟩) 4 pc2]) := HY7.out.below hb8 HY7.out.lt
  have HS5_8 := Lib.hid (HS5_7.out.below hb8 HS5_7.out.lt)
  have HS7_8 := Lib.hid (HS7_7.out.below hb8 HS7_7.out.lt)
  have HS9_8 := Lib.hid (HS9_7.out.below hb8 HS9_7.out.lt)
  have HB8 : Hid (Below w.heap.size w w8) := HB7.out.trans (hb8.mono HB7.out.size)
  have HQ8 : Hid (Below w2.heap.size w2 w8) := HQ7.out.trans (hb8.mono HQ7.out.size)
  have hx8 : w2.heap.size < w8.heap.size := HX8.out.lt
  have hy8 : w2.heap.size + 1 < w8.heap.size := HY8.out.lt
  have hw8 : w.heap.size ≤ w8.heap.size := HB8.out.size
  clear x70 x71 x72 x73 x74 x75 x76 y70 y71 y72 y73 y74 y75 y76 hx7 hy7
  have x80 : w8.cell? ⟨w2.heap.size, 0, none⟩ = some (.int .i64 2) := HX8.out.cell 0
  have y80 : w8.cell? ⟨w2.heap.size + 1, 0, none⟩ = some (.int .i64 2) := HY8.out.cell 0
  have x81 : w8.cell? ⟨w2.heap.size, 1, none⟩ = some (.slice (some ⟨g1, 0, none⟩) 2 rc) := HX8.out.cell 1
  have y81 : w8.cell? ⟨w2.heap.size + 1, 1, none⟩ = some (.slice (some ⟨h1, 0, none⟩) 2 rc2) := HY8.out.cell 1
  have x82 : w8.cell? ⟨w2.heap.size, 2, none⟩ = some (.slice (some ⟨g2, 0, none⟩) 5 cc) := HX8.out.cell 2
  have y82 : w8.cell? ⟨w2.heap.size + 1, 2, none⟩ = some (.slice (some ⟨h2, 0, none⟩) 5 cc2) := HY8.out.cell 2
  have x83 : w8.cell? ⟨w2.heap.size, 3, none⟩ = some (.int .i64 150) := HX8.out.cell 3
  have y83 : w8.cell? ⟨w2.heap.size + 1, 3, none⟩ = some (.int .i64 150) := HY8.out.cell 3
  have x84 : w8.cell? ⟨w2.heap.size, 4, none⟩ = some (.int .i64 100) := HX8.out.cell 4
  have y84 : w8.cell? ⟨w2.heap.size + 1, 4, none⟩ = some (.int .i64 100) := HY8.out.cell 4
  have x85 : w8.cell? ⟨w2.heap.size, 5, none⟩ = some (.slice (some ⟨g3, 0, none⟩) 2 dc) := HX8.out.cell 5
  have y85 : w8.cell? ⟨w2.heap.size + 1, 5, none⟩ = some (.slice (some ⟨h3, 0, none⟩) 2 dc2) := HY8.out.cell 5
  have x86 : w8.cell? ⟨w2.heap.size, 6, none⟩ = some (.slice (some ⟨g4, 0, none⟩) 4 pc) := HX8.out.cell 6
  have y86 : w8.cell? ⟨w2.heap.size + 1, 6, none⟩ = some (.slice (some ⟨h4, 0, none⟩) 4 pc2) := HY8.out.cell 6
  clear hb8
  go_wp2_with fail
  refine (PCheck_any (p := sampD true) _ (by exact HP1.out.grow (HQ8.out.alloc (by omega) _)) (by exact HR.out.below (HB8.out.alloc (by omega) _))).mono ?_
  rw [aw7]
  simp only
  rintro e w9 ⟨rfl, hb9⟩
  have HX9 : Hid (Blk w9 w2.heap.size 27 #[.int .i64 2, .slice (some ⟨g1, 0, none⟩) 2 rc, .slice (some ⟨g2, 0, none⟩) 5 cc, .int .i64 150, .int .i64 100, .slice (some ⟨g3, 0, none⟩) 2 dc, .slice (some ⟨g4, 0, none⟩) 4 pc]) := (HX8.out.alloc _).below hb9 (HX8.out.alloc _).lt
  have HY9 : Hid (Blk w9 (w2.heap.size + 1) 27 #[.int .i64 2, .slice (some ⟨h1, 0, none⟩) 2 rc2, .slice (some ⟨h2, 0, none⟩) 5 cc2, .int .i64 150, .int .i64 100, .slice (some ⟨h3, 0, none⟩) 2 dc2, .slice (some ⟨h4, 0, none⟩) 4 pc2]) := (HY8.out.alloc _).below hb9 (HY8.out.alloc _).lt
  have HS5_9 := Lib.hid ((HS5_8.out.alloc _).below hb9 (HS5_8.out.alloc _).lt)
  have HS7_9 := Lib.hid ((HS7_8.out.alloc _).below hb9 (HS7_8.out.alloc _).lt)
  have HS9_9 := Lib.hid ((HS9_8.out.alloc _).below hb9 (HS9_8.out.alloc _).lt)
  have HS13_9 : Hid (Blk w9 w8.heap.size 34 #[.int .i64 (-41), .int .i64 (-38)]) := (Blk.new_ rfl _ _).below hb9 (by simp)
  have HB9 : Hid (Below w.heap.size w w9) := (HB8.out.alloc (by omega) _).trans (hb9.mono (HB8.out.alloc (by omega) _).size)
  have HQ9 : Hid (Below w2.heap.size w2 w9) := (HQ8.out.alloc (by omega) _).trans (hb9.mono (HQ8.out.alloc (by omega) _).size)
  have hx9 : w2.heap.size < w9.heap.size := HX9.out.lt
  have hy9 : w2.heap.size + 1 < w9.heap.size := HY9.out.lt
  have hw9 : w.heap.size ≤ w9.heap.size := HB9.out.size
  clear x80 x81 x82 x83 x84 x85 x86 y80 y81 y82 y83 y84 y85 y86 hx8 hy8
  have x90 : w9.cell? ⟨w2.heap.size, 0, none⟩ = some (.int .i64 2) := HX9.out.cell 0
  have y90 : w9.cell? ⟨w2.heap.size + 1, 0, none⟩ = some (.int .i64 2) := HY9.out.cell 0
  have x91 : w9.cell? ⟨w2.heap.size, 1, none⟩ = some (.slice (some ⟨g1, 0, none⟩) 2 rc) := HX9.out.cell 1
  have y91 : w9.cell? ⟨w2.heap.size + 1, 1, none⟩ = some (.slice (some ⟨h1, 0, none⟩) 2 rc2) := HY9.out.cell 1
  have x92 : w9.cell? ⟨w2.heap.size, 2, none⟩ = some (.slice (some ⟨g2, 0, none⟩) 5 cc) := HX9.out.cell 2
  have y92 : w9.cell? ⟨w2.heap.size + 1, 2, none⟩ = some (.slice (some ⟨h2, 0, none⟩) 5 cc2) := HY9.out.cell 2
  have x93 : w9.cell? ⟨w2.heap.size, 3, none⟩ = some (.int .i64 150) := HX9.out.cell 3
  have y93 : w9.cell? ⟨w2.heap.size + 1, 3, none⟩ = some (.int .i64 150) := HY9.out.cell 3
  have x94 : w9.cell? ⟨w2.heap.size, 4, none⟩ = some (.int .i64 100) := HX9.out.cell 4
  have y94 : w9.cell? ⟨w2.heap.size + 1, 4, none⟩ = some (.int .i64 100) := HY9.out.cell 4
  have x95 : w9.cell? ⟨w2.heap.size, 5, none⟩ = some (.slice (some ⟨g3, 0, none⟩) 2 dc) := HX9.out.cell 5
  have y95 : w9.cell? ⟨w2.heap.size + 1, 5, none⟩ = some (.slice (some ⟨h3, 0, none⟩) 2 dc2) := HY9.out.cell 5
  have x96 : w9.cell? ⟨w2.heap.size, 6, none⟩ = some (.slice (some ⟨g4, 0, none⟩) 4 pc) := HX9.out.cell 6
  have y96 : w9.cell? ⟨w2.heap.size + 1, 6, none⟩ = some (.slice (some ⟨h4, 0, none⟩) 4 pc2) := HY9.out.cell 6
  clear hb9
  go_wp2_with fail
  refine (PWrong_any (p := sampD false) _ (by exact HP2.out.grow HQ9.out)).mono ?_
  rw [aw8]
  simp only
  rintro e w10 ⟨rfl, hb10⟩
  have HX10 : Hid (Blk w10 w2.heap.size 27 #[.int .i64 2, .slice (some ⟨g1, 0, none⟩) 2 rc, .slice (some ⟨g2, 0, none⟩) 5 cc, .int .i64 150, .int .i64 100, .slice (some ⟨g3, 0, none⟩) 2 dc, .slice (some ⟨g4, 0, none⟩) 4 pc]) := HX9.out.below hb10 HX9.out.lt
  have HY10 : Hid (Blk w10 (w2.heap.size + 1) 27 #[.int .i64 2, .slice (some ⟨h1, 0, none⟩) 2 rc2, .slice (some ⟨h2, 0, none⟩) 5 cc2, .int .i64 150, .int .i64 100, .slice (some ⟨h3, 0, none⟩) 2 dc2, .slice (some ⟨h4, 0, none⟩) 4 pc2]) := HY9.out.below hb10 HY9.out.lt
  have HS5_10 := Lib.hid (HS5_9.out.below hb10 HS5_9.out.lt)
  have HS7_10 := Lib.hid (HS7_9.out.below hb10 HS7_9.out.lt)
  have HS9_10 := Lib.hid (HS9_9.out.below hb10 HS9_9.out.lt)
  have HS13_10 := Lib.hid (HS13_9.out.below hb10 HS13_9.out.lt)
  have HB10 : Hid (Below w.heap.size w w10) := HB9.out.trans (hb10.mono HB9.out.size)
  have HQ10 : Hid (Below w2.heap.size w2 w10) := HQ9.out.trans (hb10.mono HQ9.out.size)
  have hx10 : w2.heap.size < w10.heap.size := HX10.out.lt
  have hy10 : w2.heap.size + 1 < w10.heap.size := HY10.out.lt
  have hw10 : w.heap.size ≤ w10.heap.size := HB10.out.size
  clear x90 x91 x92 x93 x94 x95 x96 y90 y91 y92 y93 y94 y95 y96 hx9 hy9
  have x100 : w10.cell? ⟨w2.heap.size, 0, none⟩ = some (.int .i64 2) := HX10.out.cell 0
  have y100 : w10.cell? ⟨w2.heap.size + 1, 0, none⟩ = some (.int .i64 2) := HY10.out.cell 0
  have x101 : w10.cell? ⟨w2.heap.size, 1, none⟩ = some (.slice (some ⟨g1, 0, none⟩) 2 rc) := HX10.out.cell 1
  have y101 : w10.cell? ⟨w2.heap.size + 1, 1, none⟩ = some (.slice (some ⟨h1, 0, none⟩) 2 rc2) := HY10.out.cell 1
  have x102 : w10.cell? ⟨w2.heap.size, 2, none⟩ = some (.slice (some ⟨g2, 0, none⟩) 5 cc) := HX10.out.cell 2
  have y102 : w10.cell? ⟨w2.heap.size + 1, 2, none⟩ = some (.slice (some ⟨h2, 0, none⟩) 5 cc2) := HY10.out.cell 2
  have x103 : w10.cell? ⟨w2.heap.size, 3, none⟩ = some (.int .i64 150) := HX10.out.cell 3
  have y103 : w10.cell? ⟨w2.heap.size + 1, 3, none⟩ = some (.int .i64 150) := HY10.out.cell 3
  have x104 : w10.cell? ⟨w2.heap.size, 4, none⟩ = some (.int .i64 100) := HX10.out.cell 4
  have y104 : w10.cell? ⟨w2.heap.size + 1, 4, none⟩ = some (.int .i64 100) := HY10.out.cell 4
  have x105 : w10.cell? ⟨w2.heap.size, 5, none⟩ = some (.slice (some ⟨g3, 0, none⟩) 2 dc) := HX10.out.cell 5
  have y105 : w10.cell? ⟨w2.heap.size + 1, 5, none⟩ = some (.slice (some ⟨h3, 0, none⟩) 2 dc2) := HY10.out.cell 5
  have x106 : w10.cell? ⟨w2.heap.size, 6, none⟩ = some (.slice (some ⟨g4, 0, none⟩) 4 pc) := HX10.out.cell 6
  have y106 : w10.cell? ⟨w2.heap.size + 1, 6, none⟩ = some (.slice (some ⟨h4, 0, none⟩) 4 pc2) := HY10.out.cell 6
  clear hb10
  go_wp2_with fail
  refine (PStands_any (p := sampD true) 1 1 _ (by exact HP1.out.grow HQ10.out)).mono ?_
  rw [aw9]
  simp only
  rintro e w11 ⟨rfl, hb11⟩
  have HX11 : Hid (Blk w11 w2.heap.size 27 #[.int .i64 2, .slice (some ⟨g1, 0, none⟩) 2 rc, .slice (some ⟨g2, 0, none⟩) 5 cc, .int .i64 150, .int .i64 100, .slice (some ⟨g3, 0, none⟩) 2 dc, .slice (some ⟨g4, 0, none⟩) 4 pc]) := HX10.out.below hb11 HX10.out.lt
  have HY11 : Hid (Blk w11 (w2.heap.size + 1) 27 #[.int .i64 2, .slice (some ⟨h1, 0, none⟩) 2 rc2, .slice (some ⟨h2, 0, none⟩) 5 cc2, .int .i64 150, .int .i64 100, .slice (some ⟨h3, 0, none⟩) 2 dc2, .slice (some ⟨h4, 0, none⟩) 4 pc2]) := HY10.out.below hb11 HY10.out.lt
  have HS5_11 := Lib.hid (HS5_10.out.below hb11 HS5_10.out.lt)
  have HS7_11 := Lib.hid (HS7_10.out.below hb11 HS7_10.out.lt)
  have HS9_11 := Lib.hid (HS9_10.out.below hb11 HS9_10.out.lt)
  have HS13_11 := Lib.hid (HS13_10.out.below hb11 HS13_10.out.lt)
  have HB11 : Hid (Below w.heap.size w w11) := HB10.out.trans (hb11.mono HB10.out.size)
  have HQ11 : Hid (Below w2.heap.size w2 w11) := HQ10.out.trans (hb11.mono HQ10.out.size)
  have hx11 : w2.heap.size < w11.heap.size := HX11.out.lt
  have hy11 : w2.heap.size + 1 < w11.heap.size := HY11.out.lt
  have hw11 : w.heap.size ≤ w11.heap.size := HB11.out.size
  clear x100 x101 x102 x103 x104 x105 x106 y100 y101 y102 y103 y104 y105 y106 hx10 hy10
  have x110 : w11.cell? ⟨w2.heap.size, 0, none⟩ = some (.int .i64 2) := HX11.out.cell 0
  have y110 : w11.cell? ⟨w2.heap.size + 1, 0, none⟩ = some (.int .i64 2) := HY11.out.cell 0
  have x111 : w11.cell? ⟨w2.heap.size, 1, none⟩ = some (.slice (some ⟨g1, 0, none⟩) 2 rc) := HX11.out.cell 1
  have y111 : w11.cell? ⟨w2.heap.size + 1, 1, none⟩ = some (.slice (some ⟨h1, 0, none⟩) 2 rc2) := HY11.out.cell 1
  have x112 : w11.cell? ⟨w2.heap.size, 2, none⟩ = some (.slice (some ⟨g2, 0, none⟩) 5 cc) := HX11.out.cell 2
  have y112 : w11.cell? ⟨w2.heap.size + 1, 2, none⟩ = some (.slice (some ⟨h2, 0, none⟩) 5 cc2) := HY11.out.cell 2
  have x113 : w11.cell? ⟨w2.heap.size, 3, none⟩ = some (.int .i64 150) := HX11.out.cell 3
  have y113 : w11.cell? ⟨w2.heap.size + 1, 3, none⟩ = some (.int .i64 150) := HY11.out.cell 3
  have x114 : w11.cell? ⟨w2.heap.size, 4, none⟩ = some (.int .i64 100) := HX11.out.cell 4
  have y114 : w11.cell? ⟨w2.heap.size + 1, 4, none⟩ = some (.int .i64 100) := HY11.out.cell 4
  have x115 : w11.cell? ⟨w2.heap.size, 5, none⟩ = some (.slice (some ⟨g3, 0, none⟩) 2 dc) := HX11.out.cell 5
  have y115 : w11.cell? ⟨w2.heap.size + 1, 5, none⟩ = some (.slice (some ⟨h3, 0, none⟩) 2 dc2) := HY11.out.cell 5
  have x116 : w11.cell? ⟨w2.heap.size, 6, none⟩ = some (.slice (some ⟨g4, 0, none⟩) 4 pc) := HX11.out.cell 6
  have y116 : w11.cell? ⟨w2.heap.size + 1, 6, none⟩ = some (.slice (some ⟨h4, 0, none⟩) 4 pc2) := HY11.out.cell 6
  clear hb11
  clear x110 x111 x112 x113 x114 x115 x116 y110 y111 y112 y113 y114 y115 y116
  have s11_50 : w11.cell? ⟨w4.heap.size, 0, none⟩ = some (.int .i64 22) := HS5_11.out.cell 0
  have s11_51 : w11.cell? ⟨w4.heap.size, 1, none⟩ = some (.int .i64 24) := HS5_11.out.cell 1
  have t11_5 : w4.heap.size < w11.heap.size := HS5_11.out.lt
  have s11_70 : w11.cell? ⟨w5.heap.size, 0, none⟩ = some (.int .i64 50) := HS7_11.out.cell 0
  have s11_71 : w11.cell? ⟨w5.heap.size, 1, none⟩ = some (.int .i64 52) := HS7_11.out.cell 1
  have t11_7 : w5.heap.size < w11.heap.size := HS7_11.out.lt
  have s11_90 : w11.cell? ⟨w6.heap.size, 0, none⟩ = some (.int .i64 72) := HS9_11.out.cell 0
  have s11_91 : w11.cell? ⟨w6.heap.size, 1, none⟩ = some (.int .i64 75) := HS9_11.out.cell 1
  have t11_9 : w6.heap.size < w11.heap.size := HS9_11.out.lt
  have s11_130 : w11.cell? ⟨w8.heap.size, 0, none⟩ = some (.int .i64 (-41)) := HS13_11.out.cell 0
  have s11_131 : w11.cell? ⟨w8.heap.size, 1, none⟩ = some (.int .i64 (-38)) := HS13_11.out.cell 1
  have t11_13 : w8.heap.size < w11.heap.size := HS13_11.out.lt
  go_wp2
  refine wp_region_havoc [(0,false), (1,false), (2,false), (3,false), (4,false), (5,false), (6,false), (7,false), (8,false), (9,false), (10,false), (11,false), (12,false), (13,false), (14,false), (15,false), (16,false), (17,false), (18,false), (19,false), (20,false), (21,false), (22,false), (23,false), (24,false), (25,false), (26,false), (27,false), (28,false), (29,false), (30,false), (31,false), (32,false), (33,false), (34,false), (35,false), (36,false), (37,false), (38,false), (39,false), (40,false)] [] (fun _ _ => False) (by kernel_rfl) (by kernel_rfl) (fun _ _ _ _ h => h.elim) ?_
  iterate 8 (apply hav_same (by simp only [List.getElem?_toArray, List.getElem?_cons_succ, List.getElem?_cons_zero]; rfl) (by kernel_rfl); (focus (intro wv hgv _; have hcv : ∀ b o, b < _ → wv.cell? ⟨b, o, none⟩ = _ := fun b o hb => Below.cell hgv (p := ⟨b, o, none⟩) hb; go_simp; try rfl; done)); simp only [Act.put, List.setIfInBounds_toArray, List.set_cons_succ, List.set_cons_zero])
  (apply hav_call (by simp only [List.getElem?_toArray, List.getElem?_cons_succ, List.getElem?_cons_zero]; rfl) (by kernel_rfl); (focus (intro wv; go_simp; try exact ⟨rfl, rfl⟩; done)); (focus (intro wv hgv _; exact lspan_any 22 24 _; done)); simp only [Act.put, List.setIfInBounds_toArray, List.set_cons_succ, List.set_cons_zero])
  simp only [spV]
  iterate 8 (apply hav_same (by simp only [List.getElem?_toArray, List.getElem?_cons_succ, List.getElem?_cons_zero]; rfl) (by kernel_rfl); (focus (intro wv hgv _; have hcv : ∀ b o, b < _ → wv.cell? ⟨b, o, none⟩ = _ := fun b o hb => Below.cell hgv (p := ⟨b, o, none⟩) hb; go_simp; try rfl; done)); simp only [Act.put, List.setIfInBounds_toArray, List.set_cons_succ, List.set_cons_zero])
  (apply hav_call (by simp only [List.getElem?_toArray, List.getElem?_cons_succ, List.getElem?_cons_zero]; rfl) (by kernel_rfl); (focus (intro wv; go_simp; try exact ⟨rfl, rfl⟩; done)); (focus (intro wv hgv _; exact lspan_any 50 52 _; done)); simp only [Act.put, List.setIfInBounds_toArray, List.set_cons_succ, List.set_cons_zero])
  simp only [spV]
  iterate 8 (apply hav_same (by simp only [List.getElem?_toArray, List.getElem?_cons_succ, List.getElem?_cons_zero]; rfl) (by kernel_rfl); (focus (intro wv hgv _; have hcv : ∀ b o, b < _ → wv.cell? ⟨b, o, none⟩ = _ := fun b o hb => Below.cell hgv (p := ⟨b, o, none⟩) hb; go_simp; try rfl; done)); simp only [Act.put, List.setIfInBounds_toArray, List.set_cons_succ, List.set_cons_zero])
  (apply hav_call (by simp only [List.getElem?_toArray, List.getElem?_cons_succ, List.getElem?_cons_zero]; rfl) (by kernel_rfl); (focus (intro wv; go_simp; try exact ⟨rfl, rfl⟩; done)); (focus (intro wv hgv _; exact lspan_any 72 75 _; done)); simp only [Act.put, List.setIfInBounds_toArray, List.set_cons_succ, List.set_cons_zero])
  simp only [spV]
  iterate 14 (apply hav_same (by simp only [List.getElem?_toArray, List.getElem?_cons_succ, List.getElem?_cons_zero]; rfl) (by kernel_rfl); (focus (intro wv hgv _; have hcv : ∀ b o, b < _ → wv.cell? ⟨b, o, none⟩ = _ := fun b o hb => Below.cell hgv (p := ⟨b, o, none⟩) hb; go_simp; try rfl; done)); simp only [Act.put, List.setIfInBounds_toArray, List.set_cons_succ, List.set_cons_zero])
  refine hav_end (fun w12 hgw12 _ => ?_); simp only [List.filterMap]; have hcw12 : ∀ b o, b < _ → w12.cell? ⟨b, o, none⟩ = _ := fun b o hb => Below.cell hgw12 (p := ⟨b, o, none⟩) hb; have hfw12 : ∀ b o, b < _ → w12.frozen? ⟨b, o, none⟩ = _ := fun b o hb => Below.frozen hgw12 (p := ⟨b, o, none⟩) hb; have hzw12 := Below.size hgw12; (try simp at hzw12)
  have HB12 : Hid (Below w.heap.size w w12) := HB11.out.trans (hgw12.mono HB11.out.size)
  have HS13_12 := Lib.hid (HS13_11.out.below hgw12 HS13_11.out.lt)
  clear hgw12 hcw12 hfw12
  have s12_130 : w12.cell? ⟨w8.heap.size, 0, none⟩ = some (.int .i64 (-41)) := HS13_12.out.cell 0
  have s12_131 : w12.cell? ⟨w8.heap.size, 1, none⟩ = some (.int .i64 (-38)) := HS13_12.out.cell 1
  have t12_13 : w8.heap.size < w12.heap.size := HS13_12.out.lt
  go_wp2
  refine wp_region_havoc [(0,false), (1,false), (2,false), (3,false), (4,false), (5,false), (6,false), (7,false), (8,false), (9,false), (10,false), (11,false), (12,false), (13,false), (14,false), (15,false), (16,false), (17,false), (18,false), (19,false), (20,false), (21,false), (22,false), (23,false), (24,false), (25,false), (26,false), (27,false), (28,false), (29,false), (30,false), (31,false)] [] (fun _ _ => False) (by kernel_rfl) (by kernel_rfl) (fun _ _ _ _ h => h.elim) ?_
  (apply hav_same (by simp only [List.getElem?_toArray, List.getElem?_cons_zero]; rfl) (by kernel_rfl); (focus (intro wv hgv _; have hcv : ∀ b o, b < _ → wv.cell? ⟨b, o, none⟩ = _ := fun b o hb => Below.cell hgv (p := ⟨b, o, none⟩) hb; go_simp; try rfl; done)); simp only [Act.put, List.setIfInBounds_toArray, List.set_cons_succ, List.set_cons_zero])
  (apply hav_call (by simp only [List.getElem?_toArray, List.getElem?_cons_succ, List.getElem?_cons_zero]; rfl) (by kernel_rfl); (focus (intro wv; go_simp; try exact ⟨rfl, rfl⟩; done)); (focus (intro wv hgv _; exact lspan_any (-41) (-38) _; done)); simp only [Act.put, List.setIfInBounds_toArray, List.set_cons_succ, List.set_cons_zero])
  simp only [spV]
  iterate 30 (apply hav_same (by simp only [List.getElem?_toArray, List.getElem?_cons_succ, List.getElem?_cons_zero]; rfl) (by kernel_rfl); (focus (intro wv hgv _; have hcv : ∀ b o, b < _ → wv.cell? ⟨b, o, none⟩ = _ := fun b o hb => Below.cell hgv (p := ⟨b, o, none⟩) hb; go_simp; try rfl; done)); simp only [Act.put, List.setIfInBounds_toArray, List.set_cons_succ, List.set_cons_zero])
  refine hav_end (fun w13 hgw13 _ => ?_); simp only [List.filterMap]; have hcw13 : ∀ b o, b < _ → w13.cell? ⟨b, o, none⟩ = _ := fun b o hb => Below.cell hgw13 (p := ⟨b, o, none⟩) hb; have hfw13 : ∀ b o, b < _ → w13.frozen? ⟨b, o, none⟩ = _ := fun b o hb => Below.frozen hgw13 (p := ⟨b, o, none⟩) hb; have hzw13 := Below.size hgw13; (try simp at hzw13)
  go_wp2
  go_ret
  exact ⟨rfl, HB12.out.trans (hgw13.mono HB12.out.size)⟩
end Go.Proofs.YtlcolpnniipgbaaDoor
