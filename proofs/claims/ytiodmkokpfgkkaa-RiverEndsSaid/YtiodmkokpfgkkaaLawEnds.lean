/- The law RiverEnds, whole: for every river and two numbers it answers true. Conditions: the numbers are of 8 bits. -/
import Derived.Test.YtiodmkokpfgkkaaLawEndsE
namespace Go.Proofs.Ytiodmkokpfgkkaa
open Go.RowKit Go.Hav Go.Shelf Go.Sq
attribute [local go_sem] Oper.semAt_some
section
variable {fa la : Option Addr} {fl fc ll lc : Nat} {r : IRiv} {w : World}
set_option maxRecDepth 100000 in
set_option maxHeartbeats 6400000 in
theorem lawEnds_any (at_ : Nat) (hat : at_ ≤ 255) (which : Nat) (hwh : which ≤ 255) (w : World) (hP : RvIn w w.heap.size fa fl la ll r) :
  Calls Try.prog 7 #[(.agg #[.int .i64 r.depth.lo, .int .i64 r.depth.hi, .int .i64 r.fall.lo, .int .i64 r.fall.hi, .int .i64 r.days, .slice fa fl fc, .slice la ll lc]), .int .u8 at_, .int .u8 which] w (LawTrueT w) := by
 have HP0 := Lib.hid hP
 have m1 := hP.mfl
 have m2 := hP.mll
 obtain ⟨W, hW⟩ : ∃ W, W = w.alloc (.cells #[.int .i64 r.depth.lo, .int .i64 r.depth.hi, .int .i64 r.fall.lo, .int .i64 r.fall.hi, .int .i64 r.days, .slice fa fl fc, .slice la ll lc] 27) := ⟨_, rfl⟩
 obtain ⟨b3, hb3⟩ : ∃ b3, b3 = w.heap.size := ⟨_, rfl⟩
 have HX0 : Hid (Blk W b3 27 #[.int .i64 r.depth.lo, .int .i64 r.depth.hi, .int .i64 r.fall.lo, .int .i64 r.fall.hi, .int .i64 r.days, .slice fa fl fc, .slice la ll lc]) := by rw [hW, hb3]; exact Blk.new w 27 _
 have HB0 : Hid (Below w.heap.size w W) := by rw [hW]; exact (Below.refl _ _).alloc (Nat.le_refl _) _
 have HP1 := Lib.hid (HP0.out.grow HB0.out)
 clear hP HP0
 go_enter Try.func7, Try.ntmps7
 conv => arg 2; whnf
 conv => arg 2; arg 2; arg 2; arg 2; change endsK 3
 go_upto_region 1 with (fail)
 rw [← hW, ← hb3]
 clear hW hb3
 have HX := HX0
 have x0 := HX.out.cell 0
 have x1 := HX.out.cell 1
 have x2 := HX.out.cell 2
 have x3 := HX.out.cell 3
 have x4 := HX.out.cell 4
 have x5 := HX.out.cell 5
 have x6 := HX.out.cell 6
 have xl := HX.out.lt
 simp at x0 x1 x2 x3 x4 x5 x6
 go_wp2_with fail
 refine (long_any (fa := fa) (fl := fl) (fc := fc) (la := la) (ll := ll) (lc := lc) (r := r) W m1 m2).mono ?_
 rintro e w1 ⟨⟨b, rfl, -⟩, hb⟩
 have HB1 : Hid (Below w.heap.size w w1) := HB0.out.trans (hb.mono HB0.out.size)
 have HP2 := Lib.hid (HP1.out.grow hb)
 have HX2 : Hid (Blk w1 b3 27 #[.int .i64 r.depth.lo, .int .i64 r.depth.hi, .int .i64 r.fall.lo, .int .i64 r.fall.hi, .int .i64 r.days, .slice fa fl fc, .slice la ll lc]) := HX0.out.below hb HX0.out.lt
 clear hb x0 x1 x2 x3 x4 x5 x6 xl HX HX0 HP1
 cases b
 case true =>
  go_wp2_with fail
  refine (alive_any _).mono ?_
  rintro e wz ⟨rfl, hbz⟩
  have HBz : Hid (Below w.heap.size w wz) := HB1.out.trans (hbz.mono HB1.out.size)
  clear hbz
  go_wp2
  go_ret
  exact ⟨rfl, HBz.out⟩
 have HX := HX2
 have x0 := HX.out.cell 0
 have x1 := HX.out.cell 1
 have x2 := HX.out.cell 2
 have x3 := HX.out.cell 3
 have x4 := HX.out.cell 4
 have x5 := HX.out.cell 5
 have x6 := HX.out.cell 6
 have xl := HX.out.lt
 simp at x0 x1 x2 x3 x4 x5 x6
 go_wp2_with fail
 refine (rriver_any (fa := fa) (fl := fl) (fc := fc) (la := la) (ll := ll) (lc := lc) (r := r) w1 (by exact HP2.out)).mono ?_
 cases hv : okR r
 case false =>
  have D0 := Lib.hid (depth_bad hv)
  have D1 := Lib.hid (clash_bad hv)
  clear hv
  rintro e w2 ⟨rfl, hb⟩
  have HB2 : Hid (Below w.heap.size w w2) := HB1.out.trans (hb.mono HB1.out.size)
  have HP3 := Lib.hid (HP2.out.grow hb)
  have HX3 : Hid (Blk w2 b3 27 #[.int .i64 r.depth.lo, .int .i64 r.depth.hi, .int .i64 r.fall.lo, .int .i64 r.fall.hi, .int .i64 r.days, .slice fa fl fc, .slice la ll lc]) := HX2.out.below hb HX2.out.lt
  clear hb x0 x1 x2 x3 x4 x5 x6 xl HX HX2 HP2
  have HX := HX3
  have x0 := HX.out.cell 0
  have x1 := HX.out.cell 1
  have x2 := HX.out.cell 2
  have x3 := HX.out.cell 3
  have x4 := HX.out.cell 4
  have x5 := HX.out.cell 5
  have x6 := HX.out.cell 6
  have xl := HX.out.lt
  simp at x0 x1 x2 x3 x4 x5 x6
  go_wp2_with fail
  refine (PDepth_any (fa := fa) (fl := fl) (fc := fc) (la := la) (ll := ll) (lc := lc) (r := r) (w := w2) 0 (by exact HP3.out)).mono ?_
  rw [D0.out]
  rintro e v3 ⟨rfl, hb⟩
  obtain ⟨V3, hV3⟩ : ∃ W, W = v3.alloc (.cells #[.int .i64 0, .int .i64 0] 23) := ⟨_, rfl⟩
  obtain ⟨b7, hb7⟩ : ∃ g, g = v3.heap.size := ⟨_, rfl⟩
  obtain ⟨w3, hw3⟩ : ∃ x, x = V3 := ⟨_, rfl⟩
  have HA : Below w2.heap.size w2 w3 := by rw [hw3, hV3]; exact hb.alloc hb.size _
  have HN : Hid (Blk w3 b7 23 #[.int .i64 0, .int .i64 0]) := by rw [hw3, hV3, hb7]; exact Blk.new v3 23 _
  have HB3 : Hid (Below w.heap.size w w3) := HB2.out.trans (HA.mono HB2.out.size)
  have HP4 := Lib.hid (HP3.out.grow HA)
  have HX4 : Hid (Blk w3 b3 27 #[.int .i64 r.depth.lo, .int .i64 r.depth.hi, .int .i64 r.fall.lo, .int .i64 r.fall.hi, .int .i64 r.days, .slice fa fl fc, .slice la ll lc]) := HX3.out.below HA HX3.out.lt
  clear hb HA x0 x1 x2 x3 x4 x5 x6 xl HX
  go_upto_region 5 with (fail)
  rw [← hV3, ← hb7, ← hw3]
  clear hV3 hb7 hw3
  have HX := HX4
  have x0 := HX.out.cell 0
  have x1 := HX.out.cell 1
  have x2 := HX.out.cell 2
  have x3 := HX.out.cell 3
  have x4 := HX.out.cell 4
  have x5 := HX.out.cell 5
  have x6 := HX.out.cell 6
  have xl := HX.out.lt
  simp at x0 x1 x2 x3 x4 x5 x6
  go_wp2_with fail
  refine (PClash_any (fa := fa) (fl := fl) (fc := fc) (la := la) (ll := ll) (lc := lc) (r := r) (w := w3) (by exact HP4.out)).mono ?_
  rw [D1.out]
  rintro e w4 ⟨rfl, hb⟩
  have HN4 := Lib.hid (HN.out.below hb HN.out.lt)
  have HB4 : Hid (Below w.heap.size w w4) := HB3.out.trans (hb.mono HB3.out.size)
  clear hb x0 x1 x2 x3 x4 x5 x6 xl HX
  have y0 := HN4.out.cell 0
  have y1 := HN4.out.cell 1
  have yl := HN4.out.lt
  simp at y0 y1
  go_wp2_with fail
  refine (alive_any _).mono ?_
  rintro e wz ⟨rfl, hbz⟩
  have HBz : Hid (Below w.heap.size w wz) := HB4.out.trans (hbz.mono HB4.out.size)
  clear hbz
  go_wp2
  go_ret
  exact ⟨rfl, HBz.out⟩
 rintro e w2 ⟨rfl, hb⟩
 have HB2 : Hid (Below w.heap.size w w2) := HB1.out.trans (hb.mono HB1.out.size)
 have HP3 := Lib.hid (HP2.out.grow hb)
 have HX3 : Hid (Blk w2 b3 27 #[.int .i64 r.depth.lo, .int .i64 r.depth.hi, .int .i64 r.fall.lo, .int .i64 r.fall.hi, .int .i64 r.days, .slice fa fl fc, .slice la ll lc]) := HX2.out.below hb HX2.out.lt
 have HV := Lib.hid hv
 clear hb hv x0 x1 x2 x3 x4 x5 x6 xl HX HX2 HP2
 go_wp2
 exact ends3 HV.out HB2.out HX3.out HP3.out at_ which hat hwh _ _ _ _ _ _ _ _ _ _ _ _ _ _ _ _ _ _ _ _ _ _ _ _ _ _ _ _ _ _ _ _ _ _ _ _ _ _ _ _ _ _ _ _ _ _ _ _ _ _ _ _ _ _ _ _ _ _ _ _ _ _ _ _ _ _ _ _ _ _ _ _ _ _ _ _ _ _ _ _ _ _ _ _ _ _ _ _ _ _ _ _ _ _ _ _ _ _ _ _ _ _ _ _ _ _ _ _ _ _ _ _ _ _ _ _ _ _ _ _ _ _ _ _ _ _ _ _ _ _ _ _ _ _ _ _ _ _ _ _ _ _ _ _ _ _ _ _ _ _ _ _ _ _ _ _ _ _ _ _ _ _ _ _ _ _ _ _ _ _ _ _ _ _ _ _ _ _ _ _ _ _ _ _ _ _ _ _ _ _ _ _ _ _ _ _ _ _ _ _ _ _ _ _ _ _ _ _ _ _ _ _ _ _ _ _ _ _ _ _ _ _ _ _ _ _ _ _ _ _ _ _ _ _ _ _ _ _ _ _ _ _ _ _ _ _ _ _ _ _ _ _ _ _ _ _ _ _ _ _ _ _ _ _ _ _ _ _ _ _ _ _ _ _ _ _ _ _ _ _ _ _ _ _ _ _ _ _ _ _ _ _ _ _ _ _ _ _ _ _ _ _ _ _ _ _ _ _ _ _ _ _ _ _ _ _ _ _ _ _ _ _ _ _ _ _ _ _ _ _ _ _ _ _ _ _ _ _ _ _ _ _ _ _ _ _ _ _ _ _ _ _ _ _ _ _ _
end
end Go.Proofs.Ytiodmkokpfgkkaa
