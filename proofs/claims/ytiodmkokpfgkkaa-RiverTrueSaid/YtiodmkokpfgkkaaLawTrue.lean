/- The law RiverTrue, whole: for every river, numbers and boat it answers true. Conditions: numbers are of 16 and 8 bits. -/
import Derived.Test.YtiodmkokpfgkkaaLawTrueE
namespace Go.Proofs.Ytiodmkokpfgkkaa
open Go.RowKit Go.Hav Go.Shelf Go.Sq
attribute [local go_sem] Oper.semAt_some
section
variable {fa la ua : Option Addr} {fl fc ll lc ul uc : Nat} {r : IRiv} {w : World} {U : List Nat}
set_option maxRecDepth 100000 in
set_option maxHeartbeats 6400000 in
theorem lawTrue_any (hul : U.length = ul) (hub : ∀ x ∈ U, x ≤ 65535) (hum : ul ≤ 9223372036854775807) (boat : Nat) (hboat : boat ≤ 255) (w : World) (hP : RvIn w w.heap.size fa fl la ll r) (hu : RdG uV 1 w w.heap.size ua U) :
  Calls Try.prog 6 #[(.agg #[.int .i64 r.depth.lo, .int .i64 r.depth.hi, .int .i64 r.fall.lo, .int .i64 r.fall.hi, .int .i64 r.days, .slice fa fl fc, .slice la ll lc]), .slice ua ul uc, .int .u8 boat] w (LawTrueT w) := by
 have HP0 := Lib.hid hP
 have HU0 : Hid (UIn w w.heap.size ua ul U) := ⟨hul, hum, hu, hub⟩
 have m1 := hP.mfl
 have m2 := hP.mll
 obtain ⟨W, hW⟩ : ∃ W, W = w.alloc (.cells #[.int .i64 r.depth.lo, .int .i64 r.depth.hi, .int .i64 r.fall.lo, .int .i64 r.fall.hi, .int .i64 r.days, .slice fa fl fc, .slice la ll lc] 27) := ⟨_, rfl⟩
 obtain ⟨b2, hb2⟩ : ∃ b2, b2 = w.heap.size := ⟨_, rfl⟩
 have HX0 : Hid (Blk W b2 27 #[.int .i64 r.depth.lo, .int .i64 r.depth.hi, .int .i64 r.fall.lo, .int .i64 r.fall.hi, .int .i64 r.days, .slice fa fl fc, .slice la ll lc]) := by rw [hW, hb2]; exact Blk.new w 27 _
 have HB0 : Hid (Below w.heap.size w W) := by rw [hW]; exact (Below.refl _ _).alloc (Nat.le_refl _) _
 have HP1 := Lib.hid (HP0.out.grow HB0.out)
 have HU1 := Lib.hid (HU0.out.grow HB0.out)
 clear hP HP0 HU0 hul hub hum hu
 go_enter Try.func6, Try.ntmps6
 conv => arg 2; whnf
 conv => arg 2; arg 2; arg 2; change trueK 2
 go_upto_region 1 with (fail)
 rw [← hW, ← hb2]
 clear hW hb2
 have HX := HX0
 have x0 := HX.out.cell 0
 have x1 := HX.out.cell 1
 have x2 := HX.out.cell 2
 have x3 := HX.out.cell 3
 have x4 := HX.out.cell 4
 have x5 := HX.out.cell 5
 have x6 := HX.out.cell 6
 have xl := HX.out.lt
 simp at x0 x1 x2 x3 x4 x5 x6
 go_wp2_with fail
 refine (long_any (fa := fa) (fl := fl) (fc := fc) (la := la) (ll := ll) (lc := lc) (r := r) W m1 m2).mono ?_
 rintro e w1 ⟨⟨b, rfl, -⟩, hb⟩
 have HB1 : Hid (Below w.heap.size w w1) := HB0.out.trans (hb.mono HB0.out.size)
 have HP2 := Lib.hid (HP1.out.grow hb)
 have HU2 := Lib.hid (HU1.out.grow hb)
 have HX2 : Hid (Blk w1 b2 27 #[.int .i64 r.depth.lo, .int .i64 r.depth.hi, .int .i64 r.fall.lo, .int .i64 r.fall.hi, .int .i64 r.days, .slice fa fl fc, .slice la ll lc]) := HX0.out.below hb HX0.out.lt
 clear hb x0 x1 x2 x3 x4 x5 x6 xl HX HX0 HP1 HU1
 cases b
 case true =>
  go_wp2_with fail
  refine (alive_any _).mono ?_
  rintro e wz ⟨rfl, hbz⟩
  have HBz : Hid (Below w.heap.size w wz) := HB1.out.trans (hbz.mono HB1.out.size)
  clear hbz
  go_wp2
  go_ret
  exact ⟨rfl, HBz.out⟩
 have HX := HX2
 have x0 := HX.out.cell 0
 have x1 := HX.out.cell 1
 have x2 := HX.out.cell 2
 have x3 := HX.out.cell 3
 have x4 := HX.out.cell 4
 have x5 := HX.out.cell 5
 have x6 := HX.out.cell 6
 have xl := HX.out.lt
 simp at x0 x1 x2 x3 x4 x5 x6
 go_wp2_with fail
 refine (rriver_any (fa := fa) (fl := fl) (fc := fc) (la := la) (ll := ll) (lc := lc) (r := r) w1 (by exact HP2.out)).mono ?_
 cases hv : okR r
 case false =>
  clear hv
  rintro e w2 ⟨rfl, hb⟩
  have HB2 : Hid (Below w.heap.size w w2) := HB1.out.trans (hb.mono HB1.out.size)
  clear hb
  go_wp2_with fail
  refine (alive_any _).mono ?_
  rintro e wz ⟨rfl, hbz⟩
  have HBz : Hid (Below w.heap.size w wz) := HB2.out.trans (hbz.mono HB2.out.size)
  clear hbz
  go_wp2
  go_ret
  exact ⟨rfl, HBz.out⟩
 rintro e w2 ⟨rfl, hb⟩
 have HB2 : Hid (Below w.heap.size w w2) := HB1.out.trans (hb.mono HB1.out.size)
 have HP3 := Lib.hid (HP2.out.grow hb)
 have HU3 := Lib.hid (HU2.out.grow hb)
 have HX3 : Hid (Blk w2 b2 27 #[.int .i64 r.depth.lo, .int .i64 r.depth.hi, .int .i64 r.fall.lo, .int .i64 r.fall.hi, .int .i64 r.days, .slice fa fl fc, .slice la ll lc]) := HX2.out.below hb HX2.out.lt
 have HV := Lib.hid hv
 clear hb hv x0 x1 x2 x3 x4 x5 x6 xl HX HX2 HP2 HU2
 go_wp2
 exact true2 HV.out HB2.out HP3.out HU3.out HX3.out boat hboat _ _ _ _ _ _ _ _ _ _ _ _ _ _ _ _ _ _ _ _ _ _ _ _ _ _ _ _ _ _ _ _ _ _ _ _ _ _ _ _ _ _ _ _ _ _ _ _ _ _ _ _ _ _ _ _ _ _ _ _ _ _ _ _ _ _ _ _ _ _ _ _ _ _ _ _ _ _ _ _ _ _ _ _ _ _ _ _ _ _ _ _ _ _ _ _ _ _ _ _ _ _ _ _ _ _ _ _ _ _ _ _ _ _ _ _ _ _ _ _ _ _ _ _ _ _ _ _ _ _ _ _ _ _ _ _ _ _ _ _ _ _ _ _ _ _ _ _ _ _ _ _ _ _ _ _ _ _ _ _ _ _ _ _ _ _ _ _ _ _ _ _ _ _ _ _ _ _ _ _ _ _ _ _ _ _ _ _ _ _ _ _ _ _ _ _ _ _ _ _ _ _ _ _ _ _ _ _ _ _ _ _ _ _ _ _ _ _ _ _ _ _ _ _ _ _ _ _ _ _ _ _ _ _ _ _ _ _ _ _ _ _ _ _ _
end
end Go.Proofs.Ytiodmkokpfgkkaa
