/- The law RiverFalls: without freshes and looks the river is as deep as is left of both ends; with more water it is no shallower. Conditions: the freshes' capacity is no less than their number; numbers are of 8 bits. -/
import Derived.Test.YtiodmkokpfgkkaaLawFallsD
namespace Go.Proofs.Ytiodmkokpfgkkaa
open Go.RowKit Go.Hav Go.Shelf Go.Sq
attribute [local go_sem] Oper.semAt_some
section
variable {fa la : Option Addr} {fl fc ll lc : Nat} {r : IRiv} {w : World}
set_option maxRecDepth 100000 in
set_option maxHeartbeats 6400000 in
theorem lawFalls_any (wh : Nat) (hwh : wh ≤ 255) (mu : Nat) (hmu : mu ≤ 255) (w : World) (hP : RvIn w w.heap.size fa fl la ll r) (hfc : fl ≤ fc) :
    Calls Try.prog 9 #[(.agg #[.int .i64 r.depth.lo, .int .i64 r.depth.hi, .int .i64 r.fall.lo, .int .i64 r.fall.hi, .int .i64 r.days, .slice fa fl fc, .slice la ll lc]), .int .u8 wh, .int .u8 mu] w (LawTrueF w) := by
  have HP0 := Lib.hid hP
  have m1 := hP.mfl
  have m2 := hP.mll
  obtain ⟨W, hW⟩ : ∃ W, W = w.alloc (.cells #[.int .i64 r.depth.lo, .int .i64 r.depth.hi, .int .i64 r.fall.lo, .int .i64 r.fall.hi, .int .i64 r.days, .slice fa fl fc, .slice la ll lc] 27) := ⟨_, rfl⟩
  obtain ⟨b2, hb2⟩ : ∃ b2, b2 = w.heap.size := ⟨_, rfl⟩
  have HX0 : Hid (Blk W b2 27 #[.int .i64 r.depth.lo, .int .i64 r.depth.hi, .int .i64 r.fall.lo, .int .i64 r.fall.hi, .int .i64 r.days, .slice fa fl fc, .slice la ll lc]) := by rw [hW, hb2]; exact Blk.new w 27 _
  have HB0 : Hid (Below w.heap.size w W) := by rw [hW]; exact (Below.refl _ _).alloc (Nat.le_refl _) _
  have HP1 := Lib.hid (HP0.out.grow HB0.out)
  have HLE : Hid (w.heap.size ≤ b2) := by rw [hb2]; exact Nat.le_refl _
  clear hP
  go_enter Try.func9, Try.ntmps9
  conv => arg 2; whnf
  conv => arg 2; arg 2; arg 2; arg 2; arg 2; change fallsK 4
  go_upto_region 1 with (fail)
  rw [← hW, ← hb2]
  clear hW hb2
  have HX := HX0
  have x0 := HX.out.cell 0
  have x1 := HX.out.cell 1
  have x2 := HX.out.cell 2
  have x3 := HX.out.cell 3
  have x4 := HX.out.cell 4
  have x5 := HX.out.cell 5
  have x6 := HX.out.cell 6
  have xl := HX.out.lt
  simp at x0 x1 x2 x3 x4 x5 x6
  go_wp2_with fail
  refine (long_any (fa := fa) (fl := fl) (fc := fc) (la := la) (ll := ll) (lc := lc) (r := r) W m1 m2).mono ?_
  rintro e w1 ⟨⟨b, rfl, -⟩, hb⟩
  have HB1 : Hid (Below w.heap.size w w1) := HB0.out.trans (hb.mono HB0.out.size)
  have HP2 := Lib.hid (HP1.out.grow hb)
  have HX2 : Hid (Blk w1 b2 27 #[.int .i64 r.depth.lo, .int .i64 r.depth.hi, .int .i64 r.fall.lo, .int .i64 r.fall.hi, .int .i64 r.days, .slice fa fl fc, .slice la ll lc]) := HX0.out.below hb HX0.out.lt
  clear hb x0 x1 x2 x3 x4 x5 x6 xl HX HX0 HP1
  cases b
  case true =>
    go_wp2_with fail
    refine (alive_any _).mono ?_
    rintro e wz ⟨rfl, hbz⟩
    have HBz : Hid (Below w.heap.size w wz) := HB1.out.trans (hbz.mono HB1.out.size)
    clear hbz
    go_wp2
    go_ret
    exact ⟨rfl, HBz.out⟩
  have HX := HX2
  have x0 := HX.out.cell 0
  have x1 := HX.out.cell 1
  have x2 := HX.out.cell 2
  have x3 := HX.out.cell 3
  have x4 := HX.out.cell 4
  have x5 := HX.out.cell 5
  have x6 := HX.out.cell 6
  have xl := HX.out.lt
  simp at x0 x1 x2 x3 x4 x5 x6
  go_wp2_with fail
  refine (rriver_any (fa := fa) (fl := fl) (fc := fc) (la := la) (ll := ll) (lc := lc) (r := r) w1 (by exact HP2.out)).mono ?_
  cases hv : okR r
  case false =>
    clear hv
    rintro e w2 ⟨rfl, hb⟩
    have HB2 : Hid (Below w.heap.size w w2) := HB1.out.trans (hb.mono HB1.out.size)
    clear hb
    go_wp2_with fail
    refine (alive_any _).mono ?_
    rintro e wz ⟨rfl, hbz⟩
    have HBz : Hid (Below w.heap.size w wz) := HB2.out.trans (hbz.mono HB2.out.size)
    clear hbz
    go_wp2
    go_ret
    exact ⟨rfl, HBz.out⟩
  rintro e w2 ⟨rfl, hb⟩
  have HB2 : Hid (Below w.heap.size w w2) := HB1.out.trans (hb.mono HB1.out.size)
  have HX3 : Hid (Blk w2 b2 27 #[.int .i64 r.depth.lo, .int .i64 r.depth.hi, .int .i64 r.fall.lo, .int .i64 r.fall.hi, .int .i64 r.days, .slice fa fl fc, .slice la ll lc]) := HX2.out.below hb HX2.out.lt
  have HV := Lib.hid hv
  clear hb hv x0 x1 x2 x3 x4 x5 x6 xl HX HX2 HP2
  have HX := HX3
  have x0 := HX.out.cell 0
  have x1 := HX.out.cell 1
  have x2 := HX.out.cell 2
  have x3 := HX.out.cell 3
  have x4 := HX.out.cell 4
  have x5 := HX.out.cell 5
  have x6 := HX.out.cell 6
  have xl := HX.out.lt
  simp at x0 x1 x2 x3 x4 x5 x6
  go_wp2_with fail
  exact falls4 HV.out hfc hwh hmu HP0.out (HB2.out.trans (((Below.refl _ _).alloc (Nat.le_refl _) _).mono HB2.out.size)) (HX3.out.alloc _) (Blk.new w2 27 _) _ _ _ _ _ _ _ _ _ _ _ _ _ _ _ _ _ _ _ _ _ _ _ _ _ _ _ _ _ _ _ _ _ _ _ _ _ _ _ _ _ _ _ _ _ _ _ _ _ _ _ _ _ _ _ _ _ _ _ _ _ _ _ _ _ _ _ _ _ _ _ _ _ _ _ _ _ _ _ _ _ _ _ _ _ _ _ _ _ _ _ _ _ _ _ _ _ _ _ _ _ _ _ _ _ _ _ _ _ _ _ _ _ _ _ _ _ _ _ _ _ _ _ _ _ _ _ _ _ _ _ _ _ _ _ _ _ _ _ _ _ _ _ _ _ _ _ _ _ _ _ _ _ _ _ _ _ _ _ _ _ _ _ _ _ _ _ _ _ _ _ _ _ _ _ _ _ _ _ _ _ _ _ _ _ _ _ _ _ _ _ _ _ _ _ _ _ _ _ _ _ _ _ _ _ _ _ _ _ _ _ _ _ _ _ _ _ _ _ _ _ _ _ _ _ _ _ _ _ _ _ _ _ _ _ _ _
end
end Go.Proofs.Ytiodmkokpfgkkaa
