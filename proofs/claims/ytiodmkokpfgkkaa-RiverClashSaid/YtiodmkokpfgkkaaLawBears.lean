/- The law RiverBears: the river bears a boat as its depth says. No condition. -/
import Derived.Test.YtiodmkokpfgkkaaLawBearsC
namespace Go.Proofs.Ytiodmkokpfgkkaa
open Go.RowKit Go.Hav Go.Shelf Go.Sq
attribute [local go_sem] Oper.semAt_some
section
variable {fa la : Option Addr} {fl fc ll lc : Nat} {r : IRiv} {w : World}
set_option maxRecDepth 100000 in
set_option maxHeartbeats 6400000 in
theorem lawBears_any (boat : Nat) (hboat : boat ≤ 255) (w : World) (hP : RvIn w w.heap.size fa fl la ll r) :
    Calls Try.prog 8 #[(.agg #[.int .i64 r.depth.lo, .int .i64 r.depth.hi, .int .i64 r.fall.lo, .int .i64 r.fall.hi, .int .i64 r.days, .slice fa fl fc, .slice la ll lc]), .int .u8 boat] w (LawTrueP w) := by
  have HP0 := Lib.hid hP
  have m1 := hP.mfl
  have m2 := hP.mll
  obtain ⟨n, hn⟩ : ∃ n, n = boat % 130 := ⟨_, rfl⟩
  have hn130 : n < 130 := by omega
  have tm : (boat : Int).tmod 130 = (n : Int) := by rw [Int.tmod_eq_emod_of_nonneg (by omega)]; omega
  obtain ⟨W, hW⟩ : ∃ W, W = w.alloc (.cells #[.int .i64 r.depth.lo, .int .i64 r.depth.hi, .int .i64 r.fall.lo, .int .i64 r.fall.hi, .int .i64 r.days, .slice fa fl fc, .slice la ll lc] 27) := ⟨_, rfl⟩
  obtain ⟨b2, hb2⟩ : ∃ b2, b2 = w.heap.size := ⟨_, rfl⟩
  have HX0 : Hid (Blk W b2 27 #[.int .i64 r.depth.lo, .int .i64 r.depth.hi, .int .i64 r.fall.lo, .int .i64 r.fall.hi, .int .i64 r.days, .slice fa fl fc, .slice la ll lc]) := by rw [hW, hb2]; exact Blk.new w 27 _
  have HB0 : Hid (Below w.heap.size w W) := by rw [hW]; exact (Below.refl _ _).alloc (Nat.le_refl _) _
  have HP1 := Lib.hid (HP0.out.grow HB0.out)
  clear hn hP HP0
  go_enter Try.func8, Try.ntmps8
  conv => arg 2; whnf
  conv => arg 2; arg 2; arg 2; arg 2; arg 2; arg 2; arg 2; arg 2; arg 2; change bearsK 8
  go_upto_region 1 with (fail)
  rw [← hW, ← hb2]
  clear hW hb2
  have HX := HX0
  have x0 := HX.out.cell 0
  have x1 := HX.out.cell 1
  have x2 := HX.out.cell 2
  have x3 := HX.out.cell 3
  have x4 := HX.out.cell 4
  have x5 := HX.out.cell 5
  have x6 := HX.out.cell 6
  have xl := HX.out.lt
  simp at x0 x1 x2 x3 x4 x5 x6
  go_wp2_with fail
  refine (long_any (fa := fa) (fl := fl) (fc := fc) (la := la) (ll := ll) (lc := lc) (r := r) W m1 m2).mono ?_
  rintro e w1 ⟨⟨b, rfl, -⟩, hb⟩
  have HB1 : Hid (Below w.heap.size w w1) := HB0.out.trans (hb.mono HB0.out.size)
  have HP2 := Lib.hid (HP1.out.grow hb)
  have HX2 : Hid (Blk w1 b2 27 #[.int .i64 r.depth.lo, .int .i64 r.depth.hi, .int .i64 r.fall.lo, .int .i64 r.fall.hi, .int .i64 r.days, .slice fa fl fc, .slice la ll lc]) := HX0.out.below hb HX0.out.lt
  clear hb x0 x1 x2 x3 x4 x5 x6 xl HX HX0 HP1
  cases b
  case true =>
    go_wp2_with fail
    refine (alive_any _).mono ?_
    rintro e wz ⟨rfl, hbz⟩
    have HBz : Hid (Below w.heap.size w wz) := HB1.out.trans (hbz.mono HB1.out.size)
    clear hbz
    go_wp2
    go_ret
    exact ⟨rfl, HBz.out⟩
  have HX := HX2
  have x0 := HX.out.cell 0
  have x1 := HX.out.cell 1
  have x2 := HX.out.cell 2
  have x3 := HX.out.cell 3
  have x4 := HX.out.cell 4
  have x5 := HX.out.cell 5
  have x6 := HX.out.cell 6
  have xl := HX.out.lt
  simp at x0 x1 x2 x3 x4 x5 x6
  go_wp2_with fail
  refine (rriver_any (fa := fa) (fl := fl) (fc := fc) (la := la) (ll := ll) (lc := lc) (r := r) w1 (by exact HP2.out)).mono ?_
  cases hv : okR r
  case false =>
    clear hv
    rintro e w2 ⟨rfl, hb⟩
    have HB2 : Hid (Below w.heap.size w w2) := HB1.out.trans (hb.mono HB1.out.size)
    clear hb
    go_wp2_with fail
    refine (alive_any _).mono ?_
    rintro e wz ⟨rfl, hbz⟩
    have HBz : Hid (Below w.heap.size w wz) := HB2.out.trans (hbz.mono HB2.out.size)
    clear hbz
    go_wp2
    go_ret
    exact ⟨rfl, HBz.out⟩
  rintro e w2 ⟨rfl, hb⟩
  have HB2 : Hid (Below w.heap.size w w2) := HB1.out.trans (hb.mono HB1.out.size)
  have HP3 := Lib.hid (HP2.out.grow hb)
  have HX3 : Hid (Blk w2 b2 27 #[.int .i64 r.depth.lo, .int .i64 r.depth.hi, .int .i64 r.fall.lo, .int .i64 r.fall.hi, .int .i64 r.days, .slice fa fl fc, .slice la ll lc]) := HX2.out.below hb HX2.out.lt
  have HV := Lib.hid hv
  clear hb hv x0 x1 x2 x3 x4 x5 x6 xl HX HX2 HP2
  have HX := HX3
  have x0 := HX.out.cell 0
  have x1 := HX.out.cell 1
  have x2 := HX.out.cell 2
  have x3 := HX.out.cell 3
  have x4 := HX.out.cell 4
  have x5 := HX.out.cell 5
  have x6 := HX.out.cell 6
  have xl := HX.out.lt
  simp at x0 x1 x2 x3 x4 x5 x6
  have hn200 : n ≤ 200 := by omega
  by_cases ht : truthsA r.nat = []
  · have D1 := Lib.hid (days_clash HV.out ht hn200)
    have D2 := Lib.hid (until_clash HV.out ht hn200)
    have D3 := Lib.hid (last_clash HV.out ht hn200)
    clear ht
    go_wp2_with fail
    refine (PDays_any (fa := fa) (fl := fl) (fc := fc) (la := la) (ll := ll) (lc := lc) (r := r) (w := w2) (n : Int) (by exact HP3.out)).mono ?_
    rw [D1.out]
    rintro e w3 ⟨rfl, hb⟩
    have HB3 : Hid (Below w.heap.size w w3) := HB2.out.trans (hb.mono HB2.out.size)
    have HP4 := Lib.hid (HP3.out.grow hb)
    have HX4 : Hid (Blk w3 b2 27 #[.int .i64 r.depth.lo, .int .i64 r.depth.hi, .int .i64 r.fall.lo, .int .i64 r.fall.hi, .int .i64 r.days, .slice fa fl fc, .slice la ll lc]) := HX3.out.below hb HX3.out.lt
    clear hb x0 x1 x2 x3 x4 x5 x6 xl HX
    have HX := HX4
    have x0 := HX.out.cell 0
    have x1 := HX.out.cell 1
    have x2 := HX.out.cell 2
    have x3 := HX.out.cell 3
    have x4 := HX.out.cell 4
    have x5 := HX.out.cell 5
    have x6 := HX.out.cell 6
    have xl := HX.out.lt
    simp at x0 x1 x2 x3 x4 x5 x6
    go_wp2_with fail
    refine (PUntil_any (fa := fa) (fl := fl) (fc := fc) (la := la) (ll := ll) (lc := lc) (r := r) (w := w3) (n : Int) (by exact HP4.out)).mono ?_
    rw [D2.out]
    rintro e w4 ⟨rfl, hb⟩
    have HB4 : Hid (Below w.heap.size w w4) := HB3.out.trans (hb.mono HB3.out.size)
    have HP5 := Lib.hid (HP4.out.grow hb)
    have HX5 : Hid (Blk w4 b2 27 #[.int .i64 r.depth.lo, .int .i64 r.depth.hi, .int .i64 r.fall.lo, .int .i64 r.fall.hi, .int .i64 r.days, .slice fa fl fc, .slice la ll lc]) := HX4.out.below hb HX4.out.lt
    clear hb x0 x1 x2 x3 x4 x5 x6 xl HX
    have HX := HX5
    have x0 := HX.out.cell 0
    have x1 := HX.out.cell 1
    have x2 := HX.out.cell 2
    have x3 := HX.out.cell 3
    have x4 := HX.out.cell 4
    have x5 := HX.out.cell 5
    have x6 := HX.out.cell 6
    have xl := HX.out.lt
    simp at x0 x1 x2 x3 x4 x5 x6
    go_wp2_with fail
    refine (PLast_any (fa := fa) (fl := fl) (fc := fc) (la := la) (ll := ll) (lc := lc) (r := r) (w := w4) (n : Int) (by exact HP5.out)).mono ?_
    rw [D3.out]
    rintro e w5 ⟨rfl, hb⟩
    have HB5 : Hid (Below w.heap.size w w5) := HB4.out.trans (hb.mono HB4.out.size)
    clear hb x0 x1 x2 x3 x4 x5 x6 xl HX
    go_wp2_with fail
    refine (alive_any _).mono ?_
    rintro e wz ⟨rfl, hbz⟩
    have HBz : Hid (Below w.heap.size w wz) := HB5.out.trans (hbz.mono HB5.out.size)
    clear hbz
    go_wp2
    go_ret
    exact ⟨rfl, HBz.out⟩
  · have HT := Lib.hid ht
    have D1 := Lib.hid (days_fine HV.out ht hn200)
    obtain ⟨UN, UE, hU⟩ : ∃ UN UE : Int, Value.tuple #[.int .i64 (untilV r (n : Int)), .int .i64 (untilE r (n : Int))] = .tuple #[.int .i64 UN, .int .i64 UE] := ⟨_, _, rfl⟩
    obtain ⟨LA, LE, hL⟩ : ∃ LA LE : Int, Value.tuple #[.int .i64 (lastV r (n : Int)), .int .i64 (lastE r (n : Int))] = .tuple #[.int .i64 LA, .int .i64 LE] := ⟨_, _, rfl⟩
    have D2 := Lib.hid (until_fine HV.out ht hn200)
    have D3 := Lib.hid (last_fine HV.out ht hn200)
    rw [hU] at D2
    rw [hL] at D3
    have HU := Lib.hid hU
    have HL := Lib.hid hL
    clear ht hU hL
    go_wp2_with fail
    refine (PDays_any (fa := fa) (fl := fl) (fc := fc) (la := la) (ll := ll) (lc := lc) (r := r) (w := w2) (n : Int) (by exact HP3.out)).mono ?_
    rw [D1.out]
    rintro e w3 ⟨rfl, hb⟩
    have HB3 : Hid (Below w.heap.size w w3) := HB2.out.trans (hb.mono HB2.out.size)
    have HP4 := Lib.hid (HP3.out.grow hb)
    have HX4 : Hid (Blk w3 b2 27 #[.int .i64 r.depth.lo, .int .i64 r.depth.hi, .int .i64 r.fall.lo, .int .i64 r.fall.hi, .int .i64 r.days, .slice fa fl fc, .slice la ll lc]) := HX3.out.below hb HX3.out.lt
    clear hb x0 x1 x2 x3 x4 x5 x6 xl HX
    have HX := HX4
    have x0 := HX.out.cell 0
    have x1 := HX.out.cell 1
    have x2 := HX.out.cell 2
    have x3 := HX.out.cell 3
    have x4 := HX.out.cell 4
    have x5 := HX.out.cell 5
    have x6 := HX.out.cell 6
    have xl := HX.out.lt
    simp at x0 x1 x2 x3 x4 x5 x6
    go_wp2_with fail
    refine (PUntil_any (fa := fa) (fl := fl) (fc := fc) (la := la) (ll := ll) (lc := lc) (r := r) (w := w3) (n : Int) (by exact HP4.out)).mono ?_
    rw [HU.out]
    rintro e w4 ⟨rfl, hb⟩
    have HB4 : Hid (Below w.heap.size w w4) := HB3.out.trans (hb.mono HB3.out.size)
    have HP5 := Lib.hid (HP4.out.grow hb)
    have HX5 : Hid (Blk w4 b2 27 #[.int .i64 r.depth.lo, .int .i64 r.depth.hi, .int .i64 r.fall.lo, .int .i64 r.fall.hi, .int .i64 r.days, .slice fa fl fc, .slice la ll lc]) := HX4.out.below hb HX4.out.lt
    clear hb x0 x1 x2 x3 x4 x5 x6 xl HX
    have HX := HX5
    have x0 := HX.out.cell 0
    have x1 := HX.out.cell 1
    have x2 := HX.out.cell 2
    have x3 := HX.out.cell 3
    have x4 := HX.out.cell 4
    have x5 := HX.out.cell 5
    have x6 := HX.out.cell 6
    have xl := HX.out.lt
    simp at x0 x1 x2 x3 x4 x5 x6
    go_wp2_with fail
    refine (PLast_any (fa := fa) (fl := fl) (fc := fc) (la := la) (ll := ll) (lc := lc) (r := r) (w := w4) (n : Int) (by exact HP5.out)).mono ?_
    rw [HL.out]
    rintro e w5 ⟨rfl, hb⟩
    have HB5 : Hid (Below w.heap.size w w5) := HB4.out.trans (hb.mono HB4.out.size)
    have HP6 := Lib.hid (HP5.out.grow hb)
    have HX6 : Hid (Blk w5 b2 27 #[.int .i64 r.depth.lo, .int .i64 r.depth.hi, .int .i64 r.fall.lo, .int .i64 r.fall.hi, .int .i64 r.days, .slice fa fl fc, .slice la ll lc]) := HX5.out.below hb HX5.out.lt
    clear hb x0 x1 x2 x3 x4 x5 x6 xl HX
    go_wp2
    exact bears8 HV.out HT.out hn130 HB5.out HX6.out HP6.out D2.out D3.out _ _ _ _ _ _ _ _ _ _ _ _ _ _ _ _ _ _ _ _ _ _ _ _ _ _ _ _ _ _ _ _ _ _ _ _ _ _ _ _ _ _ _ _ _ _ _ _ _ _ _ _ _ _ _ _ _ _ _ _ _ _ _ _ _ _ _ _ _ _ _ _ _ _ _ _ _ _ _ _ _ _ _ _ _ _ _ _ _ _ _ _ _ _ _ _ _ _ _ _ _ _ _ _ _ _ _ _ _ _ _ _ _ _ _ _ _ _ _ _ _ _ _ _ _ _ _ _ _ _ _ _ _ _ _ _ _ _ _ _ _ _ _ _ _ _ _ _ _ _ _ _ _ _ _ _ _ _ _ _ _ _ _ _ _ _ _ _ _ _ _ _ _ _ _ _ _ _ _ _ _ _ _ _ _ _ _ _ _ _ _ _ _ _ _ _ _ _ _ _ _ _ _ _ _ _ _ _ _ _ _ _ _ _ _ _ _ _ _ _ _ _ _ _ _ _ _ _ _ _ _ _ _ _ _ _ _ _ _ _ _ _ _ _ _ _ _ _ _ _ _ _ _ _ _ _ _ _ _ _ _ _ _ _ _ _ _ _ _ _ _ _ _ _
end
end Go.Proofs.Ytiodmkokpfgkkaa
