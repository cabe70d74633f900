/- The law RiverSets: Days, Until, Last and Clash are the document's. No condition. -/
import Derived.Test.YtiodmkokpfgkkaaRefZ
import Derived.Test.YtiodmkokpfgkkaaLawHeavy
namespace Go.Proofs.Ytiodmkokpfgkkaa
open Go.RowKit Go.Hav Go.Shelf Go.Sq
attribute [local go_sem] Oper.semAt_some
section
variable {fa la : Option Addr} {fl fc ll lc : Nat} {r : IRiv}
set_option maxRecDepth 100000 in
set_option maxHeartbeats 6400000 in
theorem lawSets_any (draws : Int) (w : World) (hP : RvIn w w.heap.size fa fl la ll r) : Calls Try.prog 4 #[(.agg #[.int .i64 r.depth.lo, .int .i64 r.depth.hi, .int .i64 r.fall.lo, .int .i64 r.fall.hi, .int .i64 r.days, .slice fa fl fc, .slice la ll lc]), .int .i64 draws] w fun e w' => e = .returned (.bool true) ∧ Below w.heap.size w w' := by
  have HP := Lib.hid hP
  clear hP
  obtain ⟨a0, ha⟩ : ∃ v, surelyV r draws = v := ⟨_, rfl⟩
  obtain ⟨a1, ha1⟩ : ∃ v, perhapsV r draws = v := ⟨_, rfl⟩
  obtain ⟨a2, ha2⟩ : ∃ v, daysE r draws = v := ⟨_, rfl⟩
  obtain ⟨b0, hb⟩ : ∃ v, untilV r draws = v := ⟨_, rfl⟩
  obtain ⟨b2, hb2⟩ : ∃ v, untilE r draws = v := ⟨_, rfl⟩
  obtain ⟨c0, hc⟩ : ∃ v, lastV r draws = v := ⟨_, rfl⟩
  obtain ⟨c2, hc2⟩ : ∃ v, lastE r draws = v := ⟨_, rfl⟩
  obtain ⟨d0, hd⟩ : ∃ v, clashV r = v := ⟨_, rfl⟩
  obtain ⟨d2, hd2⟩ : ∃ v, clashE r = v := ⟨_, rfl⟩
  have C1 : Hid (∀ wv : World, Below w.heap.size w wv → Calls Try.prog 22 #[(.agg #[.int .i64 r.depth.lo, .int .i64 r.depth.hi, .int .i64 r.fall.lo, .int .i64 r.fall.hi, .int .i64 r.days, .slice fa fl fc, .slice la ll lc]), .int .i64 draws] wv fun e w' => e = .returned (.tuple #[.int .i64 a0, .int .i64 a1, .int .i64 a2]) ∧ Below wv.heap.size wv w') := fun wv hg => by
    have h := PDays_any (w := wv) (fc := fc) (lc := lc) draws (HP.out.grow hg)
    rwa [ha, ha1, ha2] at h
  have D1 : Hid (∀ wv : World, Below w.heap.size w wv → Calls Try.prog 23 #[(.agg #[.int .i64 r.depth.lo, .int .i64 r.depth.hi, .int .i64 r.fall.lo, .int .i64 r.fall.hi, .int .i64 r.days, .slice fa fl fc, .slice la ll lc]), .int .i64 draws] wv fun e w' => e = .returned (.tuple #[.int .i64 a0, .int .i64 a1, .int .i64 a2]) ∧ Below wv.heap.size wv w') := fun wv hg => by
    have h := rDays_any (fc := fc) (lc := lc) draws wv (HP.out.grow hg)
    rwa [ha, ha1, ha2] at h
  have C2 : Hid (∀ wv : World, Below w.heap.size w wv → Calls Try.prog 24 #[(.agg #[.int .i64 r.depth.lo, .int .i64 r.depth.hi, .int .i64 r.fall.lo, .int .i64 r.fall.hi, .int .i64 r.days, .slice fa fl fc, .slice la ll lc]), .int .i64 draws] wv fun e w' => e = .returned (.tuple #[.int .i64 b0, .int .i64 b2]) ∧ Below wv.heap.size wv w') := fun wv hg => by
    have h := PUntil_any (w := wv) (fc := fc) (lc := lc) draws (HP.out.grow hg)
    rwa [hb, hb2] at h
  have D2 : Hid (∀ wv : World, Below w.heap.size w wv → Calls Try.prog 25 #[(.agg #[.int .i64 r.depth.lo, .int .i64 r.depth.hi, .int .i64 r.fall.lo, .int .i64 r.fall.hi, .int .i64 r.days, .slice fa fl fc, .slice la ll lc]), .int .i64 draws] wv fun e w' => e = .returned (.tuple #[.int .i64 b0, .int .i64 b2]) ∧ Below wv.heap.size wv w') := fun wv hg => by
    have h := rUntil_any (fc := fc) (lc := lc) draws wv (HP.out.grow hg)
    rwa [hb, hb2] at h
  have C3 : Hid (∀ wv : World, Below w.heap.size w wv → Calls Try.prog 26 #[(.agg #[.int .i64 r.depth.lo, .int .i64 r.depth.hi, .int .i64 r.fall.lo, .int .i64 r.fall.hi, .int .i64 r.days, .slice fa fl fc, .slice la ll lc]), .int .i64 draws] wv fun e w' => e = .returned (.tuple #[.int .i64 c0, .int .i64 c2]) ∧ Below wv.heap.size wv w') := fun wv hg => by
    have h := PLast_any (w := wv) (fc := fc) (lc := lc) draws (HP.out.grow hg)
    rwa [hc, hc2] at h
  have D3 : Hid (∀ wv : World, Below w.heap.size w wv → Calls Try.prog 27 #[(.agg #[.int .i64 r.depth.lo, .int .i64 r.depth.hi, .int .i64 r.fall.lo, .int .i64 r.fall.hi, .int .i64 r.days, .slice fa fl fc, .slice la ll lc]), .int .i64 draws] wv fun e w' => e = .returned (.tuple #[.int .i64 c0, .int .i64 c2]) ∧ Below wv.heap.size wv w') := fun wv hg => by
    have h := rLast_any (fc := fc) (lc := lc) draws wv (HP.out.grow hg)
    rwa [hc, hc2] at h
  have C4 : Hid (∀ wv : World, Below w.heap.size w wv → Calls Try.prog 28 #[(.agg #[.int .i64 r.depth.lo, .int .i64 r.depth.hi, .int .i64 r.fall.lo, .int .i64 r.fall.hi, .int .i64 r.days, .slice fa fl fc, .slice la ll lc])] wv fun e w' => e = .returned (.tuple #[.int .i64 d0, .int .i64 d2]) ∧ Below wv.heap.size wv w') := fun wv hg => by
    have h := PClash_any (w := wv) (fc := fc) (lc := lc) (HP.out.grow hg)
    rwa [hd, hd2] at h
  have D4 : Hid (∀ wv : World, Below w.heap.size w wv → Calls Try.prog 29 #[(.agg #[.int .i64 r.depth.lo, .int .i64 r.depth.hi, .int .i64 r.fall.lo, .int .i64 r.fall.hi, .int .i64 r.days, .slice fa fl fc, .slice la ll lc])] wv fun e w' => e = .returned (.tuple #[.int .i64 d0, .int .i64 d2]) ∧ Below wv.heap.size wv w') := fun wv hg => by
    have h := rClash_any (fc := fc) (lc := lc) wv (HP.out.grow hg)
    rwa [hd, hd2] at h
  clear ha ha1 ha2 hb hb2 hc hc2 hd hd2
  obtain ⟨W, hW⟩ : ∃ W, W = w.alloc (.cells #[.int .i64 r.depth.lo, .int .i64 r.depth.hi, .int .i64 r.fall.lo, .int .i64 r.fall.hi, .int .i64 r.days, .slice fa fl fc, .slice la ll lc] 27) := ⟨_, rfl⟩
  have HX : Hid (Blk W w.heap.size 27 #[.int .i64 r.depth.lo, .int .i64 r.depth.hi, .int .i64 r.fall.lo, .int .i64 r.fall.hi, .int .i64 r.days, .slice fa fl fc, .slice la ll lc]) := by rw [hW]; exact Blk.new w 27 _
  have HBW : Hid (Below w.heap.size w W) := by rw [hW]; exact (Below.refl _ _).alloc (Nat.le_refl _) _
  go_enter Try.func4, Try.ntmps4
  go_wp2_with fail
  rw [← hW]
  clear hW
  have q0 := HX.out.cell 0
  have q1 := HX.out.cell 1
  have q2 := HX.out.cell 2
  have q3 := HX.out.cell 3
  have q4 := HX.out.cell 4
  have q5 := HX.out.cell 5
  have q6 := HX.out.cell 6
  have ql := HX.out.lt
  simp at q0 q1 q2 q3 q4 q5 q6
  go_wp2_with fail
  refine (heavy_any (fc := fc) (lc := lc) 300 W (HP.out.grow HBW.out)).mono ?_
  rintro e X ⟨⟨b, rfl⟩, hb⟩
  have HX1 := Lib.hid (HX.out.below hb HX.out.lt)
  have HBW1 : Hid (Below w.heap.size w X) := HBW.out.trans (hb.mono HBW.out.size)
  clear hb q0 q1 q2 q3 q4 q5 q6 ql HX HBW
  have HX := HX1
  have HBW := HBW1
  clear HX1 HBW1
  have q0 := HX.out.cell 0
  have q1 := HX.out.cell 1
  have q2 := HX.out.cell 2
  have q3 := HX.out.cell 3
  have q4 := HX.out.cell 4
  have q5 := HX.out.cell 5
  have q6 := HX.out.cell 6
  have ql := HX.out.lt
  simp at q0 q1 q2 q3 q4 q5 q6
  cases b
  case true =>
    go_wp2_with fail
    refine (alive_any X).mono ?_
    rintro e Z ⟨rfl, hb⟩
    have HBZ : Hid (Below w.heap.size w Z) := HBW.out.trans (hb.mono HBW.out.size)
    clear hb
    go_wp2
    go_ret
    exact ⟨rfl, HBZ.out⟩
  go_wp2_with fail
  refine (C1.out X HBW.out).mono ?_
  rintro e Y0 ⟨rfl, hb⟩
  have HX1 := Lib.hid (HX.out.below hb HX.out.lt)
  have HBW1 : Hid (Below w.heap.size w Y0) := HBW.out.trans (hb.mono HBW.out.size)
  clear hb q0 q1 q2 q3 q4 q5 q6 ql HX HBW
  obtain ⟨HX, HBW⟩ := And.intro HX1 HBW1
  clear HX1 HBW1
  have q0 := HX.out.cell 0
  have q1 := HX.out.cell 1
  have q2 := HX.out.cell 2
  have q3 := HX.out.cell 3
  have q4 := HX.out.cell 4
  have q5 := HX.out.cell 5
  have q6 := HX.out.cell 6
  have ql := HX.out.lt
  simp at q0 q1 q2 q3 q4 q5 q6
  go_wp2_with fail
  refine (D1.out Y0 HBW.out).mono ?_
  rintro e Y1 ⟨rfl, hb⟩
  have HX1 := Lib.hid (HX.out.below hb HX.out.lt)
  have HBW1 : Hid (Below w.heap.size w Y1) := HBW.out.trans (hb.mono HBW.out.size)
  clear hb q0 q1 q2 q3 q4 q5 q6 ql HX HBW
  obtain ⟨HX, HBW⟩ := And.intro HX1 HBW1
  clear HX1 HBW1
  have q0 := HX.out.cell 0
  have q1 := HX.out.cell 1
  have q2 := HX.out.cell 2
  have q3 := HX.out.cell 3
  have q4 := HX.out.cell 4
  have q5 := HX.out.cell 5
  have q6 := HX.out.cell 6
  have ql := HX.out.lt
  simp at q0 q1 q2 q3 q4 q5 q6
  go_wp2_with fail
  refine (C2.out Y1 HBW.out).mono ?_
  rintro e Y2 ⟨rfl, hb⟩
  have HX1 := Lib.hid (HX.out.below hb HX.out.lt)
  have HBW1 : Hid (Below w.heap.size w Y2) := HBW.out.trans (hb.mono HBW.out.size)
  clear hb q0 q1 q2 q3 q4 q5 q6 ql HX HBW
  obtain ⟨HX, HBW⟩ := And.intro HX1 HBW1
  clear HX1 HBW1
  have q0 := HX.out.cell 0
  have q1 := HX.out.cell 1
  have q2 := HX.out.cell 2
  have q3 := HX.out.cell 3
  have q4 := HX.out.cell 4
  have q5 := HX.out.cell 5
  have q6 := HX.out.cell 6
  have ql := HX.out.lt
  simp at q0 q1 q2 q3 q4 q5 q6
  go_wp2_with fail
  refine (D2.out Y2 HBW.out).mono ?_
  rintro e Y3 ⟨rfl, hb⟩
  have HX1 := Lib.hid (HX.out.below hb HX.out.lt)
  have HBW1 : Hid (Below w.heap.size w Y3) := HBW.out.trans (hb.mono HBW.out.size)
  clear hb q0 q1 q2 q3 q4 q5 q6 ql HX HBW
  obtain ⟨HX, HBW⟩ := And.intro HX1 HBW1
  clear HX1 HBW1
  have q0 := HX.out.cell 0
  have q1 := HX.out.cell 1
  have q2 := HX.out.cell 2
  have q3 := HX.out.cell 3
  have q4 := HX.out.cell 4
  have q5 := HX.out.cell 5
  have q6 := HX.out.cell 6
  have ql := HX.out.lt
  simp at q0 q1 q2 q3 q4 q5 q6
  go_wp2_with fail
  refine (C3.out Y3 HBW.out).mono ?_
  rintro e Y4 ⟨rfl, hb⟩
  have HX1 := Lib.hid (HX.out.below hb HX.out.lt)
  have HBW1 : Hid (Below w.heap.size w Y4) := HBW.out.trans (hb.mono HBW.out.size)
  clear hb q0 q1 q2 q3 q4 q5 q6 ql HX HBW
  obtain ⟨HX, HBW⟩ := And.intro HX1 HBW1
  clear HX1 HBW1
  have q0 := HX.out.cell 0
  have q1 := HX.out.cell 1
  have q2 := HX.out.cell 2
  have q3 := HX.out.cell 3
  have q4 := HX.out.cell 4
  have q5 := HX.out.cell 5
  have q6 := HX.out.cell 6
  have ql := HX.out.lt
  simp at q0 q1 q2 q3 q4 q5 q6
  go_wp2_with fail
  refine (D3.out Y4 HBW.out).mono ?_
  rintro e Y5 ⟨rfl, hb⟩
  have HX1 := Lib.hid (HX.out.below hb HX.out.lt)
  have HBW1 : Hid (Below w.heap.size w Y5) := HBW.out.trans (hb.mono HBW.out.size)
  clear hb q0 q1 q2 q3 q4 q5 q6 ql HX HBW
  obtain ⟨HX, HBW⟩ := And.intro HX1 HBW1
  clear HX1 HBW1
  have q0 := HX.out.cell 0
  have q1 := HX.out.cell 1
  have q2 := HX.out.cell 2
  have q3 := HX.out.cell 3
  have q4 := HX.out.cell 4
  have q5 := HX.out.cell 5
  have q6 := HX.out.cell 6
  have ql := HX.out.lt
  simp at q0 q1 q2 q3 q4 q5 q6
  go_wp2_with fail
  refine (C4.out Y5 HBW.out).mono ?_
  rintro e Y6 ⟨rfl, hb⟩
  have HX1 := Lib.hid (HX.out.below hb HX.out.lt)
  have HBW1 : Hid (Below w.heap.size w Y6) := HBW.out.trans (hb.mono HBW.out.size)
  clear hb q0 q1 q2 q3 q4 q5 q6 ql HX HBW
  obtain ⟨HX, HBW⟩ := And.intro HX1 HBW1
  clear HX1 HBW1
  have q0 := HX.out.cell 0
  have q1 := HX.out.cell 1
  have q2 := HX.out.cell 2
  have q3 := HX.out.cell 3
  have q4 := HX.out.cell 4
  have q5 := HX.out.cell 5
  have q6 := HX.out.cell 6
  have ql := HX.out.lt
  simp at q0 q1 q2 q3 q4 q5 q6
  go_wp2_with fail
  refine (D4.out Y6 HBW.out).mono ?_
  rintro e Y7 ⟨rfl, hb⟩
  have HX1 := Lib.hid (HX.out.below hb HX.out.lt)
  have HBW1 : Hid (Below w.heap.size w Y7) := HBW.out.trans (hb.mono HBW.out.size)
  clear hb q0 q1 q2 q3 q4 q5 q6 ql HX HBW
  obtain ⟨HX, HBW⟩ := And.intro HX1 HBW1
  clear HX1 HBW1
  have q0 := HX.out.cell 0
  have q1 := HX.out.cell 1
  have q2 := HX.out.cell 2
  have q3 := HX.out.cell 3
  have q4 := HX.out.cell 4
  have q5 := HX.out.cell 5
  have q6 := HX.out.cell 6
  have ql := HX.out.lt
  simp at q0 q1 q2 q3 q4 q5 q6
  clear q0 q1 q2 q3 q4 q5 q6 ql
  go_wp2_with fail
  refine (alive_any Y7).mono ?_
  rintro e Z ⟨rfl, hb⟩
  have HBZ : Hid (Below w.heap.size w Z) := HBW.out.trans (hb.mono HBW.out.size)
  clear hb
  go_wp2
  go_ret
  exact ⟨rfl, HBZ.out⟩
end
end Go.Proofs.Ytiodmkokpfgkkaa
