/- The law RiverTells: Depth, Fall, Fresh and Bears are the document's. No condition. -/
import Derived.Test.YtiodmkokpfgkkaaRefX
import Derived.Test.YtiodmkokpfgkkaaLawHeavy
namespace Go.Proofs.Ytiodmkokpfgkkaa
open Go.RowKit Go.Hav Go.Shelf Go.Sq
attribute [local go_sem] Oper.semAt_some
section
variable {fa la : Option Addr} {fl fc ll lc : Nat} {r : IRiv}
set_option maxRecDepth 100000 in
set_option maxHeartbeats 6400000 in
theorem lawTells_any (day fresh draws : Int) (w : World) (hP : RvIn w w.heap.size fa fl la ll r) : Calls Try.prog 3 #[(.agg #[.int .i64 r.depth.lo, .int .i64 r.depth.hi, .int .i64 r.fall.lo, .int .i64 r.fall.hi, .int .i64 r.days, .slice fa fl fc, .slice la ll lc]), .int .i64 day, .int .i64 fresh, .int .i64 draws] w fun e w' => e = .returned (.bool true) ∧ Below w.heap.size w w' := by
  have HP := Lib.hid hP
  clear hP
  obtain ⟨⟨a0, a1⟩, ha⟩ : ∃ v, depthV r day = v := ⟨_, rfl⟩
  obtain ⟨a2, ha2⟩ : ∃ v, depthE r day = v := ⟨_, rfl⟩
  obtain ⟨⟨b0, b1⟩, hb⟩ : ∃ v, fallV r = v := ⟨_, rfl⟩
  obtain ⟨b2, hb2⟩ : ∃ v, fallE r = v := ⟨_, rfl⟩
  obtain ⟨c0, hc⟩ : ∃ v, freshV r fresh = v := ⟨_, rfl⟩
  obtain ⟨c2, hc2⟩ : ∃ v, freshE r fresh = v := ⟨_, rfl⟩
  obtain ⟨d0, hd⟩ : ∃ v, bearsV r draws day = v := ⟨_, rfl⟩
  obtain ⟨d2, hd2⟩ : ∃ v, bearsE r draws day = v := ⟨_, rfl⟩
  have C1 : Hid (∀ wv : World, Below w.heap.size w wv → Calls Try.prog 14 #[(.agg #[.int .i64 r.depth.lo, .int .i64 r.depth.hi, .int .i64 r.fall.lo, .int .i64 r.fall.hi, .int .i64 r.days, .slice fa fl fc, .slice la ll lc]), .int .i64 day] wv fun e w' => e = .returned (.tuple #[.agg #[.int .i64 a0, .int .i64 a1], .int .i64 a2]) ∧ Below wv.heap.size wv w') := fun wv hg => by
    have h := PDepth_any (w := wv) (fc := fc) (lc := lc) day (HP.out.grow hg)
    rwa [ha, ha2] at h
  have D1 : Hid (∀ wv : World, Below w.heap.size w wv → Calls Try.prog 15 #[(.agg #[.int .i64 r.depth.lo, .int .i64 r.depth.hi, .int .i64 r.fall.lo, .int .i64 r.fall.hi, .int .i64 r.days, .slice fa fl fc, .slice la ll lc]), .int .i64 day] wv fun e w' => e = .returned (.tuple #[.agg #[.int .i64 a0, .int .i64 a1], .int .i64 a2]) ∧ Below wv.heap.size wv w') := fun wv hg => by
    have h := rDepth_any (fc := fc) (lc := lc) day wv (HP.out.grow hg)
    rwa [ha, ha2] at h
  have C2 : Hid (∀ wv : World, Below w.heap.size w wv → Calls Try.prog 16 #[(.agg #[.int .i64 r.depth.lo, .int .i64 r.depth.hi, .int .i64 r.fall.lo, .int .i64 r.fall.hi, .int .i64 r.days, .slice fa fl fc, .slice la ll lc])] wv fun e w' => e = .returned (.tuple #[.agg #[.int .i64 b0, .int .i64 b1], .int .i64 b2]) ∧ Below wv.heap.size wv w') := fun wv hg => by
    have h := PFall_any (w := wv) (fc := fc) (lc := lc) (HP.out.grow hg)
    rwa [hb, hb2] at h
  have D2 : Hid (∀ wv : World, Below w.heap.size w wv → Calls Try.prog 17 #[(.agg #[.int .i64 r.depth.lo, .int .i64 r.depth.hi, .int .i64 r.fall.lo, .int .i64 r.fall.hi, .int .i64 r.days, .slice fa fl fc, .slice la ll lc])] wv fun e w' => e = .returned (.tuple #[.agg #[.int .i64 b0, .int .i64 b1], .int .i64 b2]) ∧ Below wv.heap.size wv w') := fun wv hg => by
    have h := rFall_any (fc := fc) (lc := lc) wv (HP.out.grow hg)
    rwa [hb, hb2] at h
  have C3 : Hid (∀ wv : World, Below w.heap.size w wv → Calls Try.prog 18 #[(.agg #[.int .i64 r.depth.lo, .int .i64 r.depth.hi, .int .i64 r.fall.lo, .int .i64 r.fall.hi, .int .i64 r.days, .slice fa fl fc, .slice la ll lc]), .int .i64 fresh] wv fun e w' => e = .returned (.tuple #[.int .i64 c0, .int .i64 c2]) ∧ Below wv.heap.size wv w') := fun wv hg => by
    have h := PFresh_any (w := wv) (fc := fc) (lc := lc) fresh (HP.out.grow hg)
    rwa [hc, hc2] at h
  have D3 : Hid (∀ wv : World, Below w.heap.size w wv → Calls Try.prog 19 #[(.agg #[.int .i64 r.depth.lo, .int .i64 r.depth.hi, .int .i64 r.fall.lo, .int .i64 r.fall.hi, .int .i64 r.days, .slice fa fl fc, .slice la ll lc]), .int .i64 fresh] wv fun e w' => e = .returned (.tuple #[.int .i64 c0, .int .i64 c2]) ∧ Below wv.heap.size wv w') := fun wv hg => by
    have h := rFresh_any (fc := fc) (lc := lc) fresh wv (HP.out.grow hg)
    rwa [hc, hc2] at h
  have C4 : Hid (∀ wv : World, Below w.heap.size w wv → Calls Try.prog 20 #[(.agg #[.int .i64 r.depth.lo, .int .i64 r.depth.hi, .int .i64 r.fall.lo, .int .i64 r.fall.hi, .int .i64 r.days, .slice fa fl fc, .slice la ll lc]), .int .i64 draws, .int .i64 day] wv fun e w' => e = .returned (.tuple #[.int .i64 d0, .int .i64 d2]) ∧ Below wv.heap.size wv w') := fun wv hg => by
    have h := PBears_any (w := wv) (fc := fc) (lc := lc) draws day (HP.out.grow hg)
    rwa [hd, hd2] at h
  have D4 : Hid (∀ wv : World, Below w.heap.size w wv → Calls Try.prog 21 #[(.agg #[.int .i64 r.depth.lo, .int .i64 r.depth.hi, .int .i64 r.fall.lo, .int .i64 r.fall.hi, .int .i64 r.days, .slice fa fl fc, .slice la ll lc]), .int .i64 draws, .int .i64 day] wv fun e w' => e = .returned (.tuple #[.int .i64 d0, .int .i64 d2]) ∧ Below wv.heap.size wv w') := fun wv hg => by
    have h := rBears_any (fc := fc) (lc := lc) draws day wv (HP.out.grow hg)
    rwa [hd, hd2] at h
  clear ha ha2 hb hb2 hc hc2 hd hd2
  obtain ⟨W, hW⟩ : ∃ W, W = w.alloc (.cells #[.int .i64 r.depth.lo, .int .i64 r.depth.hi, .int .i64 r.fall.lo, .int .i64 r.fall.hi, .int .i64 r.days, .slice fa fl fc, .slice la ll lc] 27) := ⟨_, rfl⟩
  have HX : Hid (Blk W w.heap.size 27 #[.int .i64 r.depth.lo, .int .i64 r.depth.hi, .int .i64 r.fall.lo, .int .i64 r.fall.hi, .int .i64 r.days, .slice fa fl fc, .slice la ll lc]) := by rw [hW]; exact Blk.new w 27 _
  have HBW : Hid (Below w.heap.size w W) := by rw [hW]; exact (Below.refl _ _).alloc (Nat.le_refl _) _
  go_enter Try.func3, Try.ntmps3
  go_wp2_with fail
  rw [← hW]
  clear hW
  have q0 := HX.out.cell 0
  have q1 := HX.out.cell 1
  have q2 := HX.out.cell 2
  have q3 := HX.out.cell 3
  have q4 := HX.out.cell 4
  have q5 := HX.out.cell 5
  have q6 := HX.out.cell 6
  have ql := HX.out.lt
  simp at q0 q1 q2 q3 q4 q5 q6
  go_wp2_with fail
  refine (heavy_any (fc := fc) (lc := lc) 1500 W (HP.out.grow HBW.out)).mono ?_
  rintro e X ⟨⟨b, rfl⟩, hb⟩
  have HX1 := Lib.hid (HX.out.below hb HX.out.lt)
  have HBW1 : Hid (Below w.heap.size w X) := HBW.out.trans (hb.mono HBW.out.size)
  clear hb q0 q1 q2 q3 q4 q5 q6 ql HX HBW
  have HX := HX1
  have HBW := HBW1
  clear HX1 HBW1
  have q0 := HX.out.cell 0
  have q1 := HX.out.cell 1
  have q2 := HX.out.cell 2
  have q3 := HX.out.cell 3
  have q4 := HX.out.cell 4
  have q5 := HX.out.cell 5
  have q6 := HX.out.cell 6
  have ql := HX.out.lt
  simp at q0 q1 q2 q3 q4 q5 q6
  cases b
  case true =>
    go_wp2_with fail
    refine (alive_any X).mono ?_
    rintro e Z ⟨rfl, hb⟩
    have HBZ : Hid (Below w.heap.size w Z) := HBW.out.trans (hb.mono HBW.out.size)
    clear hb
    go_wp2
    go_ret
    exact ⟨rfl, HBZ.out⟩
  go_wp2_with fail
  refine (C1.out X HBW.out).mono ?_
  rintro e Y0 ⟨rfl, hb⟩
  have HX1 := Lib.hid (HX.out.below hb HX.out.lt)
  have HBW1 : Hid (Below w.heap.size w Y0) := HBW.out.trans (hb.mono HBW.out.size)
  clear hb q0 q1 q2 q3 q4 q5 q6 ql HX HBW 
  go_upto_region 4 with (fail)
  obtain ⟨Z0, hZ⟩ : ∃ Z, Z = Y0.alloc (.cells #[.int .i64 a0, .int .i64 a1] 23) := ⟨_, rfl⟩
  obtain ⟨g0, hg⟩ : ∃ g, g = Y0.heap.size := ⟨_, rfl⟩
  have HX : Hid (Blk Z0 w.heap.size 27 #[.int .i64 r.depth.lo, .int .i64 r.depth.hi, .int .i64 r.fall.lo, .int .i64 r.fall.hi, .int .i64 r.days, .slice fa fl fc, .slice la ll lc]) := by rw [hZ]; exact HX1.out.alloc _
  have HBW : Hid (Below w.heap.size w Z0) := by rw [hZ]; exact HBW1.out.trans (((Below.refl _ _).alloc (Nat.le_refl _) _).mono HBW1.out.size)
  have G0 : Hid (Blk Z0 g0 23 #[.int .i64 a0, .int .i64 a1]) := by rw [hZ, hg]; exact Blk.new Y0 23 _
  rw [← hZ, ← hg]
  clear hZ hg HX1 HBW1 
  have q0 := HX.out.cell 0
  have q1 := HX.out.cell 1
  have q2 := HX.out.cell 2
  have q3 := HX.out.cell 3
  have q4 := HX.out.cell 4
  have q5 := HX.out.cell 5
  have q6 := HX.out.cell 6
  have ql := HX.out.lt
  simp at q0 q1 q2 q3 q4 q5 q6
  go_wp2_with fail
  refine (D1.out Z0 HBW.out).mono ?_
  rintro e Y1 ⟨rfl, hb⟩
  have HX1 := Lib.hid (HX.out.below hb HX.out.lt)
  have HBW1 : Hid (Below w.heap.size w Y1) := HBW.out.trans (hb.mono HBW.out.size)
  have G0' := Lib.hid (G0.out.below hb G0.out.lt)
  clear hb q0 q1 q2 q3 q4 q5 q6 ql HX HBW G0
  go_upto_region 5 with (fail)
  obtain ⟨Z1, hZ⟩ : ∃ Z, Z = Y1.alloc (.cells #[.int .i64 a0, .int .i64 a1] 23) := ⟨_, rfl⟩
  obtain ⟨g1, hg⟩ : ∃ g, g = Y1.heap.size := ⟨_, rfl⟩
  have HX : Hid (Blk Z1 w.heap.size 27 #[.int .i64 r.depth.lo, .int .i64 r.depth.hi, .int .i64 r.fall.lo, .int .i64 r.fall.hi, .int .i64 r.days, .slice fa fl fc, .slice la ll lc]) := by rw [hZ]; exact HX1.out.alloc _
  have HBW : Hid (Below w.heap.size w Z1) := by rw [hZ]; exact HBW1.out.trans (((Below.refl _ _).alloc (Nat.le_refl _) _).mono HBW1.out.size)
  have G0 := Lib.hid (G0'.out.alloc (.cells #[.int .i64 a0, .int .i64 a1] 23))
  rw [← hZ] at G0
  have G1 : Hid (Blk Z1 g1 23 #[.int .i64 a0, .int .i64 a1]) := by rw [hZ, hg]; exact Blk.new Y1 23 _
  rw [← hZ, ← hg]
  clear hZ hg HX1 HBW1 G0'
  have q0 := HX.out.cell 0
  have q1 := HX.out.cell 1
  have q2 := HX.out.cell 2
  have q3 := HX.out.cell 3
  have q4 := HX.out.cell 4
  have q5 := HX.out.cell 5
  have q6 := HX.out.cell 6
  have ql := HX.out.lt
  simp at q0 q1 q2 q3 q4 q5 q6
  go_wp2_with fail
  refine (C2.out Z1 HBW.out).mono ?_
  rintro e Y2 ⟨rfl, hb⟩
  have HX1 := Lib.hid (HX.out.below hb HX.out.lt)
  have HBW1 : Hid (Below w.heap.size w Y2) := HBW.out.trans (hb.mono HBW.out.size)
  have G0' := Lib.hid (G0.out.below hb G0.out.lt)
  have G1' := Lib.hid (G1.out.below hb G1.out.lt)
  clear hb q0 q1 q2 q3 q4 q5 q6 ql HX HBW G0 G1
  go_upto_region 6 with (fail)
  obtain ⟨Z2, hZ⟩ : ∃ Z, Z = Y2.alloc (.cells #[.int .i64 b0, .int .i64 b1] 23) := ⟨_, rfl⟩
  obtain ⟨g2, hg⟩ : ∃ g, g = Y2.heap.size := ⟨_, rfl⟩
  have HX : Hid (Blk Z2 w.heap.size 27 #[.int .i64 r.depth.lo, .int .i64 r.depth.hi, .int .i64 r.fall.lo, .int .i64 r.fall.hi, .int .i64 r.days, .slice fa fl fc, .slice la ll lc]) := by rw [hZ]; exact HX1.out.alloc _
  have HBW : Hid (Below w.heap.size w Z2) := by rw [hZ]; exact HBW1.out.trans (((Below.refl _ _).alloc (Nat.le_refl _) _).mono HBW1.out.size)
  have G0 := Lib.hid (G0'.out.alloc (.cells #[.int .i64 b0, .int .i64 b1] 23))
  rw [← hZ] at G0
  have G1 := Lib.hid (G1'.out.alloc (.cells #[.int .i64 b0, .int .i64 b1] 23))
  rw [← hZ] at G1
  have G2 : Hid (Blk Z2 g2 23 #[.int .i64 b0, .int .i64 b1]) := by rw [hZ, hg]; exact Blk.new Y2 23 _
  rw [← hZ, ← hg]
  clear hZ hg HX1 HBW1 G0' G1'
  have q0 := HX.out.cell 0
  have q1 := HX.out.cell 1
  have q2 := HX.out.cell 2
  have q3 := HX.out.cell 3
  have q4 := HX.out.cell 4
  have q5 := HX.out.cell 5
  have q6 := HX.out.cell 6
  have ql := HX.out.lt
  simp at q0 q1 q2 q3 q4 q5 q6
  go_wp2_with fail
  refine (D2.out Z2 HBW.out).mono ?_
  rintro e Y3 ⟨rfl, hb⟩
  have HX1 := Lib.hid (HX.out.below hb HX.out.lt)
  have HBW1 : Hid (Below w.heap.size w Y3) := HBW.out.trans (hb.mono HBW.out.size)
  have G0' := Lib.hid (G0.out.below hb G0.out.lt)
  have G1' := Lib.hid (G1.out.below hb G1.out.lt)
  have G2' := Lib.hid (G2.out.below hb G2.out.lt)
  clear hb q0 q1 q2 q3 q4 q5 q6 ql HX HBW G0 G1 G2
  go_upto_region 7 with (fail)
  obtain ⟨Z3, hZ⟩ : ∃ Z, Z = Y3.alloc (.cells #[.int .i64 b0, .int .i64 b1] 23) := ⟨_, rfl⟩
  obtain ⟨g3, hg⟩ : ∃ g, g = Y3.heap.size := ⟨_, rfl⟩
  have HX : Hid (Blk Z3 w.heap.size 27 #[.int .i64 r.depth.lo, .int .i64 r.depth.hi, .int .i64 r.fall.lo, .int .i64 r.fall.hi, .int .i64 r.days, .slice fa fl fc, .slice la ll lc]) := by rw [hZ]; exact HX1.out.alloc _
  have HBW : Hid (Below w.heap.size w Z3) := by rw [hZ]; exact HBW1.out.trans (((Below.refl _ _).alloc (Nat.le_refl _) _).mono HBW1.out.size)
  have G0 := Lib.hid (G0'.out.alloc (.cells #[.int .i64 b0, .int .i64 b1] 23))
  rw [← hZ] at G0
  have G1 := Lib.hid (G1'.out.alloc (.cells #[.int .i64 b0, .int .i64 b1] 23))
  rw [← hZ] at G1
  have G2 := Lib.hid (G2'.out.alloc (.cells #[.int .i64 b0, .int .i64 b1] 23))
  rw [← hZ] at G2
  have G3 : Hid (Blk Z3 g3 23 #[.int .i64 b0, .int .i64 b1]) := by rw [hZ, hg]; exact Blk.new Y3 23 _
  rw [← hZ, ← hg]
  clear hZ hg HX1 HBW1 G0' G1' G2'
  have q0 := HX.out.cell 0
  have q1 := HX.out.cell 1
  have q2 := HX.out.cell 2
  have q3 := HX.out.cell 3
  have q4 := HX.out.cell 4
  have q5 := HX.out.cell 5
  have q6 := HX.out.cell 6
  have ql := HX.out.lt
  simp at q0 q1 q2 q3 q4 q5 q6
  go_wp2_with fail
  refine (C3.out Z3 HBW.out).mono ?_
  rintro e Y4 ⟨rfl, hb⟩
  have HX1 := Lib.hid (HX.out.below hb HX.out.lt)
  have HBW1 : Hid (Below w.heap.size w Y4) := HBW.out.trans (hb.mono HBW.out.size)
  have G0' := Lib.hid (G0.out.below hb G0.out.lt)
  have G1' := Lib.hid (G1.out.below hb G1.out.lt)
  have G2' := Lib.hid (G2.out.below hb G2.out.lt)
  have G3' := Lib.hid (G3.out.below hb G3.out.lt)
  clear hb q0 q1 q2 q3 q4 q5 q6 ql HX HBW G0 G1 G2 G3
  obtain ⟨HX, HBW⟩ := And.intro HX1 HBW1
  have G0 := G0'
  have G1 := G1'
  have G2 := G2'
  have G3 := G3'
  clear HX1 HBW1 G0' G1' G2' G3'
  have q0 := HX.out.cell 0
  have q1 := HX.out.cell 1
  have q2 := HX.out.cell 2
  have q3 := HX.out.cell 3
  have q4 := HX.out.cell 4
  have q5 := HX.out.cell 5
  have q6 := HX.out.cell 6
  have ql := HX.out.lt
  simp at q0 q1 q2 q3 q4 q5 q6
  go_wp2_with fail
  refine (D3.out Y4 HBW.out).mono ?_
  rintro e Y5 ⟨rfl, hb⟩
  have HX1 := Lib.hid (HX.out.below hb HX.out.lt)
  have HBW1 : Hid (Below w.heap.size w Y5) := HBW.out.trans (hb.mono HBW.out.size)
  have G0' := Lib.hid (G0.out.below hb G0.out.lt)
  have G1' := Lib.hid (G1.out.below hb G1.out.lt)
  have G2' := Lib.hid (G2.out.below hb G2.out.lt)
  have G3' := Lib.hid (G3.out.below hb G3.out.lt)
  clear hb q0 q1 q2 q3 q4 q5 q6 ql HX HBW G0 G1 G2 G3
  obtain ⟨HX, HBW⟩ := And.intro HX1 HBW1
  have G0 := G0'
  have G1 := G1'
  have G2 := G2'
  have G3 := G3'
  clear HX1 HBW1 G0' G1' G2' G3'
  have q0 := HX.out.cell 0
  have q1 := HX.out.cell 1
  have q2 := HX.out.cell 2
  have q3 := HX.out.cell 3
  have q4 := HX.out.cell 4
  have q5 := HX.out.cell 5
  have q6 := HX.out.cell 6
  have ql := HX.out.lt
  simp at q0 q1 q2 q3 q4 q5 q6
  go_wp2_with fail
  refine (C4.out Y5 HBW.out).mono ?_
  rintro e Y6 ⟨rfl, hb⟩
  have HX1 := Lib.hid (HX.out.below hb HX.out.lt)
  have HBW1 : Hid (Below w.heap.size w Y6) := HBW.out.trans (hb.mono HBW.out.size)
  have G0' := Lib.hid (G0.out.below hb G0.out.lt)
  have G1' := Lib.hid (G1.out.below hb G1.out.lt)
  have G2' := Lib.hid (G2.out.below hb G2.out.lt)
  have G3' := Lib.hid (G3.out.below hb G3.out.lt)
  clear hb q0 q1 q2 q3 q4 q5 q6 ql HX HBW G0 G1 G2 G3
  obtain ⟨HX, HBW⟩ := And.intro HX1 HBW1
  have G0 := G0'
  have G1 := G1'
  have G2 := G2'
  have G3 := G3'
  clear HX1 HBW1 G0' G1' G2' G3'
  have q0 := HX.out.cell 0
  have q1 := HX.out.cell 1
  have q2 := HX.out.cell 2
  have q3 := HX.out.cell 3
  have q4 := HX.out.cell 4
  have q5 := HX.out.cell 5
  have q6 := HX.out.cell 6
  have ql := HX.out.lt
  simp at q0 q1 q2 q3 q4 q5 q6
  go_wp2_with fail
  refine (D4.out Y6 HBW.out).mono ?_
  rintro e Y7 ⟨rfl, hb⟩
  have HX1 := Lib.hid (HX.out.below hb HX.out.lt)
  have HBW1 : Hid (Below w.heap.size w Y7) := HBW.out.trans (hb.mono HBW.out.size)
  have G0' := Lib.hid (G0.out.below hb G0.out.lt)
  have G1' := Lib.hid (G1.out.below hb G1.out.lt)
  have G2' := Lib.hid (G2.out.below hb G2.out.lt)
  have G3' := Lib.hid (G3.out.below hb G3.out.lt)
  clear hb q0 q1 q2 q3 q4 q5 q6 ql HX HBW G0 G1 G2 G3
  obtain ⟨HX, HBW⟩ := And.intro HX1 HBW1
  have G0 := G0'
  have G1 := G1'
  have G2 := G2'
  have G3 := G3'
  clear HX1 HBW1 G0' G1' G2' G3'
  have q0 := HX.out.cell 0
  have q1 := HX.out.cell 1
  have q2 := HX.out.cell 2
  have q3 := HX.out.cell 3
  have q4 := HX.out.cell 4
  have q5 := HX.out.cell 5
  have q6 := HX.out.cell 6
  have ql := HX.out.lt
  simp at q0 q1 q2 q3 q4 q5 q6
  go_upto_region 11 with (fail)
  have g00 := G0.out.cell 0
  have g01 := G0.out.cell 1
  have g0l := G0.out.lt
  simp at g00 g01
  have g10 := G1.out.cell 0
  have g11 := G1.out.cell 1
  have g1l := G1.out.lt
  simp at g10 g11
  have g20 := G2.out.cell 0
  have g21 := G2.out.cell 1
  have g2l := G2.out.lt
  simp at g20 g21
  have g30 := G3.out.cell 0
  have g31 := G3.out.cell 1
  have g3l := G3.out.lt
  simp at g30 g31
  clear q0 q1 q2 q3 q4 q5 q6 ql
  go_wp2_with fail
  refine (alive_any Y7).mono ?_
  rintro e Z ⟨rfl, hb⟩
  have HBZ : Hid (Below w.heap.size w Z) := HBW.out.trans (hb.mono HBW.out.size)
  clear hb
  go_wp2
  go_ret
  exact ⟨rfl, HBZ.out⟩
end
end Go.Proofs.Ytiodmkokpfgkkaa
