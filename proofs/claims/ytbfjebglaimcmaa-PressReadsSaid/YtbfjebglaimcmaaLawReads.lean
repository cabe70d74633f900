/- The walk of PressReads: for every press and number it answers true. -/
import Derived.Test.YtbfjebglaimcmaaRefL
namespace Go.Proofs.Ytbfjebglaimcmaa
open Go.RowKit Go.Hav
section
variable {low top bales : Int} {fa wa : Option Addr} {fl fc wl wp : Nat} {p : PressD}
set_option maxRecDepth 100000 in
set_option maxHeartbeats 6400000 in
theorem PressReads_any (q : Int) (w : World) (hP : PressIn w w.heap.size fa fl low top bales wa wl p) :
    Calls Try.prog 3 #[pressV fa fl fc low top bales wa wl wp, .int .i64 q] w fun e w' => e = .returned (.bool true) ∧ Below w.heap.size w w' := by
  have HP := Lib.hid hP
  have HEN : Hid (p.n = fl) := hP.efl
  clear hP
  unfold pressV
  go_enter Try.func3, Try.ntmps3
  go_wp2_with fail
  obtain ⟨W, hW⟩ : ∃ W, W = w.alloc (Obj.cells #[Value.slice fa fl fc, Value.int IntKind.i64 low, Value.int IntKind.i64 top, Value.int IntKind.i64 bales, Value.slice wa wl wp] 25) := ⟨_, rfl⟩
  have HX : Hid (Blk W w.heap.size 25 #[Value.slice fa fl fc, Value.int IntKind.i64 low, Value.int IntKind.i64 top, Value.int IntKind.i64 bales, Value.slice wa wl wp]) := by rw [hW]; exact Blk.new w 25 _
  have HBW : Hid (Below w.heap.size w W) := by rw [hW]; exact (Below.refl _ _).alloc (Nat.le_refl _) _
  rw [← hW]
  clear hW
  have HPW : Hid (PressIn W W.heap.size fa fl low top bales wa wl p) := HP.out.grow HBW.out
  have HF : Hid (∀ wv, Below W.heap.size W wv → wv.cell? ⟨w.heap.size, 0, none⟩ = some (Value.slice fa fl fc) ∧ wv.cell? ⟨w.heap.size, 1, none⟩ = some (Value.int IntKind.i64 low) ∧ wv.cell? ⟨w.heap.size, 2, none⟩ = some (Value.int IntKind.i64 top) ∧ wv.cell? ⟨w.heap.size, 3, none⟩ = some (Value.int IntKind.i64 bales) ∧ wv.cell? ⟨w.heap.size, 4, none⟩ = some (Value.slice wa wl wp) ∧ w.heap.size < wv.heap.size) := fun wv hb => blk5 (HX.out.below hb HX.out.lt)
  refine (heavy_any (p := p) 7 W (by exact HPW.out)).mono ?_
  rintro e v1 ⟨⟨b, rfl, hb⟩, hb1⟩
  have HC1 := Lib.hid hb1
  clear hb1
  cases b
  case true =>
    clear hb
    go_wp2_with fail
    refine (awake_any _).mono ?_
    rintro e v2 ⟨rfl, hb2⟩
    go_wp2
    go_ret
    exact ⟨rfl, HBW.out.trans ((HC1.out.trans (hb2.mono HC1.out.size)).mono HBW.out.size)⟩
  obtain ⟨⟨h40, h41⟩, h7⟩ := hb rfl
  clear hb
  have H7 : Hid (p.ok = true → p.n ≤ 7) := fun h => by have := h7 h; rw [HEN.out]; omega
  clear h7
  obtain ⟨E, hE⟩ : ∃ E, setE p q = E := ⟨_, rfl⟩
  obtain ⟨⟨u0, u1⟩, hU⟩ : ∃ v, weightR p q = v := ⟨_, rfl⟩
  obtain ⟨G, hG⟩ : ∃ v, (if setE p q = 0 then p.fits q.toNat else 0) = v := ⟨_, rfl⟩
  have hG2 := hG
  rw [hE] at hG2
  obtain ⟨A0, A1, hA⟩ : ∃ A0 A1, addR p q = .tuple #[.int .i64 A0, .int .i64 A1] := by
    unfold addR
    split
    · split
      · exact ⟨_, _, rfl⟩
      · exact ⟨_, _, rfl⟩
    · exact ⟨_, _, rfl⟩
  obtain ⟨F0, F1, hFR⟩ : ∃ F0 F1, falseR p = .tuple #[.int .i64 F0, .int .i64 F1] := by
    unfold falseR
    split
    · exact ⟨_, _, rfl⟩
    · split
      · exact ⟨_, _, rfl⟩
      · exact ⟨_, _, rfl⟩
  have HE := Lib.hid hE
  have HU := Lib.hid hU
  have HG2 := Lib.hid hG2
  have HA := Lib.hid hA
  have HFR := Lib.hid hFR
  clear hE hU hG hG2 hA hFR
  obtain ⟨x0, x1, x2, x3, x4, xl⟩ := HF.out v1 HC1.out
  go_wp2_with fail
  refine (PWeight_any (p := p) q v1 (by exact HPW.out.grow HC1.out)).mono ?_
  rw [HE.out, HU.out]
  unfold spV
  rintro e v2 ⟨rfl, hb2⟩
  have HC2 : Hid (Below W.heap.size W v2) := HC1.out.trans (hb2.mono HC1.out.size)
  clear hb2 x0 x1 x2 x3 x4 xl
  go_upto_region 4 with fail
  obtain ⟨V2, hV2⟩ : ∃ V, V = v2.alloc (.cells #[.int .i64 u0, .int .i64 u1] 29) := ⟨_, rfl⟩
  have HS2 : Hid (Blk V2 v2.heap.size 29 #[.int .i64 u0, .int .i64 u1]) := by rw [hV2]; exact Blk.new v2 29 _
  have HD2 : Hid (Below W.heap.size W V2) := by rw [hV2]; exact HC2.out.alloc HC2.out.size _
  rw [← hV2]
  clear hV2
  obtain ⟨x0, x1, x2, x3, x4, xl⟩ := HF.out V2 HD2.out
  go_wp2_with fail
  refine (rWeight_any (p := p) H7.out h40 q V2 (by exact HPW.out.grow HD2.out)).mono ?_
  rw [HE.out, HU.out]
  unfold spV
  rintro e v3 ⟨rfl, hb3⟩
  have HV3 : Hid (Below V2.heap.size V2 v3) := hb3
  have HC3 : Hid (Below W.heap.size W v3) := HD2.out.trans (hb3.mono HD2.out.size)
  clear hb3 x0 x1 x2 x3 x4 xl
  go_upto_region 5 with fail
  obtain ⟨V3, hV3⟩ : ∃ V, V = v3.alloc (.cells #[.int .i64 u0, .int .i64 u1] 29) := ⟨_, rfl⟩
  have HS3 : Hid (Blk V3 v3.heap.size 29 #[.int .i64 u0, .int .i64 u1]) := by rw [hV3]; exact Blk.new v3 29 _
  have HD3 : Hid (Below W.heap.size W V3) := by rw [hV3]; exact HC3.out.alloc HC3.out.size _
  have HT3 : Hid (Blk V3 v2.heap.size 29 #[.int .i64 u0, .int .i64 u1]) := by rw [hV3]; exact (HS2.out.below HV3.out HS2.out.lt).alloc _
  rw [← hV3]
  clear hV3
  obtain ⟨x0, x1, x2, x3, x4, xl⟩ := HF.out V3 HD3.out
  go_wp2_with fail
  refine (PFits_any (p := p) q V3 (by exact HPW.out.grow HD3.out)).mono ?_
  rw [HE.out, HG2.out]
  rintro e v4 ⟨rfl, hb4⟩
  have HC4 : Hid (Below W.heap.size W v4) := HD3.out.trans (hb4.mono HD3.out.size)
  have HY4 : Hid (Below V3.heap.size V3 v4) := hb4
  clear hb4 x0 x1 x2 x3 x4 xl
  obtain ⟨x0, x1, x2, x3, x4, xl⟩ := HF.out v4 HC4.out
  go_wp2_with fail
  refine (rFits_any (p := p) H7.out h40 q v4 (by exact HPW.out.grow HC4.out)).mono ?_
  rw [HE.out, HG2.out]
  rintro e v5 ⟨rfl, hb5⟩
  have HC5 : Hid (Below W.heap.size W v5) := HC4.out.trans (hb5.mono HC4.out.size)
  have HY5 : Hid (Below V3.heap.size V3 v5) := HY4.out.trans (hb5.mono HY4.out.size)
  clear hb5 x0 x1 x2 x3 x4 xl
  obtain ⟨x0, x1, x2, x3, x4, xl⟩ := HF.out v5 HC5.out
  go_wp2_with fail
  refine (PAdd_any (p := p) q v5 (by exact HPW.out.grow HC5.out)).mono ?_
  rw [HA.out]
  rintro e v6 ⟨rfl, hb6⟩
  have HC6 : Hid (Below W.heap.size W v6) := HC5.out.trans (hb6.mono HC5.out.size)
  have HY6 : Hid (Below V3.heap.size V3 v6) := HY5.out.trans (hb6.mono HY5.out.size)
  clear hb6 x0 x1 x2 x3 x4 xl
  obtain ⟨x0, x1, x2, x3, x4, xl⟩ := HF.out v6 HC6.out
  go_wp2_with fail
  refine (rAdd_any (p := p) H7.out h40 q v6 (by exact HPW.out.grow HC6.out)).mono ?_
  rw [HA.out]
  rintro e v7 ⟨rfl, hb7⟩
  have HC7 : Hid (Below W.heap.size W v7) := HC6.out.trans (hb7.mono HC6.out.size)
  have HY7 : Hid (Below V3.heap.size V3 v7) := HY6.out.trans (hb7.mono HY6.out.size)
  clear hb7 x0 x1 x2 x3 x4 xl
  obtain ⟨x0, x1, x2, x3, x4, xl⟩ := HF.out v7 HC7.out
  go_wp2_with fail
  refine (PFalse_any (p := p) v7 (by exact HPW.out.grow HC7.out)).mono ?_
  rw [HFR.out]
  rintro e v8 ⟨rfl, hb8⟩
  have HC8 : Hid (Below W.heap.size W v8) := HC7.out.trans (hb8.mono HC7.out.size)
  have HY8 : Hid (Below V3.heap.size V3 v8) := HY7.out.trans (hb8.mono HY7.out.size)
  clear hb8 x0 x1 x2 x3 x4 xl
  obtain ⟨x0, x1, x2, x3, x4, xl⟩ := HF.out v8 HC8.out
  go_wp2_with fail
  refine (rFalse_any (p := p) H7.out v8 (by exact HPW.out.grow HC8.out)).mono ?_
  rw [HFR.out]
  rintro e v9 ⟨rfl, hb9⟩
  have HC9 : Hid (Below W.heap.size W v9) := HC8.out.trans (hb9.mono HC8.out.size)
  have HY9 : Hid (Below V3.heap.size V3 v9) := HY8.out.trans (hb9.mono HY8.out.size)
  clear hb9 x0 x1 x2 x3 x4 xl
  have hs2 := HT3.out.below HY9.out HT3.out.lt
  have hs3 := HS3.out.below HY9.out HS3.out.lt
  have y0 := hs2.cell 0
  have y1 := hs2.cell 1
  have yl := hs2.lt
  have z0 := hs3.cell 0
  have z1 := hs3.cell 1
  have zl := hs3.lt
  simp at y0 y1 z0 z1
  clear hs2 hs3
  go_wp2_with fail
  refine (awake_any _).mono ?_
  rintro e v11 ⟨rfl, hb11⟩
  go_wp2
  go_ret
  exact ⟨rfl, HBW.out.trans ((HC9.out.trans (hb11.mono HC9.out.size)).mono HBW.out.size)⟩
end
end Go.Proofs.Ytbfjebglaimcmaa
