/- The walk of PressPlans: for every press it answers true. -/
import Derived.Test.YtbfjebglaimcmaaRefO
namespace Go.Proofs.Ytbfjebglaimcmaa
open Go.RowKit Go.Hav
section
variable {low top bales : Int} {fa wa : Option Addr} {fl fc wl wp : Nat} {p : PressD}
theorem eq3_any (a b c : Int) (w : World) : (Op.equalIn 10000 41 (.agg #[.int .i64 a, .int .i64 b, .int .i64 c]) (.agg #[.int .i64 a, .int .i64 b, .int .i64 c])).run Try.prog w = .ok true w := by
  obtain ⟨i0, hi, hz0, hz1, hz2⟩ := info_parts Try.infoE3
  have hc : Try.prog.cellsOf 3 = 1 := by kernel_rfl
  have p0 : (part 3 #[.int .i64 a, .int .i64 b, .int .i64 c] 0).run Try.prog w = .ok (.int .i64 a) w := by kernel_rfl
  have p1 : (part 3 #[.int .i64 a, .int .i64 b, .int .i64 c] 1).run Try.prog w = .ok (.int .i64 b) w := by kernel_rfl
  have p2 : (part 3 #[.int .i64 a, .int .i64 b, .int .i64 c] 2).run Try.prog w = .ok (.int .i64 c) w := by kernel_rfl
  have q : ∀ x : Int, (Op.equalIn 9999 3 (.int .i64 x) (.int .i64 x)).run Try.prog w = .ok (x == x) w := fun x => run_equalIn_int w 9998 3 .i64 .i64 x x Try.underlying3
  rw [show (10000 : Nat) = 9999 + 1 from rfl, run_equalIn_array w 9999 _ _ Try.underlying41 hi, hc]
  simp [List.range, List.range.loop, Op.eqItems, Sem.run_bind, p0, p1, p2, q]
set_option maxRecDepth 100000 in
set_option maxHeartbeats 6400000 in
theorem PressPlans_any (w : World) (hP : PressIn w w.heap.size fa fl low top bales wa wl p) :
    Calls Try.prog 4 #[pressV fa fl fc low top bales wa wl wp] w fun e w' => e = .returned (.bool true) ∧ Below w.heap.size w w' := by
  have HP := Lib.hid hP
  have HEN : Hid (p.n = fl) := hP.efl
  clear hP
  unfold pressV
  go_enter Try.func4, Try.ntmps4
  go_wp2_with fail
  obtain ⟨W, hW⟩ : ∃ W, W = w.alloc (Obj.cells #[Value.slice fa fl fc, Value.int IntKind.i64 low, Value.int IntKind.i64 top, Value.int IntKind.i64 bales, Value.slice wa wl wp] 25) := ⟨_, rfl⟩
  have HX : Hid (Blk W w.heap.size 25 #[Value.slice fa fl fc, Value.int IntKind.i64 low, Value.int IntKind.i64 top, Value.int IntKind.i64 bales, Value.slice wa wl wp]) := by rw [hW]; exact Blk.new w 25 _
  have HBW : Hid (Below w.heap.size w W) := by rw [hW]; exact (Below.refl _ _).alloc (Nat.le_refl _) _
  rw [← hW]
  clear hW
  have HPW : Hid (PressIn W W.heap.size fa fl low top bales wa wl p) := HP.out.grow HBW.out
  have HF : Hid (∀ wv, Below W.heap.size W wv → wv.cell? ⟨w.heap.size, 0, none⟩ = some (Value.slice fa fl fc) ∧ wv.cell? ⟨w.heap.size, 1, none⟩ = some (Value.int IntKind.i64 low) ∧ wv.cell? ⟨w.heap.size, 2, none⟩ = some (Value.int IntKind.i64 top) ∧ wv.cell? ⟨w.heap.size, 3, none⟩ = some (Value.int IntKind.i64 bales) ∧ wv.cell? ⟨w.heap.size, 4, none⟩ = some (Value.slice wa wl wp) ∧ w.heap.size < wv.heap.size) := fun wv hb => blk5 (HX.out.below hb HX.out.lt)
  refine (heavy_any (p := p) 6 W (by exact HPW.out)).mono ?_
  rintro e v1 ⟨⟨b, rfl, hb⟩, hb1⟩
  have HC1 := Lib.hid hb1
  clear hb1
  cases b
  case true =>
    clear hb
    go_wp2_with fail
    refine (awake_any _).mono ?_
    rintro e v2 ⟨rfl, hb2⟩
    go_wp2
    go_ret
    exact ⟨rfl, HBW.out.trans ((HC1.out.trans (hb2.mono HC1.out.size)).mono HBW.out.size)⟩
  obtain ⟨⟨h40, h41⟩, h6⟩ := hb rfl
  clear hb
  have H6 : Hid (p.ok = true → p.n ≤ 6) := fun h => by have := h6 h; rw [HEN.out]; omega
  clear h6
  obtain ⟨M0, M1, M2, hM⟩ : ∃ a b c, mostR p = .tuple #[.int .i64 a, .int .i64 b, .int .i64 c] := by
    unfold mostR
    split
    · exact ⟨_, _, _, rfl⟩
    · exact ⟨_, _, _, rfl⟩
  obtain ⟨W0, W1, W2, W3, hW⟩ : ∃ a b c d, waitR p = .tuple #[.agg #[.int .i64 a, .int .i64 b, .int .i64 c], .int .i64 d] := by
    unfold waitR waitV
    split
    · exact ⟨_, _, _, _, rfl⟩
    · exact ⟨_, _, _, _, rfl⟩
  obtain ⟨E, hE⟩ : ∃ E, planE p = E := ⟨_, rfl⟩
  obtain ⟨L, hL⟩ : ∃ E, intsP p = E := ⟨_, rfl⟩
  obtain ⟨n, hn⟩ : ∃ n, L.length = n := ⟨_, rfl⟩
  have hn5 : n ≤ 1000 := by
    rw [← hn, ← hL, intsP]
    split
    · rename_i h
      rw [intZ_len]
      have := (planP_bd (planE_zero h).1).1
      omega
    · simp
  have HM := Lib.hid hM
  have HW := Lib.hid hW
  have HE := Lib.hid hE
  have HL := Lib.hid hL
  have HN := Lib.hid hn
  have HE3 := Lib.hid (eq3_any W0 W1 W2)
  clear hM hW hE hL hn
  obtain ⟨x0, x1, x2, x3, x4, xl⟩ := HF.out v1 HC1.out
  go_wp2_with fail
  refine (PMost_any (p := p) v1 (by exact HPW.out.grow HC1.out)).mono ?_
  rw [HM.out]
  rintro e v2 ⟨rfl, hb2⟩
  have HC2 : Hid (Below W.heap.size W v2) := HC1.out.trans (hb2.mono HC1.out.size)
  clear hb2 x0 x1 x2 x3 x4 xl
  obtain ⟨x0, x1, x2, x3, x4, xl⟩ := HF.out v2 HC2.out
  go_wp2_with fail
  refine (rMost_any (p := p) H6.out v2 (by exact HPW.out.grow HC2.out)).mono ?_
  rw [HM.out]
  rintro e v3 ⟨rfl, hb3⟩
  have HC3 : Hid (Below W.heap.size W v3) := HC2.out.trans (hb3.mono HC2.out.size)
  clear hb3 x0 x1 x2 x3 x4 xl
  obtain ⟨x0, x1, x2, x3, x4, xl⟩ := HF.out v3 HC3.out
  go_wp2_with fail
  refine (PPlan_any (p := p) v3 (by exact HPW.out.grow HC3.out)).mono ?_
  rw [HE.out, HL.out]
  rintro e v4 ⟨v, rfl, hown, hb4⟩
  obtain ⟨A1, c1, rfl, hrd, -⟩ := own_rd (l := L) inF_len (by decide) hown
  rw [HN.out]
  have HR4 := Lib.hid hrd
  have HC4 : Hid (Below W.heap.size W v4) := HC3.out.trans (hb4.mono HC3.out.size)
  clear hown hrd hb4 x0 x1 x2 x3 x4 xl
  obtain ⟨x0, x1, x2, x3, x4, xl⟩ := HF.out v4 HC4.out
  go_wp2_with fail
  refine (rPlan_any (p := p) H6.out v4 (by exact HPW.out.grow HC4.out)).mono ?_
  rw [HE.out, HL.out, HN.out]
  rintro e v5 ⟨A2, c2, rfl, hrd, hb5⟩
  have HR5 : Hid (RdG inF 1 v5 v5.heap.size A1 L) := (HR4.out.below hb5).more hb5.size
  have HS5 := Lib.hid hrd
  have HC5 : Hid (Below W.heap.size W v5) := HC4.out.trans (hb5.mono HC4.out.size)
  clear hrd hb5 x0 x1 x2 x3 x4 xl
  obtain ⟨x0, x1, x2, x3, x4, xl⟩ := HF.out v5 HC5.out
  go_wp2_with fail
  refine (PWait_any (p := p) v5 (by exact HPW.out.grow HC5.out)).mono ?_
  rw [HW.out]
  rintro e v6 ⟨rfl, hb6⟩
  have HQ6 : Hid (Below v5.heap.size v5 v6) := hb6
  have HC6 : Hid (Below W.heap.size W v6) := HC5.out.trans (hb6.mono HC5.out.size)
  clear hb6 x0 x1 x2 x3 x4 xl
  go_upto_region 8 with fail
  obtain ⟨V6, hV6⟩ : ∃ V, V = v6.alloc (.cells #[.int .i64 W0, .int .i64 W1, .int .i64 W2] 41) := ⟨_, rfl⟩
  have HS6 : Hid (Blk V6 v6.heap.size 41 #[.int .i64 W0, .int .i64 W1, .int .i64 W2]) := by rw [hV6]; exact Blk.new v6 41 _
  have HD6 : Hid (Below W.heap.size W V6) := by rw [hV6]; exact HC6.out.alloc HC6.out.size _
  have HQV : Hid (Below v5.heap.size v5 V6) := by rw [hV6]; exact HQ6.out.alloc HQ6.out.size _
  rw [← hV6]
  clear hV6
  obtain ⟨x0, x1, x2, x3, x4, xl⟩ := HF.out V6 HD6.out
  go_wp2_with fail
  refine (rWait_any (p := p) H6.out V6 (by exact HPW.out.grow HD6.out)).mono ?_
  rw [HW.out]
  rintro e v7 ⟨rfl, hb7⟩
  have HC7 : Hid (Below W.heap.size W v7) := HD6.out.trans (hb7.mono HD6.out.size)
  have HQ7 : Hid (Below v5.heap.size v5 v7) := HQV.out.trans (hb7.mono HQV.out.size)
  have HT7 := Lib.hid (HS6.out.below hb7 HS6.out.lt)
  clear hb7 x0 x1 x2 x3 x4 xl
  go_upto_region 9 with fail
  obtain ⟨V7, hV7⟩ : ∃ V, V = v7.alloc (.cells #[.int .i64 W0, .int .i64 W1, .int .i64 W2] 41) := ⟨_, rfl⟩
  have HS7 : Hid (Blk V7 v7.heap.size 41 #[.int .i64 W0, .int .i64 W1, .int .i64 W2]) := by rw [hV7]; exact Blk.new v7 41 _
  have HT8 : Hid (Blk V7 v6.heap.size 41 #[.int .i64 W0, .int .i64 W1, .int .i64 W2]) := by rw [hV7]; exact HT7.out.alloc _
  have HD7 : Hid (Below W.heap.size W V7) := by rw [hV7]; exact HC7.out.alloc HC7.out.size _
  have HQW : Hid (Below v5.heap.size v5 V7) := by rw [hV7]; exact HQ7.out.alloc HQ7.out.size _
  rw [← hV7]
  clear hV7
  go_wp2_with fail
  refine (ints_any (n := n) (n2 := n) hn5 HN.out hn5 HN.out V7 (by exact (HR5.out.below HQW.out).more HQW.out.size) (by exact (HS5.out.below HQW.out).more HQW.out.size)).mono ?_
  rintro e v8 ⟨rfl, hb8⟩
  have HC8 : Hid (Below W.heap.size W v8) := HD7.out.trans (hb8.mono HD7.out.size)
  have hs2 := HT8.out.below hb8 HT8.out.lt
  have hs3 := HS7.out.below hb8 HS7.out.lt
  have y0 := hs2.cell 0
  have y1 := hs2.cell 1
  have y2 := hs2.cell 2
  have yl := hs2.lt
  have z0 := hs3.cell 0
  have z1 := hs3.cell 1
  have z2 := hs3.cell 2
  have zl := hs3.lt
  simp at y0 y1 y2 z0 z1 z2
  have he3 := HE3.out
  clear hs2 hs3 hb8
  go_wp2_with fail
  refine (awake_any _).mono ?_
  rintro e v11 ⟨rfl, hb11⟩
  go_wp2
  go_ret
  exact ⟨rfl, HBW.out.trans ((HC8.out.trans (hb11.mono HC8.out.size)).mono HBW.out.size)⟩
end
end Go.Proofs.Ytbfjebglaimcmaa
