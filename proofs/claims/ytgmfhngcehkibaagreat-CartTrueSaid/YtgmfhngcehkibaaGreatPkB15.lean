/- The wagons' numbers, and Arrives. The reference of the carts: its small functions, and Cart: are wagons and lots valid? No condition but that they lie so. The rule of HavC for a region in a round of a range over a function. Condition: what the statements say. -/
import Derived.Test.YtgmfhngcehkibaaGreatPkB14
set_option maxRecDepth 100000
set_option maxHeartbeats 6400000
namespace Go.Proofs.YtgmfhngcehkibaaGreat
open Go.RowKit Go.Hav Go.Shelf Go.Sq
attribute [local go_sem] Oper.semAt_some
def isWagB (c : ICart) (n : Int) : Bool := inB n 0 ((c.wg.length : Int) - 1)
section
variable {fa la wa ta : Option Addr} {fl fc ll lc wn wc tn tc : Nat} {c : ICart}
variable {w : World}
theorem cisWagon_any (n : Int) (hw : c.wg.length = wn) (hwn : wn ≤ 1000) (w : World) : Calls Tryz.prog 46 #[(.agg #[.int .i64 c.riv.depth.lo, .int .i64 c.riv.depth.hi, .int .i64 c.riv.fall.lo, .int .i64 c.riv.fall.hi, .int .i64 c.riv.days, .slice fa fl fc, .slice la ll lc, .int .i64 c.draws, .slice wa wn wc, .slice ta tn tc]), .int .i64 n] w fun e w' => e = .returned (.bool (isWagB c n)) ∧ Below w.heap.size w w' := by
 obtain ⟨W, hW⟩ : ∃ W, W = w.alloc (.cells #[.int .i64 c.riv.depth.lo, .int .i64 c.riv.depth.hi, .int .i64 c.riv.fall.lo, .int .i64 c.riv.fall.hi, .int .i64 c.riv.days, .slice fa fl fc, .slice la ll lc, .int .i64 c.draws, .slice wa wn wc, .slice ta tn tc] 31) := ⟨_, rfl⟩; obtain ⟨b2, hb2⟩ : ∃ g, g = w.heap.size := ⟨_, rfl⟩; have HX : Hid (Blk W b2 31 #[.int .i64 c.riv.depth.lo, .int .i64 c.riv.depth.hi, .int .i64 c.riv.fall.lo, .int .i64 c.riv.fall.hi, .int .i64 c.riv.days, .slice fa fl fc, .slice la ll lc, .int .i64 c.draws, .slice wa wn wc, .slice ta tn tc]) := by rw [hW, hb2]; exact Blk.new w 31 _
 have HB0 : Hid (Below w.heap.size w W) := by rw [hW]; exact (Below.refl _ _).alloc (Nat.le_refl _) _
 have hww : IntKind.i64.wrap ((wn : Int) - 1) = (wn : Int) - 1 := IntWalk.i64_in _ (by omega)
 have HI : Hid (inB n 0 ((wn : Int) - 1) = isWagB c n) := by show _ = _; unfold isWagB; rw [hw]
 clear hw
 go_enter Tryz.func46, Tryz.ntmps46
 go_upto_region 1 with (fail); rw [← hW, ← hb2]; clear hW hb2; obtain ⟨q0, q1, q2, q3, q4, q5, q6, q7, q8, q9, ql⟩ := cx31 HX.out; go_wp2_with fail; refine (cwithin_any _ _ _ _).mono ?_; rw [HI.out]; rintro e w1 ⟨rfl, rfl⟩; go_wp2; go_ret
 exact ⟨rfl, HB0.out⟩
theorem isQ45 (hw : c.wg.length = wn) {w0 : World} {b2 b3 : Nat} {n : Int} (hb2 : Blk w0 b2 31 #[.int .i64 c.riv.depth.lo, .int .i64 c.riv.depth.hi, .int .i64 c.riv.fall.lo, .int .i64 c.riv.fall.hi, .int .i64 c.riv.days, .slice fa fl fc, .slice la ll lc, .int .i64 c.draws, .slice wa wn wc, .slice ta tn tc]) (hb3 : Blk w0 b3 3 #[.int .i64 n]) (hv : okC c = true) : IsQ w0 45 #[.pointer (some ⟨b2, 0, none⟩), .pointer (some ⟨b3, 0, none⟩)] (isWagB c n) := by
 intro wq hB; have hx := hb2.below hB hb2.lt; have hy := hb3.below hB hb3.lt; obtain ⟨q0, q1, q2, q3, q4, q5, q6, q7, q8, q9, ql⟩ := cx31 hx; have p0 := hy.cell 0; have pl := hy.lt; simp at p0; have hwn : wn ≤ 1000 := by have := (okC_parts hv).2.2.1; omega
 clear hB hb2 hb3 hx hy hv
 go_enter Tryz.func45, Tryz.ntmps45
 go_wp2_with fail; refine (cisWagon_any (fa := fa) (fl := fl) (fc := fc) (la := la) (ll := ll) (lc := lc) (wa := wa) (wc := wc) (ta := ta) (tn := tn) (tc := tc) n hw hwn _).mono ?_
 rintro e w' ⟨rfl, hb⟩; go_wp2; go_ret
 exact ⟨rfl, hb⟩
theorem isQ52 (hw : c.wg.length = wn) {w0 : World} {b2 b3 : Nat} {n : Int} (hb2 : Blk w0 b2 31 #[.int .i64 c.riv.depth.lo, .int .i64 c.riv.depth.hi, .int .i64 c.riv.fall.lo, .int .i64 c.riv.fall.hi, .int .i64 c.riv.days, .slice fa fl fc, .slice la ll lc, .int .i64 c.draws, .slice wa wn wc, .slice ta tn tc]) (hb3 : Blk w0 b3 3 #[.int .i64 n]) (hv : okC c = true) : IsQ w0 52 #[.pointer (some ⟨b2, 0, none⟩), .pointer (some ⟨b3, 0, none⟩)] (isWagB c n) := by
 intro wq hB; have hx := hb2.below hB hb2.lt; have hy := hb3.below hB hb3.lt; obtain ⟨q0, q1, q2, q3, q4, q5, q6, q7, q8, q9, ql⟩ := cx31 hx; have p0 := hy.cell 0; have pl := hy.lt; simp at p0; have hwn : wn ≤ 1000 := by have := (okC_parts hv).2.2.1; omega
 clear hB hb2 hb3 hx hy hv
 go_enter Tryz.func52, Tryz.ntmps52
 go_wp2_with fail; refine (cisWagon_any (fa := fa) (fl := fl) (fc := fc) (la := la) (ll := ll) (lc := lc) (wa := wa) (wc := wc) (ta := ta) (tn := tn) (tc := tc) n hw hwn _).mono ?_
 rintro e w' ⟨rfl, hb⟩; go_wp2; go_ret
 exact ⟨rfl, hb⟩
theorem isQ71 (w0 : World) : IsQ w0 71 #[] true := by
 intro wq _
 go_enter Tryz.func71, Tryz.ntmps71
 go_wp2; go_ret
 exact ⟨rfl, Below.refl _ _⟩
theorem isQ77 (w0 : World) : IsQ w0 77 #[] true := by
 intro wq _
 go_enter Tryz.func77, Tryz.ntmps77
 go_wp2; go_ret
 exact ⟨rfl, Below.refl _ _⟩
theorem isQ80 (w0 : World) : IsQ w0 80 #[] true := by
 intro wq _
 go_enter Tryz.func80, Tryz.ntmps80
 go_wp2; go_ret
 exact ⟨rfl, Below.refl _ _⟩
def arrivesE (c : ICart) (n : Int) : Nat := if okC c = false then 1 else if isWagB c n = false then 2 else 0
def arrivesV (c : ICart) (n : Int) : Int × Int := if arrivesE c n = 0 then (match c.wg[n.toNat]? with | some w => comesP w | none => (0, 0)) else (0, 0)
def spanV (s : Int × Int) : Value := .agg #[.int .i64 s.1, .int .i64 s.2]
theorem PArrives_any (n : Int) (hP : CtIn w w.heap.size fa fl la ll wa wn ta tn c) : Calls Tryz.prog 14 #[(.agg #[.int .i64 c.riv.depth.lo, .int .i64 c.riv.depth.hi, .int .i64 c.riv.fall.lo, .int .i64 c.riv.fall.hi, .int .i64 c.riv.days, .slice fa fl fc, .slice la ll lc, .int .i64 c.draws, .slice wa wn wc, .slice ta tn tc]), .int .i64 n] w fun e w' => e = .returned (.tuple #[spanV (arrivesV c n), .int .i64 (arrivesE c n)]) ∧ Below w.heap.size w w' := by
 have HP := Lib.hid hP; have EG := Lib.hid (enters_of Tryz.func42 (by kernel_rfl) rfl)
 have EG45 := Lib.hid (enters_of Tryz.func45 (by kernel_rfl) rfl)
 obtain ⟨EE, hEE⟩ : ∃ EE : Nat, EE = arrivesE c n := ⟨_, rfl⟩; have HEE := Lib.hid hEE
 have HV0 : Hid (EE ≠ 0 → spanV (arrivesV c n) = .agg #[.int .i64 0, .int .i64 0]) := fun h => by unfold arrivesV; rw [if_neg (by rw [← hEE]; exact h)]; rfl
 rw [← hEE]; clear hP hEE; refine (callsIn_wide (n := 6)).1 (callsIn_of_wp_marks Tryz.func14 rfl trivial ?_ rfl); simp only [Tryz.ntmps14, List.size_toArray, List.length_cons, List.length_nil, Nat.reduceAdd, Nat.reduceSub, Array.replicate_succ, Array.replicate_zero, List.push_toArray, List.append_toArray, List.nil_append, List.cons_append]; refine wpIn_wide.2 ?_; have hmf := hmf0; go_upto_region 2 with (fail); obtain ⟨W, hW⟩ : ∃ W, W = (((w.alloc (.cells #[.int .i64 c.riv.depth.lo, .int .i64 c.riv.depth.hi, .int .i64 c.riv.fall.lo, .int .i64 c.riv.fall.hi, .int .i64 c.riv.days, .slice fa fl fc, .slice la ll lc, .int .i64 c.draws, .slice wa wn wc, .slice ta tn tc] 31)).alloc (.cells #[.int .i64 n] 3)).alloc (.cells #[.int .i64 0, .int .i64 0] 23)).alloc (.cells #[.int .i64 0] 35) := ⟨_, rfl⟩; obtain ⟨B2, hB2⟩ : ∃ B2, B2 = w.heap.size := ⟨_, rfl⟩; obtain ⟨B3, hB3⟩ : ∃ B3, B3 = w.heap.size + 1 := ⟨_, rfl⟩; obtain ⟨B4, hB4⟩ : ∃ B4, B4 = w.heap.size + 1 + 1 := ⟨_, rfl⟩; obtain ⟨B5, hB5⟩ : ∃ B5, B5 = w.heap.size + 1 + 1 + 1 := ⟨_, rfl⟩; have HB0 : Hid (Below w.heap.size w W) := by rw [hW]; exact ((((Below.refl _ _).alloc (Nat.le_refl _) _).alloc (by simp) _).alloc (by simp; omega) _).alloc (by simp; omega) _
 have HXB : Hid (Blk W B2 31 #[.int .i64 c.riv.depth.lo, .int .i64 c.riv.depth.hi, .int .i64 c.riv.fall.lo, .int .i64 c.riv.fall.hi, .int .i64 c.riv.days, .slice fa fl fc, .slice la ll lc, .int .i64 c.draws, .slice wa wn wc, .slice ta tn tc]) := by rw [hW, hB2]; exact (((Blk.new w 31 _).alloc _).alloc _).alloc _
 have HX3 : Hid (Blk W B3 3 #[.int .i64 n]) := by rw [hW, hB3]; exact ((Blk.new_ (by simp) 3 _).alloc _).alloc _
 have HX4 : Hid (Blk W B4 23 #[.int .i64 0, .int .i64 0]) := by rw [hW, hB4]; exact (Blk.new_ (by simp) 23 _).alloc _
 have HX5 : Hid (Blk W B5 35 #[.int .i64 0]) := by rw [hW, hB5]; exact Blk.new_ (by simp) 35 _
 have HE : Hid (w.heap.size ≤ B5 ∧ w.heap.size ≤ W.heap.size ∧ B5 < W.heap.size ∧ w.heap.size ≤ B4 ∧ B4 ≠ B5) := ⟨by omega, HB0.out.size, HX5.out.lt, by omega, by omega⟩
 rw [← hW, ← hB5, ← hB4, ← hB3, ← hB2]; clear hW hB2 hB3 hB4 hB5; obtain ⟨q0, q1, q2, q3, q4, q5, q6, q7, q8, q9, ql⟩ := cx31 HXB.out; go_wp2_with fail
 refine (valid_any (fc := fc) (lc := lc) (wc := wc) (tc := tc) (w0 := W) (b := isWagB c n) 45 #[.pointer (some ⟨B2, 0, none⟩), .pointer (some ⟨B3, 0, none⟩)] EG45.out (by exact fun hv => isQ45 HP.out.ewn HXB.out HX3.out hv) (by exact HP.out.grow HB0.out)).mono ?_
 rintro e w1 ⟨hb, (⟨h1, rfl⟩ | ⟨h1, h2, rfl⟩ | ⟨h1, h2, rfl⟩)⟩
 ·have hE1 : EE = 1 := by rw [HEE.out]; unfold arrivesE; rw [if_pos h1]
  subst hE1; clear q0 q1 q2 q3 q4 q5 q6 q7 q8 q9 ql; obtain ⟨e1, e2, _, e4, e5⟩ := HE.out
  refine api_panicC (ds := []) (B := W.heap.size) isAnsC42 EG.out (Marks.nil _ _) (HX5.out.below hb HX5.out.lt) (fun w2 hk2 hfar hbel => ?_)
  have g0 := hk2.cell 0; have z0 := (hfar B4 23 _ e5 (HX4.out.below hb HX4.out.lt)).cell 0; have z1 := (hfar B4 23 _ e5 (HX4.out.below hb HX4.out.lt)).cell 1; simp at g0 z0 z1; refine ⟨.tuple #[.agg #[.int .i64 0, .int .i64 0], .int .i64 1], by simp [results, Tryz.results14, go_sem, g0, z0, z1], by rw [HV0.out (by omega)]; rfl, ?_⟩
  exact HB0.out.trans ((hb.mono e2).trans ((hbel w.heap.size e2 e1).mono (Nat.le_refl _)))
 ·have hE1 : EE = 2 := by rw [HEE.out]; unfold arrivesE; rw [if_neg (by rw [h1]; decide), if_pos h2]
  subst hE1; clear q0 q1 q2 q3 q4 q5 q6 q7 q8 q9 ql; obtain ⟨e1, e2, _, e4, e5⟩ := HE.out
  refine api_panicC (ds := []) (B := W.heap.size) isAnsC42 EG.out (Marks.nil _ _) (HX5.out.below hb HX5.out.lt) (fun w2 hk2 hfar hbel => ?_)
  have g0 := hk2.cell 0; have z0 := (hfar B4 23 _ e5 (HX4.out.below hb HX4.out.lt)).cell 0; have z1 := (hfar B4 23 _ e5 (HX4.out.below hb HX4.out.lt)).cell 1; simp at g0 z0 z1; refine ⟨.tuple #[.agg #[.int .i64 0, .int .i64 0], .int .i64 2], by simp [results, Tryz.results14, go_sem, g0, z0, z1], by rw [HV0.out (by omega)]; rfl, ?_⟩
  exact HB0.out.trans ((hb.mono e2).trans ((hbel w.heap.size e2 e1).mono (Nat.le_refl _)))
 ·have hE1 : EE = 0 := by rw [HEE.out]; unfold arrivesE; rw [if_neg (by rw [h1]; decide), if_neg (by rw [h2]; decide)]
  have hir := inB_iff.1 h2; obtain ⟨k, hk⟩ : ∃ k : Nat, n = k := ⟨n.toNat, by omega⟩
  obtain ⟨l, hl⟩ : ∃ l, c.wg[k]? = some l := ⟨c.wg[k]'(by omega), by simp⟩
  have hlB := wagB_iff.1 ((okC_parts h1).2.2.2.2.1 l (List.mem_of_getElem? hl))
  have HVV : Hid (spanV (arrivesV c n) = .agg #[.int .i64 (l.leaves + l.takes.lo), .int .i64 (l.leaves + l.takes.hi)]) := by
   show _ = _; unfold arrivesV; rw [if_pos (by rw [← HEE.out]; exact hE1), hk, Int.toNat_natCast, hl]
   rfl
  have hkw : k < wn := by have := HP.out.ewn; omega
  have hwn3 : wn ≤ 3 := by have := HP.out.ewn; have := (okC_parts h1).2.2.1; omega
  subst hE1; have HB1 : Hid (Below w.heap.size w w1) := HB0.out.trans (hb.mono HB0.out.size); have HX1 := Lib.hid (HXB.out.below hb HXB.out.lt); have HN3 := Lib.hid (HX3.out.below hb HX3.out.lt); have HN4 := Lib.hid (HX4.out.below hb HX4.out.lt); have HN5 := Lib.hid (HX5.out.below hb HX5.out.lt); have HBW : Hid (Below W.heap.size W w1) := hb; obtain ⟨bk, off, rfl, hbl, H0, H1, H2, H3⟩ := rd_wg (HP.out.grow HB1.out).hwg k l hl; obtain ⟨l0, ⟨l1, l2⟩, l3⟩ := l; simp only at H0 H1 H2 H3 hlB; clear q0 q1 q2 q3 q4 q5 q6 q7 q8 q9 ql; clear hb hir hl HV0 h1 h2; subst hk; obtain ⟨q0, q1, q2, q3, q4, q5, q6, q7, q8, q9, ql⟩ := cx31 HX1.out; have p0 := HN3.out.cell 0; have pl := HN3.out.lt; simp at p0; go_wp2_with fail; refine (comes_any l0 l1 l2 l3 (by omega) (by omega) (by omega) _).mono ?_
  rintro e w2 ⟨rfl, hb⟩; have HB2 : Hid (Below W.heap.size W w2) := HBW.out.trans (hb.mono HBW.out.size); have HM4 := Lib.hid (HN4.out.below hb HN4.out.lt); have HM5 := Lib.hid (HN5.out.below hb HN5.out.lt); clear q0 q1 q2 q3 q4 q5 q6 q7 q8 q9 ql; clear hb p0 pl H0 H1 H2 H3 hbl hlB; have c40 := HM4.out.cell 0; have c41 := HM4.out.cell 1; have f40 := HM4.out.frozen 0; have f41 := HM4.out.frozen 1; have l4' := HM4.out.lt; have c50 := HM5.out.cell 0; have f50 := HM5.out.frozen 0; have l5' := HM5.out.lt; simp at c40 c41 c50; obtain ⟨e1, e2, _, e4, e5⟩ := HE.out; have e5' := Ne.symm e5; go_wp2; obtain ⟨W9, hW9⟩ : ∃ W9, W9 = ((w2.setCell ⟨B4, 0, none⟩ (.int .i64 (l0 + l1))).setCell ⟨B4, 1, none⟩ (.int .i64 (l0 + l2))).setCell ⟨B5, 0, none⟩ (.int .i64 0) := ⟨_, rfl⟩; rw [← hW9]
  have HT4 : Blk W9 B4 23 #[.int .i64 (l0 + l1), .int .i64 (l0 + l2)] := by
   rw [hW9]; have h := ((HM4.out.set_ 0 (.int .i64 (l0 + l1))).set_ 1 (.int .i64 (l0 + l2))).far (p := ⟨B5, 0, none⟩) e5 (.int .i64 0)
   simpa using h
  have HT5 : Blk W9 B5 35 #[.int .i64 0] := by
   rw [hW9]; exact ((HM5.out.far (p := ⟨B4, 0, none⟩) (Ne.symm e5) _).far (p := ⟨B4, 1, none⟩) (Ne.symm e5) _).set_ 0 _
  have hB9 : Below w.heap.size w W9 := by
   rw [hW9]; exact (((HB0.out.trans (HB2.out.mono e2)).setCell (p := ⟨B4, 0, none⟩) e4 _).setCell (p := ⟨B4, 1, none⟩) e4 _).setCell (p := ⟨B5, 0, none⟩) e1 _
  refine api_retC (ds := []) (B := W.heap.size) isAnsC42 EG.out (Marks.nil _ _) (fun w4 hk hbel => ?_)
  have g0 := (hk _ _ _ HT5).cell 0; have z0 := (hk _ _ _ HT4).cell 0; have z1 := (hk _ _ _ HT4).cell 1; simp at g0 z0 z1; refine ⟨.tuple #[.agg #[.int .i64 (l0 + l1), .int .i64 (l0 + l2)], .int .i64 0], by simp [results, Tryz.results14, go_sem, g0, z0, z1], by rw [HVV.out]; rfl, ?_⟩
  exact hB9.trans (hbel w.heap.size e2)
end
theorem cin_any (n lo hi : Int) (w : World) : Calls Tryz.prog 86 #[.int .i64 n, .int .i64 lo, .int .i64 hi] w fun e w' => e = .returned (.bool (inB n lo hi)) ∧ w' = w := by
 cases h : decide (lo ≤ n)
 ·have hr : inB n lo hi = false := by simp [inB, h]
  go_enter Tryz.func86, Tryz.ntmps86
  go_wp2; go_ret
  exact ⟨ret_bool hr.symm, rfl⟩
 ·have hr : inB n lo hi = decide (n ≤ hi) := by simp [inB, h]
  go_enter Tryz.func86, Tryz.ntmps86
  go_wp2; go_ret
  exact ⟨ret_bool hr.symm, rfl⟩
theorem wagB_no {g : IWag} (h : ¬ (0 ≤ g.leaves ∧ g.leaves ≤ 10 ∧ 1 ≤ g.takes.lo ∧ g.takes.lo ≤ g.takes.hi ∧ g.takes.hi ≤ 6 ∧ 0 ≤ g.room ∧ g.room ≤ 30)) : wagB g = false := by
 cases e : wagB g
 ·rfl
 ·exact absurd (wagB_iff.1 e) h
theorem lotB_no {l : ILot} (h : ¬ (0 ≤ l.from_ ∧ l.from_ ≤ 10 ∧ 1 ≤ l.bales ∧ l.bales ≤ 20 ∧ 0 ≤ l.price ∧ l.price ≤ 50 ∧ 0 ≤ l.until_ ∧ l.until_ ≤ 20 ∧ 0 ≤ l.less ∧ l.less ≤ l.price)) : lotB l = false := by
 cases e : lotB l
 ·rfl
 ·exact absurd (lotB_iff.1 e) h
theorem inB_no {n a b : Int} (h : inB n a b = false) : ¬ (a ≤ n ∧ n ≤ b) := fun e => by rw [inB_iff.2 e] at h; cases h
section
variable {fa la wa ta : Option Addr} {fl fc ll lc wn wc tn tc : Nat} {c : ICart}
variable {w : World}
theorem rcart_any (w : World) (hP : CtIn w w.heap.size fa fl la ll wa wn ta tn c) : Calls Tryz.prog 33 #[(.agg #[.int .i64 c.riv.depth.lo, .int .i64 c.riv.depth.hi, .int .i64 c.riv.fall.lo, .int .i64 c.riv.fall.hi, .int .i64 c.riv.days, .slice fa fl fc, .slice la ll lc, .int .i64 c.draws, .slice wa wn wc, .slice ta tn tc])] w fun e w' => e = .returned (.bool (okC c)) ∧ Below w.heap.size w w' := by
 have HP := Lib.hid hP; have HEW := Lib.hid hP.ewn; have HET := Lib.hid hP.etn; have m1 := hP.mwn; have m2 := hP.mtn; clear hP; obtain ⟨W, hW⟩ : ∃ W, W = w.alloc (.cells #[.int .i64 c.riv.depth.lo, .int .i64 c.riv.depth.hi, .int .i64 c.riv.fall.lo, .int .i64 c.riv.fall.hi, .int .i64 c.riv.days, .slice fa fl fc, .slice la ll lc, .int .i64 c.draws, .slice wa wn wc, .slice ta tn tc] 31) := ⟨_, rfl⟩; obtain ⟨b1, hb1⟩ : ∃ b, b = w.heap.size := ⟨_, rfl⟩; have HK : Hid (Blk W b1 31 #[.int .i64 c.riv.depth.lo, .int .i64 c.riv.depth.hi, .int .i64 c.riv.fall.lo, .int .i64 c.riv.fall.hi, .int .i64 c.riv.days, .slice fa fl fc, .slice la ll lc, .int .i64 c.draws, .slice wa wn wc, .slice ta tn tc]) := by rw [hW, hb1]; exact Blk.new w 31 _
 have HB0 : Hid (Below w.heap.size w W) := by rw [hW]; exact (Below.refl _ _).alloc (Nat.le_refl _) _
 have hx := HK.out; obtain ⟨q0, q1, q2, q3, q4, q5, q6, q7, q8, q9, ql⟩ := cx31 hx; have HOK : Hid (okC c = (headC c && c.wg.all wagB && c.lt.all lotB)) := rfl; have HHD : Hid (headC c = (okR c.riv && (isDrB c.draws && (decide (c.wg.length ≤ 3) && decide (c.lt.length ≤ 5))))) := rfl
 go_enter Tryz.func33, Tryz.ntmps33
 go_upto_region 1 with (fail); rw [← hW, ← hb1]; have HPW := Lib.hid (HP.out.grow HB0.out); clear hW hb1; go_wp2_with fail; refine (rriver_any (fc := fc) (lc := lc) W HPW.out.riv).mono ?_
 cases h1 : okR c.riv
 ·have HN : Hid (okC c = false) := by show _ = _; rw [HOK.out, HHD.out, h1]; rfl
  clear h1; rintro e w1 ⟨rfl, hb⟩; have HBZ : Hid (Below w.heap.size w w1) := HB0.out.trans (hb.mono HB0.out.size); clear hb; go_wp2; go_ret
  exact ⟨ret_bool HN.out.symm, HBZ.out⟩
 rintro e w1 ⟨rfl, hb⟩; have HB1 : Hid (Below w.heap.size w w1) := HB0.out.trans (hb.mono HB0.out.size); have HK1 : Hid (Blk w1 b1 31 #[.int .i64 c.riv.depth.lo, .int .i64 c.riv.depth.hi, .int .i64 c.riv.fall.lo, .int .i64 c.riv.fall.hi, .int .i64 c.riv.days, .slice fa fl fc, .slice la ll lc, .int .i64 c.draws, .slice wa wn wc, .slice ta tn tc]) := HK.out.below hb HK.out.lt; clear hb hx; clear q0 q1 q2 q3 q4 q5 q6 q7 q8 q9 ql; have hx := HK1.out; obtain ⟨q0, q1, q2, q3, q4, q5, q6, q7, q8, q9, ql⟩ := cx31 hx; go_wp2_with fail; refine (rdraws_any c.draws w1).mono ?_
 cases h2 : isDrB c.draws
 ·have HN : Hid (okC c = false) := by show _ = _; rw [HOK.out, HHD.out, h1, h2]; rfl
  clear h1 h2; rintro e w2 ⟨rfl, hb⟩; have HBZ : Hid (Below w.heap.size w w2) := HB1.out.trans (hb.mono HB1.out.size); clear hb; go_wp2; go_ret
  exact ⟨ret_bool HN.out.symm, HBZ.out⟩
 rintro e w2 ⟨rfl, hb⟩; have HB2 : Hid (Below w.heap.size w w2) := HB1.out.trans (hb.mono HB1.out.size); have HK2 : Hid (Blk w2 b1 31 #[.int .i64 c.riv.depth.lo, .int .i64 c.riv.depth.hi, .int .i64 c.riv.fall.lo, .int .i64 c.riv.fall.hi, .int .i64 c.riv.days, .slice fa fl fc, .slice la ll lc, .int .i64 c.draws, .slice wa wn wc, .slice ta tn tc]) := HK1.out.below hb HK1.out.lt; clear hb hx HK1; clear q0 q1 q2 q3 q4 q5 q6 q7 q8 q9 ql; have hx := HK2.out; obtain ⟨q0, q1, q2, q3, q4, q5, q6, q7, q8, q9, ql⟩ := cx31 hx; clear hx
 by_cases hfl : wn ≤ 3
 case neg =>
  have HN : Hid (okC c = false) := by show _ = _; rw [HOK.out, HHD.out]; simp; intros; have := HEW.out; omega
  have hd : decide ((3 : Int) < wn) = true := by simp; omega
  have HBZ := HB2; go_wp2; go_ret
  exact ⟨ret_bool HN.out.symm, HBZ.out⟩
 have hd : decide ((3 : Int) < wn) = false := by simp; omega
 by_cases hll : tn ≤ 5
 case neg =>
  have HN : Hid (okC c = false) := by show _ = _; rw [HOK.out, HHD.out]; simp; intros; have := HET.out; omega
  have hd5 : decide ((5 : Int) < tn) = true := by simp; omega
  have HBZ := HB2; go_wp2; go_ret
  exact ⟨ret_bool HN.out.symm, HBZ.out⟩
 have hd5 : decide ((5 : Int) < tn) = false := by simp; omega
 have HHT : Hid (headC c = true) := by show _ = _; rw [HHD.out, h1, h2]; simp; have := HEW.out; have := HET.out; omega
 clear h1 h2; go_wp2; clear hd hd5; clear q0 q1 q2 q3 q4 q5 q6 q7 q8 q9 ql
 go_loopw [3] (fun i wr => ∃ k : Nat, k ≤ wn ∧ i = .int .i64 k ∧ Hid ((c.wg.take k).all wagB = true) ∧ Hid (Below w.heap.size w wr) ∧ Hid (Blk wr b1 31 #[.int .i64 c.riv.depth.lo, .int .i64 c.riv.depth.hi, .int .i64 c.riv.fall.lo, .int .i64 c.riv.fall.hi, .int .i64 c.riv.days, .slice fa fl fc, .slice la ll lc, .int .i64 c.draws, .slice wa wn wc, .slice ta tn tc])) (fun i _ => wn - (intOf i).toNat)
 case atStart => exact ⟨0, Nat.zero_le _, rfl, by show _ = _; simp, HB2, HK2⟩
 case round =>
  obtain ⟨k, hk, rfl, HT, HBR, HKR⟩ := hrel; have hx := HKR.out; obtain ⟨q0, q1, q2, q3, q4, q5, q6, q7, q8, q9, ql⟩ := cx31 hx; clear hx
  by_cases hlt : k < wn
  ·obtain ⟨g, hg⟩ : ∃ g, c.wg[k]? = some g := ⟨c.wg[k]'(by have := HEW.out; omega), by simp⟩
   obtain ⟨b, off, hA, hbl, H0, H1, H2, H3⟩ := rd_wg ((HP.out.grow HBR.out).hwg) k g hg; subst hA; have HC := Lib.hid hg; have HM := Lib.hid (List.mem_of_getElem? hg); obtain ⟨g0, ⟨g1, g2⟩, g3⟩ := g; simp only at H0 H1 H2 H3; clear hg; go_upto_region 7 with (fail); obtain ⟨W7, hW7⟩ : ∃ W7, W7 = wr.alloc (.cells #[.int .i64 g0, .int .i64 g1, .int .i64 g2, .int .i64 g3] 65) := ⟨_, rfl⟩; obtain ⟨b4, hb4⟩ : ∃ b, b = wr.heap.size := ⟨_, rfl⟩; have HX7 : Hid (Blk W7 b4 65 #[.int .i64 g0, .int .i64 g1, .int .i64 g2, .int .i64 g3]) := by rw [hW7, hb4]; exact Blk.new wr 65 _
   have HB7 : Hid (Below w.heap.size w W7) := by rw [hW7]; exact HBR.out.alloc HBR.out.size _
   have HBZ := HB7; have HK7 : Hid (Blk W7 b1 31 (#[.int .i64 c.riv.depth.lo, .int .i64 c.riv.depth.hi, .int .i64 c.riv.fall.lo, .int .i64 c.riv.fall.hi, .int .i64 c.riv.days, .slice fa fl fc, .slice la ll lc, .int .i64 c.draws, .slice (some ⟨b, off, none⟩) wn wc, .slice ta tn tc])) := by rw [hW7]; exact HKR.out.alloc _
   rw [← hW7, ← hb4]; have y0 := HX7.out.cell 0; have y1 := HX7.out.cell 1; have y2 := HX7.out.cell 2; have y3 := HX7.out.cell 3; have yl := HX7.out.lt; simp at y0 y1 y2 y3; clear hW7 hb4 H0 H1 H2 H3 q0 q1 q2 q3 q4 q5 q6 q7 q8 q9 ql; go_wp2_with fail; refine (cin_any g0 0 10 W7).mono ?_
   cases k1 : inB g0 0 10
   ·have HN : Hid (okC c = false) := by
     show _ = _
     rw [HOK.out, all_no HM.out (wagB_no (fun h => by have := inB_no k1; simp only at h; omega))]; simp
    clear k1; rintro e w' ⟨rfl, rfl⟩; go_wp2; go_ret
    exact ⟨ret_bool HN.out.symm, HBZ.out⟩
   rintro e w' ⟨rfl, hw⟩; obtain rfl : W7 = w' := hw.symm; clear hw; go_wp2_with fail; refine (cin_any g1 1 g2 W7).mono ?_
   cases k2 : inB g1 1 g2
   ·have HN : Hid (okC c = false) := by
     show _ = _
     rw [HOK.out, all_no HM.out (wagB_no (fun h => by have := inB_no k2; simp only at h; omega))]; simp
    clear k1 k2; rintro e w' ⟨rfl, rfl⟩; go_wp2; go_ret
    exact ⟨ret_bool HN.out.symm, HBZ.out⟩
   rintro e w' ⟨rfl, hw⟩; obtain rfl : W7 = w' := hw.symm; clear hw
   by_cases k3 : g2 ≤ 6
   case neg =>
    have hd : decide ((6 : Int) < g2) = true := by simp; omega
    have HN : Hid (okC c = false) := by
     show _ = _
     rw [HOK.out, all_no HM.out (wagB_no (fun h => by simp only at h; omega))]; simp
    clear k1 k2 k3; go_wp2; go_ret
    exact ⟨ret_bool HN.out.symm, HBZ.out⟩
   have hd : decide ((6 : Int) < g2) = false := by simp; omega
   go_wp2_with fail; refine (cin_any g3 0 30 W7).mono ?_
   cases k4 : inB g3 0 30
   ·have HN : Hid (okC c = false) := by
     show _ = _
     rw [HOK.out, all_no HM.out (wagB_no (fun h => by have := inB_no k4; simp only at h; omega))]; simp
    clear k1 k2 k3 k4; rintro e w' ⟨rfl, rfl⟩; go_wp2; go_ret
    exact ⟨ret_bool HN.out.symm, HBZ.out⟩
   rintro e w' ⟨rfl, hw⟩; obtain rfl : W7 = w' := hw.symm; clear hw; have HN := Lib.hid (take_all HC.out HT.out (wagB_iff.2 (by have := inB_iff.1 k1; have := inB_iff.1 k2; have := inB_iff.1 k4; simp only; omega)))
   clear k1 k2 k3 k4; go_wp2; go_roundw
   case rel => exact ⟨k + 1, by omega, by go_num, HN, HB7, HK7⟩
   case measure => simp [intOf]; omega
  ·obtain rfl : wn = k := by omega
   have HFW : Hid (c.wg.all wagB = true) := by have h := HT.out; rwa [← HEW.out, List.take_length] at h
   go_wp2; clear HT
   clear q0 q1 q2 q3 q4 q5 q6 q7 q8 q9 ql
   go_loopw [5] (fun i wq => ∃ k : Nat, k ≤ tn ∧ i = .int .i64 k ∧ Hid ((c.lt.take k).all lotB = true) ∧ Hid (Below w.heap.size w wq) ∧ Hid (Blk wq b1 31 #[.int .i64 c.riv.depth.lo, .int .i64 c.riv.depth.hi, .int .i64 c.riv.fall.lo, .int .i64 c.riv.fall.hi, .int .i64 c.riv.days, .slice fa fl fc, .slice la ll lc, .int .i64 c.draws, .slice wa wn wc, .slice ta tn tc])) (fun i _ => tn - (intOf i).toNat)
   case atStart => exact ⟨0, Nat.zero_le _, rfl, by show _ = _; simp, HBR, HKR⟩
   clear HBR HKR
   case round =>
    obtain ⟨k, hk, rfl, HT, HBR, HKR⟩ := hrel; have hx := HKR.out; obtain ⟨q0, q1, q2, q3, q4, q5, q6, q7, q8, q9, ql⟩ := cx31 hx; clear hx
    by_cases hlt : k < tn
    ·obtain ⟨l, hl⟩ : ∃ l, c.lt[k]? = some l := ⟨c.lt[k]'(by have := HET.out; omega), by simp⟩
     obtain ⟨b, off, hA, hbl, H0, H1, H2, H3, H4⟩ := rd_lt ((HP.out.grow HBR.out).hlt) k l hl; subst hA; have HC := Lib.hid hl; have HM := Lib.hid (List.mem_of_getElem? hl); obtain ⟨l0, l1, l2, l3, l4⟩ := l; simp only at H0 H1 H2 H3 H4; clear hl; go_upto_region 13 with (fail); obtain ⟨W7, hW7⟩ : ∃ W7, W7 = wr.alloc (.cells #[.int .i64 l0, .int .i64 l1, .int .i64 l2, .int .i64 l3, .int .i64 l4] 68) := ⟨_, rfl⟩; obtain ⟨b4, hb4⟩ : ∃ b, b = wr.heap.size := ⟨_, rfl⟩; have HX7 : Hid (Blk W7 b4 68 #[.int .i64 l0, .int .i64 l1, .int .i64 l2, .int .i64 l3, .int .i64 l4]) := by rw [hW7, hb4]; exact Blk.new wr 68 _
     have HB7 : Hid (Below w.heap.size w W7) := by rw [hW7]; exact HBR.out.alloc HBR.out.size _
     have HBZ := HB7; have HK7 : Hid (Blk W7 b1 31 (#[.int .i64 c.riv.depth.lo, .int .i64 c.riv.depth.hi, .int .i64 c.riv.fall.lo, .int .i64 c.riv.fall.hi, .int .i64 c.riv.days, .slice fa fl fc, .slice la ll lc, .int .i64 c.draws, .slice wa wn wc, .slice (some ⟨b, off, none⟩) tn tc])) := by rw [hW7]; exact HKR.out.alloc _
     rw [← hW7, ← hb4]; have y0 := HX7.out.cell 0; have y1 := HX7.out.cell 1; have y2 := HX7.out.cell 2; have y3 := HX7.out.cell 3; have y4 := HX7.out.cell 4; have yl := HX7.out.lt; simp at y0 y1 y2 y3 y4; clear hW7 hb4 H0 H1 H2 H3 H4 q0 q1 q2 q3 q4 q5 q6 q7 q8 q9 ql; go_wp2_with fail; refine (cin_any l0 0 10 W7).mono ?_
     cases k1 : inB l0 0 10
     ·have HN : Hid (okC c = false) := by
       show _ = _
       rw [HOK.out, all_no HM.out (lotB_no (fun h => by have := inB_no k1; simp only at h; omega))]; simp
      clear k1; rintro e w' ⟨rfl, rfl⟩; go_wp2; go_ret
      exact ⟨ret_bool HN.out.symm, HBZ.out⟩
     rintro e w' ⟨rfl, hw⟩; obtain rfl : W7 = w' := hw.symm; clear hw; go_wp2_with fail; refine (cin_any l1 1 20 W7).mono ?_
     cases k2 : inB l1 1 20
     ·have HN : Hid (okC c = false) := by
       show _ = _
       rw [HOK.out, all_no HM.out (lotB_no (fun h => by have := inB_no k2; simp only at h; omega))]; simp
      clear k1 k2; rintro e w' ⟨rfl, rfl⟩; go_wp2; go_ret
      exact ⟨ret_bool HN.out.symm, HBZ.out⟩
     rintro e w' ⟨rfl, hw⟩; obtain rfl : W7 = w' := hw.symm; clear hw; go_wp2_with fail; refine (cin_any l2 0 50 W7).mono ?_
     cases k3 : inB l2 0 50
     ·have HN : Hid (okC c = false) := by
       show _ = _
       rw [HOK.out, all_no HM.out (lotB_no (fun h => by have := inB_no k3; simp only at h; omega))]; simp
      clear k1 k2 k3; rintro e w' ⟨rfl, rfl⟩; go_wp2; go_ret
      exact ⟨ret_bool HN.out.symm, HBZ.out⟩
     rintro e w' ⟨rfl, hw⟩; obtain rfl : W7 = w' := hw.symm; clear hw; go_wp2_with fail; refine (cin_any l3 0 20 W7).mono ?_
     cases k4 : inB l3 0 20
     ·have HN : Hid (okC c = false) := by
       show _ = _
       rw [HOK.out, all_no HM.out (lotB_no (fun h => by have := inB_no k4; simp only at h; omega))]; simp
      clear k1 k2 k3 k4; rintro e w' ⟨rfl, rfl⟩; go_wp2; go_ret
      exact ⟨ret_bool HN.out.symm, HBZ.out⟩
     rintro e w' ⟨rfl, hw⟩; obtain rfl : W7 = w' := hw.symm; clear hw; go_wp2_with fail; refine (cin_any l4 0 l2 W7).mono ?_
     cases k5 : inB l4 0 l2
     ·have HN : Hid (okC c = false) := by
       show _ = _
       rw [HOK.out, all_no HM.out (lotB_no (fun h => by have := inB_no k5; simp only at h; omega))]; simp
      clear k1 k2 k3 k4 k5; rintro e w' ⟨rfl, rfl⟩; go_wp2; go_ret
      exact ⟨ret_bool HN.out.symm, HBZ.out⟩
     rintro e w' ⟨rfl, hw⟩; obtain rfl : W7 = w' := hw.symm; clear hw; have HN := Lib.hid (take_all HC.out HT.out (lotB_iff.2 (by have := inB_iff.1 k1; have := inB_iff.1 k2; have := inB_iff.1 k3; have := inB_iff.1 k4; have := inB_iff.1 k5; simp only; omega)))
     clear k1 k2 k3 k4 k5; go_wp2; go_roundw
     case rel => exact ⟨k + 1, by omega, by go_num, HN, HB7, HK7⟩
     case measure => simp [intOf]; omega
    ·obtain rfl : tn = k := by omega
     have HN : Hid (okC c = true) := by show _ = _; have h := HT.out; rw [← HET.out, List.take_length] at h; rw [HOK.out, HHT.out, HFW.out, h]; rfl
     have HBZ := HBR; go_wp2; go_ret
     exact ⟨ret_bool HN.out.symm, HBZ.out⟩
end
end Go.Proofs.YtgmfhngcehkibaaGreat
namespace Go.HavG
open Go.RowKit Go.Hav
theorem wpIn_region_stg {P : Program} {ops : Array Oper} {Q : Exit → Act → World → Prop} (I : World → Prop) (π : List (Nat × Bool)) (τ : List Nat) (Qp : List PanicEntry → World → Prop) {l n id : Nat} {a : Act} {w : World} (hm : P.follows .mixedOrders = true) (hok : havOk ops π τ = true)
  (hnd : noDefer ops = true) (hlo : ¬ LetsOut Q) (hQ : ∀ ch a' w', Agree ops (π.map (·.1)) a a' → Qp ch w' → Q (.panic ch) a' w') (hI : I w.drew)
  (h : wpStg P ops I Qp (fun a w => wpList P ops Q (τ.filterMap (ops[·]?)) a w) π a w.drew) : (Code.region id ops true).wpIn (Fence.wide.inRound l) n P Q a w := by
 simp only [havOk, Bool.and_eq_true, List.all_eq_true, List.mem_range, Bool.or_eq_true, List.any_eq_true, beq_iff_eq, decide_eq_true_eq, bne_iff_ne, List.contains_iff_mem] at hok; obtain ⟨c1, c2, c3, c4, c5, ⟨c6, c7⟩, c8, c9⟩ := hok
 have hlow : ∀ i o e, ops[i]? = some o → e ∈ o.after → Region.binds .any e = true → e.on < i := fun i o e ho he hb => by
  have h1 := c9 i (Array.getElem?_eq_some_iff.1 ho).1; simp only [ho, Array.all_eq_true_iff_forall_mem, Bool.or_eq_true, Bool.not_eq_true', decide_eq_true_eq] at h1; exact (h1 e he).resolve_left (by simp [hb])
 refine wpIn_region_any hm (wpAny_in (noDefer_spec hnd) hlo _ _ _ _ ?_); rw [← c8]
 refine stg_any (a0 := a) (Qp := Qp) c1 hlow hQ τ c3 c7 π.length π _ a _ rfl (by simp [c8]) ?_ c2 c4 c6 (fun x hx => List.mem_map.2 ⟨x, hx, rfl⟩) (fun i hi => ?_) hI ⟨rfl, rfl, fun _ _ => rfl⟩ h
 ·intro i o e _ hl
  simp [Array.getD_eq_getD_getElem?, Array.getElem?_replicate] at hl
  split at hl <;> simp at hl
 ·have hr : ¬ (Array.replicate (π.length + τ.length) false).getD i false = true := by
   simp [Array.getD_eq_getD_getElem?, Array.getElem?_replicate]
   split <;> rfl
  refine ⟨fun _ => ?_, fun _ => by simpa [c8] using hr⟩
  rcases c5 i hi with ⟨x, hx, he⟩ | hx
  ·exact .inl (List.mem_map.2 ⟨x, hx, he⟩)
  ·exact .inr hx
theorem stg_store {P : Program} {ops : Array Oper} {I : World → Prop} {Qp : List PanicEntry → World → Prop} {Cont : Act → World → Prop} {i : Nat} {rest : List (Nat × Bool)} {a : Act} {w w' : World} {o : Oper} (ho : ops[i]? = some o) (hd : o.dst = none) (hw : Region.wanted o (yielded ops a.tmps) = true)
  (h0 : (execOp a.eval o).run P w = .ok .skip w') (hI : I w') (h1 : wpStg P ops I Qp Cont rest a w') : wpStg P ops I Qp Cont ((i, true) :: rest) a w :=
 ⟨o, ho, by
  simp only [if_true]
  exact Obl.of_K fun K hK => by
   unfold stepOf Oper.wp; rw [if_pos hw, h0]
   exact hK undef w' trivial ⟨hI, by rw [hd]; exact h1⟩⟩
end Go.HavG
