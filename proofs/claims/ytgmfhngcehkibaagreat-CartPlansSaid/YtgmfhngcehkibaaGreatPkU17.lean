import Derived.Test.YtgmfhngcehkibaaGreatPkU16
set_option maxRecDepth 100000
set_option maxHeartbeats 6400000
namespace Go.Proofs.YtgmfhngcehkibaaGreat
open Go.RowKit Go.Hav Go.Shelf Go.Sq
attribute [local go_sem] Oper.semAt_some
theorem cin_any (n lo hi : Int) (w : World) : Calls Tryz.prog 86 #[.int .i64 n, .int .i64 lo, .int .i64 hi] w fun e w' => e = .returned (.bool (inB n lo hi)) ∧ w' = w := by
 cases h : decide (lo ≤ n)
 ·have hr : inB n lo hi = false := by simp [inB, h]
  go_enter Tryz.func86, Tryz.ntmps86
  go_wp2; go_ret
  exact ⟨ret_bool hr.symm, rfl⟩
 ·have hr : inB n lo hi = decide (n ≤ hi) := by simp [inB, h]
  go_enter Tryz.func86, Tryz.ntmps86
  go_wp2; go_ret
  exact ⟨ret_bool hr.symm, rfl⟩
theorem cpower_any (n : Nat) (hn : n ≤ 40) (w : World) : Calls Tryz.prog 83 #[.int .i64 n] w fun e w' => e = .returned (.int .i64 (2 ^ n)) ∧ w' = w := by
 go_enter Tryz.func83, Tryz.ntmps83
 go_wp2
 go_loopw [3, 4] (fun x i wr => ∃ (k : Nat) (t : Int), k ≤ n ∧ i = .int .i64 k ∧ x = .int .i64 t ∧ Hid (t = 2 ^ k) ∧ wr = w) (fun _ i _ => n - (intOf i).toNat)
 case atStart => exact ⟨0, 1, Nat.zero_le _, rfl, rfl, rfl, rfl⟩
 case round =>
  obtain ⟨k, t, hk, rfl, rfl, HT, rfl⟩ := hrel; have hb := pow_le60 k (by omega)
  rw [← HT.out] at hb; obtain ⟨hb0, hb1⟩ := hb
  by_cases hlt : k < n
  ·go_wp2; go_roundw
   case rel => exact ⟨k + 1, 2 * t, by omega, by go_num, rfl, by show _ = _; rw [HT.out]; exact (Int.pow_succ' 2 k).symm, trivial⟩
   case measure => simp [intOf]; omega
  ·obtain rfl : n = k := by omega
   go_wp2; go_ret
   exact ⟨ret_int HT.out, rfl⟩
theorem wagB_no {g : IWag} (h : ¬ (0 ≤ g.leaves ∧ g.leaves ≤ 10 ∧ 1 ≤ g.takes.lo ∧ g.takes.lo ≤ g.takes.hi ∧ g.takes.hi ≤ 6 ∧ 0 ≤ g.room ∧ g.room ≤ 30)) : wagB g = false := by
 cases e : wagB g
 ·rfl
 ·exact absurd (wagB_iff.1 e) h
theorem lotB_no {l : ILot} (h : ¬ (0 ≤ l.from_ ∧ l.from_ ≤ 10 ∧ 1 ≤ l.bales ∧ l.bales ≤ 20 ∧ 0 ≤ l.price ∧ l.price ≤ 50 ∧ 0 ≤ l.until_ ∧ l.until_ ≤ 20 ∧ 0 ≤ l.less ∧ l.less ≤ l.price)) : lotB l = false := by
 cases e : lotB l
 ·rfl
 ·exact absurd (lotB_iff.1 e) h
theorem inB_no {n a b : Int} (h : inB n a b = false) : ¬ (a ≤ n ∧ n ≤ b) := fun e => by rw [inB_iff.2 e] at h; cases h
theorem rcomes_any (l0 l1 l2 l3 : Int) (h0 : 0 ≤ l0 ∧ l0 ≤ 10) (h1 : 0 ≤ l1 ∧ l1 ≤ 6) (h2 : 0 ≤ l2 ∧ l2 ≤ 6) (w : World) :
  Calls Tryz.prog 49 #[.agg #[.int .i64 l0, .int .i64 l1, .int .i64 l2, .int .i64 l3]] w fun e w' => e = .returned (.agg #[.int .i64 (l0 + l1), .int .i64 (l0 + l2)]) ∧ Below w.heap.size w w' := by
 obtain ⟨a0, a1⟩ := h0; obtain ⟨a2, a3⟩ := h1; obtain ⟨a4, a5⟩ := h2; have u1 : IntKind.i64.wrap (l0 + l1) = l0 + l1 := IntWalk.i64_in _ (by omega)
 have u2 : IntKind.i64.wrap (l0 + l2) = l0 + l2 := IntWalk.i64_in _ (by omega)
 obtain ⟨W, hW⟩ : ∃ W, W = (w.alloc (.cells #[.int .i64 l0, .int .i64 l1, .int .i64 l2, .int .i64 l3] 65)).alloc (.cells #[.int .i64 0, .int .i64 0] 23) := ⟨_, rfl⟩; obtain ⟨b1, hb1⟩ : ∃ b, b = w.heap.size := ⟨_, rfl⟩; obtain ⟨b2, hb2⟩ : ∃ b, b = w.heap.size + 1 := ⟨_, rfl⟩; have HX : Hid (Blk W b1 65 #[.int .i64 l0, .int .i64 l1, .int .i64 l2, .int .i64 l3]) := by rw [hW, hb1]; exact (Blk.new w 65 _).alloc _
 have HY : Hid (Blk W b2 23 #[.int .i64 0, .int .i64 0]) := by rw [hW, hb2]; exact Blk.new_ (by simp) 23 _
 have HB : Hid (Below w.heap.size w W) := by rw [hW]; exact ((Below.refl _ _).alloc (Nat.le_refl _) _).alloc (by simp) _
 have hn : w.heap.size ≤ b2 := by omega
 go_enter Tryz.func49, Tryz.ntmps49
 go_upto_region 1 with (fail); rw [← hb2, ← hb1, ← hW]; clear hW hb1 hb2; have x0 := HX.out.cell 0; have x1 := HX.out.cell 1; have x2 := HX.out.cell 2; have xl := HX.out.lt; have y0 := HY.out.cell 0; have y1 := HY.out.cell 1; have f0 := HY.out.frozen 0; have f1 := HY.out.frozen 1; have yl := HY.out.lt; simp at x0 x1 x2 y0 y1; go_wp2; obtain ⟨W9, hW9⟩ : ∃ W9, W9 = (W.setCell ⟨b2, 0, none⟩ (.int .i64 (l0 + l1))).setCell ⟨b2, 1, none⟩ (.int .i64 (l0 + l2)) := ⟨_, rfl⟩; rw [← hW9]; have hk : Blk W9 b2 23 #[.int .i64 (l0 + l1), .int .i64 (l0 + l2)] := by rw [hW9]; have h := (HY.out.set_ 0 (.int .i64 (l0 + l1))).set_ 1 (.int .i64 (l0 + l2)); simpa using h
 have hb9 : Below w.heap.size w W9 := by rw [hW9]; exact (HB.out.setCell (p := ⟨b2, 0, none⟩) hn _).setCell (p := ⟨b2, 1, none⟩) hn _
 have g0 := hk.cell 0; have g1 := hk.cell 1; simp at g0 g1; exact bodyPost_ret (by simp [results, Tryz.results49, go_sem, g0, g1]) rfl ⟨rfl, hb9⟩
section
variable {fa la wa ta : Option Addr} {fl fc ll lc wn wc tn tc : Nat} {c : ICart}
variable {w : World}
theorem rcart_any (w : World) (hP : CtIn w w.heap.size fa fl la ll wa wn ta tn c) : Calls Tryz.prog 33 #[(.agg #[.int .i64 c.riv.depth.lo, .int .i64 c.riv.depth.hi, .int .i64 c.riv.fall.lo, .int .i64 c.riv.fall.hi, .int .i64 c.riv.days, .slice fa fl fc, .slice la ll lc, .int .i64 c.draws, .slice wa wn wc, .slice ta tn tc])] w fun e w' => e = .returned (.bool (okC c)) ∧ Below w.heap.size w w' := by
 have HP := Lib.hid hP; have HEW := Lib.hid hP.ewn; have HET := Lib.hid hP.etn; have m1 := hP.mwn; have m2 := hP.mtn; clear hP; obtain ⟨W, hW⟩ : ∃ W, W = w.alloc (.cells #[.int .i64 c.riv.depth.lo, .int .i64 c.riv.depth.hi, .int .i64 c.riv.fall.lo, .int .i64 c.riv.fall.hi, .int .i64 c.riv.days, .slice fa fl fc, .slice la ll lc, .int .i64 c.draws, .slice wa wn wc, .slice ta tn tc] 31) := ⟨_, rfl⟩; obtain ⟨b1, hb1⟩ : ∃ b, b = w.heap.size := ⟨_, rfl⟩; have HK : Hid (Blk W b1 31 #[.int .i64 c.riv.depth.lo, .int .i64 c.riv.depth.hi, .int .i64 c.riv.fall.lo, .int .i64 c.riv.fall.hi, .int .i64 c.riv.days, .slice fa fl fc, .slice la ll lc, .int .i64 c.draws, .slice wa wn wc, .slice ta tn tc]) := by rw [hW, hb1]; exact Blk.new w 31 _
 have HB0 : Hid (Below w.heap.size w W) := by rw [hW]; exact (Below.refl _ _).alloc (Nat.le_refl _) _
 have hx := HK.out; obtain ⟨q0, q1, q2, q3, q4, q5, q6, q7, q8, q9, ql⟩ := cx31 hx; have HOK : Hid (okC c = (headC c && c.wg.all wagB && c.lt.all lotB)) := rfl; have HHD : Hid (headC c = (okR c.riv && (isDrB c.draws && (decide (c.wg.length ≤ 3) && decide (c.lt.length ≤ 5))))) := rfl
 go_enter Tryz.func33, Tryz.ntmps33
 go_upto_region 1 with (fail); rw [← hW, ← hb1]; have HPW := Lib.hid (HP.out.grow HB0.out); clear hW hb1; go_wp2_with fail; refine (rriver_any (fc := fc) (lc := lc) W HPW.out.riv).mono ?_
 cases h1 : okR c.riv
 ·have HN : Hid (okC c = false) := by show _ = _; rw [HOK.out, HHD.out, h1]; rfl
  clear h1; rintro e w1 ⟨rfl, hb⟩; have HBZ : Hid (Below w.heap.size w w1) := HB0.out.trans (hb.mono HB0.out.size); clear hb; go_wp2; go_ret
  exact ⟨ret_bool HN.out.symm, HBZ.out⟩
 rintro e w1 ⟨rfl, hb⟩; have HB1 : Hid (Below w.heap.size w w1) := HB0.out.trans (hb.mono HB0.out.size); have HK1 : Hid (Blk w1 b1 31 #[.int .i64 c.riv.depth.lo, .int .i64 c.riv.depth.hi, .int .i64 c.riv.fall.lo, .int .i64 c.riv.fall.hi, .int .i64 c.riv.days, .slice fa fl fc, .slice la ll lc, .int .i64 c.draws, .slice wa wn wc, .slice ta tn tc]) := HK.out.below hb HK.out.lt; clear hb hx; clear q0 q1 q2 q3 q4 q5 q6 q7 q8 q9 ql; have hx := HK1.out; obtain ⟨q0, q1, q2, q3, q4, q5, q6, q7, q8, q9, ql⟩ := cx31 hx; go_wp2_with fail; refine (rdraws_any c.draws w1).mono ?_
 cases h2 : isDrB c.draws
 ·have HN : Hid (okC c = false) := by show _ = _; rw [HOK.out, HHD.out, h1, h2]; rfl
  clear h1 h2; rintro e w2 ⟨rfl, hb⟩; have HBZ : Hid (Below w.heap.size w w2) := HB1.out.trans (hb.mono HB1.out.size); clear hb; go_wp2; go_ret
  exact ⟨ret_bool HN.out.symm, HBZ.out⟩
 rintro e w2 ⟨rfl, hb⟩; have HB2 : Hid (Below w.heap.size w w2) := HB1.out.trans (hb.mono HB1.out.size); have HK2 : Hid (Blk w2 b1 31 #[.int .i64 c.riv.depth.lo, .int .i64 c.riv.depth.hi, .int .i64 c.riv.fall.lo, .int .i64 c.riv.fall.hi, .int .i64 c.riv.days, .slice fa fl fc, .slice la ll lc, .int .i64 c.draws, .slice wa wn wc, .slice ta tn tc]) := HK1.out.below hb HK1.out.lt; clear hb hx HK1; clear q0 q1 q2 q3 q4 q5 q6 q7 q8 q9 ql; have hx := HK2.out; obtain ⟨q0, q1, q2, q3, q4, q5, q6, q7, q8, q9, ql⟩ := cx31 hx; clear hx
 by_cases hfl : wn ≤ 3
 case neg =>
  have HN : Hid (okC c = false) := by show _ = _; rw [HOK.out, HHD.out]; simp; intros; have := HEW.out; omega
  have hd : decide ((3 : Int) < wn) = true := by simp; omega
  have HBZ := HB2; go_wp2; go_ret
  exact ⟨ret_bool HN.out.symm, HBZ.out⟩
 have hd : decide ((3 : Int) < wn) = false := by simp; omega
 by_cases hll : tn ≤ 5
 case neg =>
  have HN : Hid (okC c = false) := by show _ = _; rw [HOK.out, HHD.out]; simp; intros; have := HET.out; omega
  have hd5 : decide ((5 : Int) < tn) = true := by simp; omega
  have HBZ := HB2; go_wp2; go_ret
  exact ⟨ret_bool HN.out.symm, HBZ.out⟩
 have hd5 : decide ((5 : Int) < tn) = false := by simp; omega
 have HHT : Hid (headC c = true) := by show _ = _; rw [HHD.out, h1, h2]; simp; have := HEW.out; have := HET.out; omega
 clear h1 h2; go_wp2; clear hd hd5; clear q0 q1 q2 q3 q4 q5 q6 q7 q8 q9 ql
 go_loopw [3] (fun i wr => ∃ k : Nat, k ≤ wn ∧ i = .int .i64 k ∧ Hid ((c.wg.take k).all wagB = true) ∧ Hid (Below w.heap.size w wr) ∧ Hid (Blk wr b1 31 #[.int .i64 c.riv.depth.lo, .int .i64 c.riv.depth.hi, .int .i64 c.riv.fall.lo, .int .i64 c.riv.fall.hi, .int .i64 c.riv.days, .slice fa fl fc, .slice la ll lc, .int .i64 c.draws, .slice wa wn wc, .slice ta tn tc])) (fun i _ => wn - (intOf i).toNat)
 case atStart => exact ⟨0, Nat.zero_le _, rfl, by show _ = _; simp, HB2, HK2⟩
 case round =>
  obtain ⟨k, hk, rfl, HT, HBR, HKR⟩ := hrel; have hx := HKR.out; obtain ⟨q0, q1, q2, q3, q4, q5, q6, q7, q8, q9, ql⟩ := cx31 hx; clear hx
  by_cases hlt : k < wn
  ·obtain ⟨g, hg⟩ : ∃ g, c.wg[k]? = some g := ⟨c.wg[k]'(by have := HEW.out; omega), by simp⟩
   obtain ⟨b, off, hA, hbl, H0, H1, H2, H3⟩ := rd_wg ((HP.out.grow HBR.out).hwg) k g hg; subst hA; have HC := Lib.hid hg; have HM := Lib.hid (List.mem_of_getElem? hg); obtain ⟨g0, ⟨g1, g2⟩, g3⟩ := g; simp only at H0 H1 H2 H3; clear hg; go_upto_region 7 with (fail); obtain ⟨W7, hW7⟩ : ∃ W7, W7 = wr.alloc (.cells #[.int .i64 g0, .int .i64 g1, .int .i64 g2, .int .i64 g3] 65) := ⟨_, rfl⟩; obtain ⟨b4, hb4⟩ : ∃ b, b = wr.heap.size := ⟨_, rfl⟩; have HX7 : Hid (Blk W7 b4 65 #[.int .i64 g0, .int .i64 g1, .int .i64 g2, .int .i64 g3]) := by rw [hW7, hb4]; exact Blk.new wr 65 _
   have HB7 : Hid (Below w.heap.size w W7) := by rw [hW7]; exact HBR.out.alloc HBR.out.size _
   have HBZ := HB7; have HK7 : Hid (Blk W7 b1 31 (#[.int .i64 c.riv.depth.lo, .int .i64 c.riv.depth.hi, .int .i64 c.riv.fall.lo, .int .i64 c.riv.fall.hi, .int .i64 c.riv.days, .slice fa fl fc, .slice la ll lc, .int .i64 c.draws, .slice (some ⟨b, off, none⟩) wn wc, .slice ta tn tc])) := by rw [hW7]; exact HKR.out.alloc _
   rw [← hW7, ← hb4]; have y0 := HX7.out.cell 0; have y1 := HX7.out.cell 1; have y2 := HX7.out.cell 2; have y3 := HX7.out.cell 3; have yl := HX7.out.lt; simp at y0 y1 y2 y3; clear hW7 hb4 H0 H1 H2 H3 q0 q1 q2 q3 q4 q5 q6 q7 q8 q9 ql; go_wp2_with fail; refine (cin_any g0 0 10 W7).mono ?_
   cases k1 : inB g0 0 10
   ·have HN : Hid (okC c = false) := by
     show _ = _
     rw [HOK.out, all_no HM.out (wagB_no (fun h => by have := inB_no k1; simp only at h; omega))]; simp
    clear k1; rintro e w' ⟨rfl, rfl⟩; go_wp2; go_ret
    exact ⟨ret_bool HN.out.symm, HBZ.out⟩
   rintro e w' ⟨rfl, hw⟩; obtain rfl : W7 = w' := hw.symm; clear hw; go_wp2_with fail; refine (cin_any g1 1 g2 W7).mono ?_
   cases k2 : inB g1 1 g2
   ·have HN : Hid (okC c = false) := by
     show _ = _
     rw [HOK.out, all_no HM.out (wagB_no (fun h => by have := inB_no k2; simp only at h; omega))]; simp
    clear k1 k2; rintro e w' ⟨rfl, rfl⟩; go_wp2; go_ret
    exact ⟨ret_bool HN.out.symm, HBZ.out⟩
   rintro e w' ⟨rfl, hw⟩; obtain rfl : W7 = w' := hw.symm; clear hw
   by_cases k3 : g2 ≤ 6
   case neg =>
    have hd : decide ((6 : Int) < g2) = true := by simp; omega
    have HN : Hid (okC c = false) := by
     show _ = _
     rw [HOK.out, all_no HM.out (wagB_no (fun h => by simp only at h; omega))]; simp
    clear k1 k2 k3; go_wp2; go_ret
    exact ⟨ret_bool HN.out.symm, HBZ.out⟩
   have hd : decide ((6 : Int) < g2) = false := by simp; omega
   go_wp2_with fail; refine (cin_any g3 0 30 W7).mono ?_
   cases k4 : inB g3 0 30
   ·have HN : Hid (okC c = false) := by
     show _ = _
     rw [HOK.out, all_no HM.out (wagB_no (fun h => by have := inB_no k4; simp only at h; omega))]; simp
    clear k1 k2 k3 k4; rintro e w' ⟨rfl, rfl⟩; go_wp2; go_ret
    exact ⟨ret_bool HN.out.symm, HBZ.out⟩
   rintro e w' ⟨rfl, hw⟩; obtain rfl : W7 = w' := hw.symm; clear hw; have HN := Lib.hid (take_all HC.out HT.out (wagB_iff.2 (by have := inB_iff.1 k1; have := inB_iff.1 k2; have := inB_iff.1 k4; simp only; omega)))
   clear k1 k2 k3 k4; go_wp2; go_roundw
   case rel => exact ⟨k + 1, by omega, by go_num, HN, HB7, HK7⟩
   case measure => simp [intOf]; omega
  ·obtain rfl : wn = k := by omega
   have HFW : Hid (c.wg.all wagB = true) := by have h := HT.out; rwa [← HEW.out, List.take_length] at h
   go_wp2; clear HT
   clear q0 q1 q2 q3 q4 q5 q6 q7 q8 q9 ql
   go_loopw [5] (fun i wq => ∃ k : Nat, k ≤ tn ∧ i = .int .i64 k ∧ Hid ((c.lt.take k).all lotB = true) ∧ Hid (Below w.heap.size w wq) ∧ Hid (Blk wq b1 31 #[.int .i64 c.riv.depth.lo, .int .i64 c.riv.depth.hi, .int .i64 c.riv.fall.lo, .int .i64 c.riv.fall.hi, .int .i64 c.riv.days, .slice fa fl fc, .slice la ll lc, .int .i64 c.draws, .slice wa wn wc, .slice ta tn tc])) (fun i _ => tn - (intOf i).toNat)
   case atStart => exact ⟨0, Nat.zero_le _, rfl, by show _ = _; simp, HBR, HKR⟩
   clear HBR HKR
   case round =>
    obtain ⟨k, hk, rfl, HT, HBR, HKR⟩ := hrel; have hx := HKR.out; obtain ⟨q0, q1, q2, q3, q4, q5, q6, q7, q8, q9, ql⟩ := cx31 hx; clear hx
    by_cases hlt : k < tn
    ·obtain ⟨l, hl⟩ : ∃ l, c.lt[k]? = some l := ⟨c.lt[k]'(by have := HET.out; omega), by simp⟩
     obtain ⟨b, off, hA, hbl, H0, H1, H2, H3, H4⟩ := rd_lt ((HP.out.grow HBR.out).hlt) k l hl; subst hA; have HC := Lib.hid hl; have HM := Lib.hid (List.mem_of_getElem? hl); obtain ⟨l0, l1, l2, l3, l4⟩ := l; simp only at H0 H1 H2 H3 H4; clear hl; go_upto_region 13 with (fail); obtain ⟨W7, hW7⟩ : ∃ W7, W7 = wr.alloc (.cells #[.int .i64 l0, .int .i64 l1, .int .i64 l2, .int .i64 l3, .int .i64 l4] 68) := ⟨_, rfl⟩; obtain ⟨b4, hb4⟩ : ∃ b, b = wr.heap.size := ⟨_, rfl⟩; have HX7 : Hid (Blk W7 b4 68 #[.int .i64 l0, .int .i64 l1, .int .i64 l2, .int .i64 l3, .int .i64 l4]) := by rw [hW7, hb4]; exact Blk.new wr 68 _
     have HB7 : Hid (Below w.heap.size w W7) := by rw [hW7]; exact HBR.out.alloc HBR.out.size _
     have HBZ := HB7; have HK7 : Hid (Blk W7 b1 31 (#[.int .i64 c.riv.depth.lo, .int .i64 c.riv.depth.hi, .int .i64 c.riv.fall.lo, .int .i64 c.riv.fall.hi, .int .i64 c.riv.days, .slice fa fl fc, .slice la ll lc, .int .i64 c.draws, .slice wa wn wc, .slice (some ⟨b, off, none⟩) tn tc])) := by rw [hW7]; exact HKR.out.alloc _
     rw [← hW7, ← hb4]; have y0 := HX7.out.cell 0; have y1 := HX7.out.cell 1; have y2 := HX7.out.cell 2; have y3 := HX7.out.cell 3; have y4 := HX7.out.cell 4; have yl := HX7.out.lt; simp at y0 y1 y2 y3 y4; clear hW7 hb4 H0 H1 H2 H3 H4 q0 q1 q2 q3 q4 q5 q6 q7 q8 q9 ql; go_wp2_with fail; refine (cin_any l0 0 10 W7).mono ?_
     cases k1 : inB l0 0 10
     ·have HN : Hid (okC c = false) := by
       show _ = _
       rw [HOK.out, all_no HM.out (lotB_no (fun h => by have := inB_no k1; simp only at h; omega))]; simp
      clear k1; rintro e w' ⟨rfl, rfl⟩; go_wp2; go_ret
      exact ⟨ret_bool HN.out.symm, HBZ.out⟩
     rintro e w' ⟨rfl, hw⟩; obtain rfl : W7 = w' := hw.symm; clear hw; go_wp2_with fail; refine (cin_any l1 1 20 W7).mono ?_
     cases k2 : inB l1 1 20
     ·have HN : Hid (okC c = false) := by
       show _ = _
       rw [HOK.out, all_no HM.out (lotB_no (fun h => by have := inB_no k2; simp only at h; omega))]; simp
      clear k1 k2; rintro e w' ⟨rfl, rfl⟩; go_wp2; go_ret
      exact ⟨ret_bool HN.out.symm, HBZ.out⟩
     rintro e w' ⟨rfl, hw⟩; obtain rfl : W7 = w' := hw.symm; clear hw; go_wp2_with fail; refine (cin_any l2 0 50 W7).mono ?_
     cases k3 : inB l2 0 50
     ·have HN : Hid (okC c = false) := by
       show _ = _
       rw [HOK.out, all_no HM.out (lotB_no (fun h => by have := inB_no k3; simp only at h; omega))]; simp
      clear k1 k2 k3; rintro e w' ⟨rfl, rfl⟩; go_wp2; go_ret
      exact ⟨ret_bool HN.out.symm, HBZ.out⟩
     rintro e w' ⟨rfl, hw⟩; obtain rfl : W7 = w' := hw.symm; clear hw; go_wp2_with fail; refine (cin_any l3 0 20 W7).mono ?_
     cases k4 : inB l3 0 20
     ·have HN : Hid (okC c = false) := by
       show _ = _
       rw [HOK.out, all_no HM.out (lotB_no (fun h => by have := inB_no k4; simp only at h; omega))]; simp
      clear k1 k2 k3 k4; rintro e w' ⟨rfl, rfl⟩; go_wp2; go_ret
      exact ⟨ret_bool HN.out.symm, HBZ.out⟩
     rintro e w' ⟨rfl, hw⟩; obtain rfl : W7 = w' := hw.symm; clear hw; go_wp2_with fail; refine (cin_any l4 0 l2 W7).mono ?_
     cases k5 : inB l4 0 l2
     ·have HN : Hid (okC c = false) := by
       show _ = _
       rw [HOK.out, all_no HM.out (lotB_no (fun h => by have := inB_no k5; simp only at h; omega))]; simp
      clear k1 k2 k3 k4 k5; rintro e w' ⟨rfl, rfl⟩; go_wp2; go_ret
      exact ⟨ret_bool HN.out.symm, HBZ.out⟩
     rintro e w' ⟨rfl, hw⟩; obtain rfl : W7 = w' := hw.symm; clear hw; have HN := Lib.hid (take_all HC.out HT.out (lotB_iff.2 (by have := inB_iff.1 k1; have := inB_iff.1 k2; have := inB_iff.1 k3; have := inB_iff.1 k4; have := inB_iff.1 k5; simp only; omega)))
     clear k1 k2 k3 k4 k5; go_wp2; go_roundw
     case rel => exact ⟨k + 1, by omega, by go_num, HN, HB7, HK7⟩
     case measure => simp [intOf]; omega
    ·obtain rfl : tn = k := by omega
     have HN : Hid (okC c = true) := by show _ = _; have h := HT.out; rw [← HET.out, List.take_length] at h; rw [HOK.out, HHT.out, HFW.out, h]; rfl
     have HBZ := HBR; go_wp2; go_ret
     exact ⟨ret_bool HN.out.symm, HBZ.out⟩
end
def hullK (l : List Nat) (i : Nat) : Nat × Nat := ((l.take i).foldl min (l.headD 0), (l.take i).foldl max (l.headD 0))
theorem hullK_next {l : List Nat} {i x : Nat} (h : l[i]? = some x) : hullK l (i + 1) = (min (hullK l i).1 x, max (hullK l i).2 x) := by
 unfold hullK; rw [List.take_add_one, h, List.foldl_append, List.foldl_append]
 rfl
theorem hullK_zero {l : List Nat} : hullK l 0 = (l.headD 0, l.headD 0) := rfl
theorem hullK_all {l : List Nat} (h : l ≠ []) : hullK l l.length = hullP l := by
 cases l with
 | nil => exact absurd rfl h
 | cons x l =>
  unfold hullK hullP; rw [List.take_length, List.foldl_cons, List.foldl_cons]; simp only [List.headD_cons, Nat.min_self, Nat.max_self]
theorem RowN.in_ {w : World} {A : Option Addr} {l : List Nat} (h : RowN nV 3 w A l) {k x b off : Nat} (hA : A = some ⟨b, off, none⟩) (hx : l[k]? = some x) : b < w.heap.size ∧ w.cell? ⟨b, off + k, none⟩ = some (.int .i64 x) := by
 obtain ⟨b', off', e, h1, h2⟩ := h.at_ hx; rw [hA] at e
 injection e with e
 injection e with e1 e2
 subst e1 e2; exact ⟨h1, h2⟩
section
variable {A : Option Addr} {N c : Nat} {l : List Nat}
theorem hull_any (hl : l.length = N) (h0 : 0 < N) (hN : N ≤ 400000) (hb : ∀ x ∈ l, x ≤ 100000) (w : World) (hR : RowN nV 3 w A l) :
  Calls Tryz.prog 148 #[.slice A N c] w fun e w' => e = .returned (.agg #[.int .i64 (hullP l).1, .int .i64 (hullP l).2]) ∧ Below w.heap.size w w' := by
 have HR := Lib.hid hR; have HL := Lib.hid hl; have HBD := Lib.hid hb; obtain ⟨x, hx⟩ : ∃ x, l[0]? = some x := ⟨_, List.getElem?_eq_getElem (by omega)⟩
 have hx1 := hb x (List.mem_of_getElem? hx); obtain ⟨b, off, rfl, hbl, H0⟩ := hR.at_ hx
 have HHD : Hid (hullK l 0 = (x, x)) := by
  show _ = _; rw [hullK_zero]
  cases l with
  | nil => cases hx
  | cons y l => injection hx with hx; subst hx; rfl
 obtain ⟨⟨E0, E1⟩, hE⟩ : ∃ e, hullP l = e := ⟨_, rfl⟩
 have HE : Hid (hullK l N = (E0, E1)) := by
  show _ = _
  rw [← HL.out, hullK_all (fun e => by rw [e] at hl; simp at hl; omega), hE]
 rw [hE]; simp only; rw [Nat.add_zero] at H0; have hN0 : (0 : Int) < N := by omega
 clear hR hl hb hx hE; obtain ⟨W, hW⟩ : ∃ W, W = w.alloc (.cells #[.int .i64 0, .int .i64 0] 23) := ⟨_, rfl⟩; have HX : Hid (Blk W w.heap.size 23 #[.int .i64 0, .int .i64 0]) := by rw [hW]; exact Blk.new w 23 _
 have HBW : Hid (Below w.heap.size w W) := by rw [hW]; exact (Below.refl _ _).alloc (Nat.le_refl _) _
 go_enter Tryz.func148, Tryz.ntmps148
 go_wp2_with fail; rw [← hW]
 clear hW; have H0W : W.cell? ⟨b, off, none⟩ = some (.int .i64 x) := (Below.cell HBW.out (p := ⟨b, off, none⟩) hbl).trans H0; have hbW : b < W.heap.size := Nat.lt_of_lt_of_le hbl HBW.out.size; clear H0; go_upto_region 1 with (fail)
 refine wp_region_havoc [(0,false),(1,false),(2,false),(3,false),(4,false),(5,false),(6,false),(7,true)] [8] (fun _ _ => False) (by kernel_rfl) (by kernel_rfl) (fun _ _ _ _ h => h.elim) ?_
 (apply hav_same (by exact ho rfl) (by kernel_rfl); (focus (intro wv hgv _; have hcv := cvB hgv; (try go_simp); try rfl; done)); simp only [Act.put, qA9, qB9, qC9])
 iterate 6 (apply hav_same (by exact ho rfl) (by kernel_rfl); (focus (intro wv hgv _; have hcv := cvB hgv; (try go_simp); try rfl; done)); simp only [Act.put, qA9, qB9, qC9])
 (apply hav_new (fun g => .pointer (some ⟨g, 0, none⟩)) (.cells #[.int .i64 0, .int .i64 0] 23) (by exact ho rfl) (by kernel_rfl); (focus (intro wv hgv _; have hcv := cvB hgv; (try go_simp); try rfl; done)); intro v; simp only [Act.put, qA9, qB9, qC9])
 refine hav_end (fun w5 hgw5 hF => ?_); simp only [List.filterMap]; have hcw5 : ∀ b o, b < _ → w5.cell? ⟨b, o, none⟩ = _ := fun b o hb => Below.cell hgw5 (p := ⟨b, o, none⟩) hb; have hfw5 : ∀ b o, b < _ → w5.frozen? ⟨b, o, none⟩ = _ := fun b o hb => Below.frozen hgw5 (p := ⟨b, o, none⟩) hb; have hzw5 := Below.size hgw5; (try simp at hzw5)
 obtain ⟨_, g, rfl, hg, hgb⟩ := hF; have hgb : Blk w5 g 23 #[.int .i64 0, .int .i64 0] := hgb; have HB5 : Hid (Below W.heap.size W w5) := hgw5; have k0 := hgb.cell 0; have k1 := hgb.cell 1; have f0 := hgb.frozen 0; have f1 := hgb.frozen 1; have kl := hgb.lt; simp at k0 k1; have HGB := Lib.hid hgb; clear hgb hgw5 hcw5 hfw5 H0W; have hgW : w.heap.size < g := Nat.lt_of_lt_of_le HX.out.lt hg; go_wp2; obtain ⟨Y, hY⟩ : ∃ Y, Y = (w5.setCell ⟨g, 0, none⟩ (.int .i64 x)).setCell ⟨g, 1, none⟩ (.int .i64 x) := ⟨_, rfl⟩; have HYB : Hid (Blk Y g 23 #[.int .i64 x, .int .i64 x]) := by rw [hY]; exact (HGB.out.set_ 0 (.int .i64 x)).set_ 1 (.int .i64 x)
 have HYW : Hid (Below W.heap.size W Y) := by rw [hY]; exact setCell_below (setCell_below HB5.out hg 0 _) hg 1 _
 rw [← hY]; clear hY k0 k1 f0 f1 kl HGB HB5
 go_loopw [4] (fun i wr => ∃ (k lo hi : Nat), k ≤ N ∧ i = .int .i64 k ∧ Hid (hullK l k = (lo, hi)) ∧ lo ≤ 100000 ∧ hi ≤ 100000 ∧ Hid (Blk wr g 23 #[.int .i64 lo, .int .i64 hi]) ∧ Hid (Below W.heap.size W wr)) (fun i _ => N - (intOf i).toNat)
 case atStart => exact ⟨0, x, x, Nat.zero_le _, rfl, HHD, by omega, by omega, HYB, HYW⟩
 case round =>
  obtain ⟨k, lo, hi, hk, rfl, HK, hlo, hhi, HG, HBX⟩ := hrel; have k0 := HG.out.cell 0; have k1 := HG.out.cell 1; have f0 := HG.out.frozen 0; have f1 := HG.out.frozen 1; have kl := HG.out.lt; simp at k0 k1
  by_cases hlt : k < N
  ·obtain ⟨y, hy⟩ : ∃ y, l[k]? = some y := ⟨_, List.getElem?_eq_getElem (by rw [HL.out]; exact hlt)⟩
   have hy1 := HBD.out y (List.mem_of_getElem? hy); have HNX := Lib.hid (hullK_next hy); rw [HK.out] at HNX; obtain ⟨hbr, H1⟩ := ((HR.out.below (HBW.out.trans (HBX.out.mono HBW.out.size))).in_ rfl hy); obtain ⟨ma, hma⟩ : ∃ m, min lo y = m := ⟨_, rfl⟩; obtain ⟨mb, hmb⟩ : ∃ m, max hi y = m := ⟨_, rfl⟩; simp only [hma, hmb] at HNX
   have hmn : ∀ w, (Builtin.min_ #[3, 3] 3 #[.int .i64 lo, .int .i64 y]).run Tryz.prog w = .ok (.int .i64 ma) w := fun w => by rw [min_run]; congr 2; omega
   have hmx : ∀ w, (Builtin.max_ #[3, 3] 3 #[.int .i64 hi, .int .i64 y]).run Tryz.prog w = .ok (.int .i64 mb) w := fun w => by rw [max_run]; congr 2; omega
   have ha1 : ma ≤ 100000 := by omega
   have hb1 : mb ≤ 100000 := by omega
   clear hy hma hmb; go_upto_region 5 with (fail)
   refine wp_region_havoc [(0,false),(1,false),(2,false),(3,false),(4,false),(5,false),(6,false),(7,false),(8,false),(9,false),(10,false),(11,false),(12,false),(13,false),(14,false)] [15] (fun _ _ => False) (by kernel_rfl) (by kernel_rfl) (fun _ _ _ _ h => h.elim) ?_
   (apply hav_same (by exact ho rfl) (by kernel_rfl); (focus (intro wv hgv _; have hcv := cvB hgv; (try go_simp); try rfl; done)); simp only [Act.put, qA9, qB9, qC9])
   iterate 14 (apply hav_same (by exact ho rfl) (by kernel_rfl); (focus (intro wv hgv _; have hcv := cvB hgv; (try go_simp); try rfl; done)); simp only [Act.put, qA9, qB9, qC9])
   refine hav_end (fun w6 hgw6 _ => ?_); simp only [List.filterMap]; have hcw6 : ∀ b o, b < _ → w6.cell? ⟨b, o, none⟩ = _ := fun b o hb => Below.cell hgw6 (p := ⟨b, o, none⟩) hb; have hfw6 : ∀ b o, b < _ → w6.frozen? ⟨b, o, none⟩ = _ := fun b o hb => Below.frozen hgw6 (p := ⟨b, o, none⟩) hb; have hzw6 := Below.size hgw6; (try simp at hzw6)
   have HG6 := Lib.hid (HG.out.below hgw6 HG.out.lt); have HB6 : Hid (Below W.heap.size W w6) := HBX.out.trans (hgw6.mono HBX.out.size); clear hgw6 hcw6 hfw6 k0 k1 f0 f1 kl H1 hmn hmx; have k0 := HG6.out.cell 0; have k1 := HG6.out.cell 1; have f0 := HG6.out.frozen 0; have f1 := HG6.out.frozen 1; have kl := HG6.out.lt; simp at k0 k1; go_wp2; go_roundw
   case rel => exact ⟨k + 1, ma, mb, by omega, by go_num, HNX, ha1, hb1, (HG6.out.set_ 0 (.int .i64 ma)).set_ 1 (.int .i64 mb), setCell_below (setCell_below HB6.out hg 0 _) hg 1 _⟩
   case measure => simp [intOf]; omega
  ·obtain rfl : N = k := by omega
   have HEE : Hid (lo = E0 ∧ hi = E1) := by
    have h := HK.out; rw [HE.out] at h
    injection h with h1 h2
    exact ⟨h1.symm, h2.symm⟩
   have hx6 := HX.out.below HBX.out HX.out.lt; have x0 := hx6.cell 0; have x1 := hx6.cell 1; have y0 := hx6.frozen 0; have y1 := hx6.frozen 1; have l6 := hx6.lt; simp at x0 x1; go_wp2; have hk := (hx6.set_ 0 (.int .i64 lo)).set_ 1 (.int .i64 hi); have z0 := hk.cell 0; have z1 := hk.cell 1; simp at z0 z1; refine bodyPost_ret (v := .agg #[.int .i64 lo, .int .i64 hi]) (by simp [results, Tryz.results148, go_sem, z0, z1]) rfl ⟨by rw [HEE.out.1, HEE.out.2], setCell_below (setCell_below (HBW.out.trans (HBX.out.mono HBW.out.size)) (Nat.le_refl _) 0 _) (Nat.le_refl _) 1 _⟩
end
section
variable {A : Option Addr} {N c n : Nat} {Ts : List Tr}
def depthT (Ts : List Tr) (day : Nat) : Nat × Nat := hullP (Ts.map (·.at_ day))
theorem at_bd {t : Tr} (h : t.Small n) {day : Nat} (hd : day ≤ 10) : t.at_ day ≤ 100000 := by
 unfold Tr.at_; rw [h.ds]; have := atF_bd h day
 omega
theorem depths_any (hl : Ts.length = N) (h0 : 0 < N) (hN : N ≤ 400000) (hS : ∀ t ∈ Ts, t.Small n) {day : Nat} (hd : day ≤ 10) (w : World) (hT : TrsIn w n A Ts) :
  Calls Tryz.prog 142 #[.slice A N c, .int .i64 day] w fun e w' => e = .returned (.agg #[.int .i64 (depthT Ts day).1, .int .i64 (depthT Ts day).2]) ∧ Below w.heap.size w w' := by
 have HT := Lib.hid hT; have HL := Lib.hid hl; have HS := Lib.hid hS; obtain ⟨i3, hi3, hz0, hz1, hz2⟩ := info_parts Tryz.infoE3; have HJ := Lib.hid hi3; have HJ0 := Lib.hid hz0; have HJ1 := Lib.hid hz1; have HJ2 := Lib.hid hz2; clear hi3 hz0 hz1 hz2 hT hl hS; obtain ⟨⟨E0, E1⟩, hE⟩ : ∃ e, depthT Ts day = e := ⟨_, rfl⟩; rw [hE]; have HE := Lib.hid hE; clear hE; simp only; obtain ⟨W, hW⟩ : ∃ W, W = w.alloc (.cells #[.int .i64 0, .int .i64 0] 23) := ⟨_, rfl⟩; have HX : Hid (Blk W w.heap.size 23 #[.int .i64 0, .int .i64 0]) := by rw [hW]; exact Blk.new w 23 _
 have HBW : Hid (Below w.heap.size w W) := by rw [hW]; exact (Below.refl _ _).alloc (Nat.le_refl _) _
 go_enter Tryz.func142, Tryz.ntmps142
 go_wp2_with fail; rw [← hW]
 clear hW; go_wp2
 go_loopw [5, 6] (fun sv i wr => ∃ (k : Nat) (ov : Value), ov = sv ∧ k ≤ N ∧ i = .int .i64 k ∧ Hid (wr.ownsRow W.heap.size 3 1 ov k (((Ts.take k).map (·.at_ day)).flatMap fun x => [nV x])) ∧ Hid (Below W.heap.size W wr)) (fun _ i _ => N - (intOf i).toNat)
 case atStart => exact ⟨0, _, rfl, Nat.zero_le _, rfl, own_nil _ _ _ _, Below.refl _ _⟩
 case round =>
  obtain ⟨k, ov, hov, hk, rfl, HO, HBX⟩ := hrel; subst hov; have HBR : Hid (Below w.heap.size w wr) := HBW.out.trans (HBX.out.mono HBW.out.size)
  by_cases hlt : k < N
  ·obtain ⟨t, ht⟩ : ∃ t, Ts[k]? = some t := ⟨_, List.getElem?_eq_getElem (by rw [HL.out]; exact hlt)⟩
   obtain ⟨b, off, dA, dc, rA, rc, hA, hbl, hti, H0, H1, H2, H3⟩ := (HT.out.below HBR.out) k t ht; subst hA; have HTS := Lib.hid (HS.out t (List.mem_of_getElem? ht)); have HTI := Lib.hid hti
   have HTK : Hid (((Ts.take (k + 1)).map (·.at_ day)).flatMap (fun x => [nV x]) = ((Ts.take k).map (·.at_ day)).flatMap (fun x => [nV x]) ++ [nV (t.at_ day)]) := by
    show _ = _; rw [List.take_add_one, ht, List.map_append, List.flatMap_append]
    rfl
   clear ht hti; go_wp2_with fail; refine (in_any (dc := dc) (rc := rc) HTS.out day hd wr HTI.out).mono ?_; rintro e Z ⟨rfl, hb⟩; have HBZ := Lib.hid hb; obtain ⟨v, hv⟩ : ∃ v, t.at_ day = v := ⟨_, rfl⟩; rw [hv] at HTK ⊢; clear hb hv H0 H1 H2 H3; have hZ : W.heap.size ≤ Z.heap.size := Nat.le_trans HBX.out.size HBZ.out.size; have hB1 : W.heap.size ≤ (Z.alloc (.cells #[.int .i64 v] 3)).heap.size := by simp; omega
   have HB1 : Hid (Below Z.heap.size Z (Z.alloc (.cells #[.int .i64 v] 3))) := (Below.refl _ _).alloc (Nat.le_refl _) _
   obtain ⟨yl, HYL⟩ : ∃ yl, Hid (((Ts.take k).map (·.at_ day)).flatMap (fun x => [nV x]) = yl) := ⟨_, rfl⟩
   have HOWN := Lib.hid (own_below (own_below HO.out HBZ.out) HB1.out); rw [HYL.out] at HOWN
   go_wp2_with (at_builtin; refine wpList_append_own _ rfl _ _ 32 rfl W.heap.size 3 i3 _ 1 8 Tryz.underlying32 HJ.out HJ0.out HJ1.out HJ2.out rfl (by decide) _ _ _ rfl HOWN.out ⟨Z.heap.size, 0, none⟩ 1 1 [.int .i64 v] rfl rfl (news_block (Blk.new Z 3 _)) (by simp [Value.oneCell']) (by unfold maxLen; omega) (by omega) hB1 ?_)
   intro v' w6 hown6 hgrow6 _
   have HO6 : Hid (w6.ownsRow W.heap.size 3 1 v' (k + 1) (((Ts.take (k + 1)).map (·.at_ day)).flatMap fun x => [nV x])) := by
    show World.ownsRow _ _ _ _ _ _ _; rw [HTK.out, HYL.out]; exact hown6
   have HB6 : Hid (Below W.heap.size W w6) := HBX.out.trans ((HBZ.out.mono HBX.out.size).trans ((HB1.out.mono hZ).trans (KT.own hB1 HOWN.out hgrow6).1)); clear hown6 hgrow6; go_wp2; go_roundw
   case rel => exact ⟨k + 1, _, rfl, by omega, by go_num, HO6, HB6⟩
   case measure => simp [intOf]; omega
  ·obtain rfl : N = k := by omega
   have hO := HO.out; rw [List.take_of_length_le (by rw [HL.out]; exact Nat.le_refl _)] at hO
   obtain ⟨A', c', -, rfl, hr, -⟩ := RowN.of_own hO (by rw [List.length_map, HL.out])
   have HR' := Lib.hid hr; clear hO hr; go_wp2_with fail
   refine (hull_any (by rw [List.length_map, HL.out]) h0 hN (fun x hx => by
    obtain ⟨t, ht, rfl⟩ := List.mem_map.1 hx
    exact at_bd (HS.out t ht) hd) wr HR'.out).mono ?_
   rw [show hullP (Ts.map (·.at_ day)) = (E0, E1) from HE.out]
   rintro e Z ⟨rfl, hb⟩; have HBZ : Hid (Below w.heap.size w Z) := HBR.out.trans (hb.mono HBR.out.size); have hx6 := (HX.out.below HBX.out HX.out.lt).below hb (Nat.lt_of_lt_of_le HX.out.lt HBX.out.size); clear hb; have x0 := hx6.cell 0; have x1 := hx6.cell 1; have y0 := hx6.frozen 0; have y1 := hx6.frozen 1; have l6 := hx6.lt; simp at x0 x1; simp only; go_wp2; have hk := (hx6.set_ 0 (.int .i64 E0)).set_ 1 (.int .i64 E1); have z0 := hk.cell 0; have z1 := hk.cell 1; simp at z0 z1; refine bodyPost_ret (v := .agg #[.int .i64 E0, .int .i64 E1]) (by simp [results, Tryz.results142, go_sem, z0, z1]) rfl ⟨rfl, setCell_below (setCell_below HBZ.out (Nat.le_refl _) 0 _) (Nat.le_refl _) 1 _⟩
def bearsT (Ts : List Tr) (draws day : Nat) : Nat := if draws ≤ (depthT Ts day).1 then 2 else if draws ≤ (depthT Ts day).2 then 1 else 0
theorem rbears_any (hl : Ts.length = N) (h0 : 0 < N) (hN : N ≤ 400000) (hS : ∀ t ∈ Ts, t.Small n) {day : Nat} (hd : day ≤ 10) (draws : Nat) (w : World) (hT : TrsIn w n A Ts) :
  Calls Tryz.prog 127 #[.slice A N c, .int .i64 draws, .int .i64 day] w fun e w' => e = .returned (.int .i64 (bearsT Ts draws day)) ∧ Below w.heap.size w w' := by
 have HT := Lib.hid hT; have HL := Lib.hid hl; have HS := Lib.hid hS; clear hT hl hS; obtain ⟨⟨E0, E1⟩, hE⟩ : ∃ e, depthT Ts day = e := ⟨_, rfl⟩; have HE : Hid (bearsT Ts draws day = if draws ≤ E0 then 2 else if draws ≤ E1 then 1 else 0) := by show _ = _; rw [bearsT, hE]
 obtain ⟨B, hB⟩ : ∃ B, bearsT Ts draws day = B := ⟨_, rfl⟩; rw [hB] at HE ⊢; have HD := Lib.hid hE; clear hE hB
 go_enter Tryz.func127, Tryz.ntmps127
 go_wp2_with fail; refine (depths_any HL.out h0 hN HS.out hd w HT.out).mono ?_
 rw [HD.out]; rintro e Z ⟨rfl, hb⟩; have HBZ := Lib.hid hb; clear hb; simp only; go_upto_region 2 with (fail); obtain ⟨W, hW⟩ : ∃ W, W = Z.alloc (.cells #[.int .i64 E0, .int .i64 E1] 23) := ⟨_, rfl⟩; have HX : Hid (Blk W Z.heap.size 23 #[.int .i64 E0, .int .i64 E1]) := by rw [hW]; exact Blk.new Z 23 _
 have HBW : Hid (Below w.heap.size w W) := by rw [hW]; exact HBZ.out.trans (((Below.refl _ _).alloc (Nat.le_refl _) _).mono HBZ.out.size)
 rw [← hW]; clear hW; have x0 := HX.out.cell 0; have x1 := HX.out.cell 1; have xl := HX.out.lt; simp at x0 x1
 by_cases h1 : draws ≤ E0
 ·have HB : Hid (B = 2) := by show _ = _; rw [HE.out, if_pos h1]
  go_wp2; go_ret
  exact ⟨ret_int (by rw [HB.out]; rfl), HBW.out⟩
 ·by_cases h2 : draws ≤ E1
  ·have HB : Hid (B = 1) := by show _ = _; rw [HE.out, if_neg h1, if_pos h2]
   have hd1 : decide ((draws : Int) ≤ (E0 : Int)) = false := by simp; omega
   have hd2 : decide ((E1 : Int) < (draws : Int)) = false := by simp; omega
   have h3 : ¬ E1 < draws := by omega
   go_wp2; go_ret
   exact ⟨ret_int (by rw [HB.out]; rfl), HBW.out⟩
  ·have HB : Hid (B = 0) := by show _ = _; rw [HE.out, if_neg h1, if_neg h2]
   have hd1 : decide ((draws : Int) ≤ (E0 : Int)) = false := by simp; omega
   have hd2 : decide ((E1 : Int) < (draws : Int)) = true := by simp; omega
   have h3 : E1 < draws := by omega
   go_wp2; go_ret
   exact ⟨ret_int (by rw [HB.out]; rfl), HBW.out⟩
end
section
variable {fa la : Option Addr} {fl fc ll lc : Nat} {r : IRiv}
theorem truths_len {r : IRiv} (hv : okR r = true) : (truthsA r.nat).length ≤ 390625 := by
 unfold truthsA truthsP; refine Nat.le_trans (List.length_filter_le _ _) ?_; rw [List.length_map]; exact lists_len hv
theorem toldE_bd (r : IRiv) (is : Bool) : toldE r is ≤ 10 := by
 unfold toldE
 repeat' split
 all_goals omega
theorem told_err {is : Bool} {E : Nat} (h : toldE r is = E) (hE : E ≠ 0) (w : World) (hP : RvIn w w.heap.size fa fl la ll r) : Calls Tryz.prog 126 #[(.agg #[.int .i64 r.depth.lo, .int .i64 r.depth.hi, .int .i64 r.fall.lo, .int .i64 r.fall.hi, .int .i64 r.days, .slice fa fl fc, .slice la ll lc]), .bool is] w fun e w' => e = .returned (.tuple #[.slice none 0 0, .int .i64 E]) ∧ Below w.heap.size w w' := by
 refine (told_any (fc := fc) (lc := lc) is w hP).mono ?_; rintro e w' ⟨hb, ⟨E', h1, h2, h3, rfl⟩ | ⟨h1, h2, h3, h4, A, c, rfl, h6⟩⟩
 ·exact ⟨by rw [← h, h1], hb⟩
 ·omega
theorem told_ok {is : Bool} (h : toldE r is = 0) (w : World) (hP : RvIn w w.heap.size fa fl la ll r) : Calls Tryz.prog 126 #[(.agg #[.int .i64 r.depth.lo, .int .i64 r.depth.hi, .int .i64 r.fall.lo, .int .i64 r.fall.hi, .int .i64 r.days, .slice fa fl fc, .slice la ll lc]), .bool is] w fun e w' => ∃ A c, e = .returned (.tuple #[.slice A (truthsA r.nat).length c, .int .i64 0]) ∧ TrsIn w' r.nat.fr.length A (truthsA r.nat) ∧ Below w.heap.size w w' := by
 refine (told_any (fc := fc) (lc := lc) is w hP).mono ?_; rintro e w' ⟨hb, ⟨E', h1, h2, h3, rfl⟩ | ⟨h1, h2, h3, h4, A, c, rfl, h6⟩⟩
 ·omega
 ·exact ⟨A, c, rfl, h6, hb⟩
theorem toldE_zero {is : Bool} (h : toldE r is = 0) : okR r = true ∧ is = true ∧ truthsA r.nat ≠ [] := by
 unfold toldE at h
 split at h
 ·omega
 ·split at h
  ·omega
  ·split at h
   ·omega
   ·rename_i h1 h2 h3
    exact ⟨by simpa using h1, by simpa using h2, h3⟩
end
theorem bearsT_le (Ts : List Tr) (n d : Nat) : bearsT Ts n d ≤ 2 := by
 unfold bearsT
 repeat' split
 all_goals omega
section
variable {fa la : Option Addr} {fl fc ll lc : Nat} {r : IRiv}
theorem rDays_any (draws : Int) (w : World) (hP : RvIn w w.heap.size fa fl la ll r) : Calls Tryz.prog 96 #[(.agg #[.int .i64 r.depth.lo, .int .i64 r.depth.hi, .int .i64 r.fall.lo, .int .i64 r.fall.hi, .int .i64 r.days, .slice fa fl fc, .slice la ll lc]), .int .i64 draws] w fun e w' => e = .returned (.tuple #[.int .i64 (surelyV r draws), .int .i64 (perhapsV r draws), .int .i64 (daysE r draws)]) ∧ Below w.heap.size w w' := by
 have HP := Lib.hid hP; clear hP; obtain ⟨is, his⟩ : ∃ is, isDrB draws = is := ⟨_, rfl⟩
 have HDR : Hid (∀ wv : World, Calls Tryz.prog 85 #[.int .i64 draws] wv fun e w' => e = .returned (.bool is) ∧ Below wv.heap.size wv w') := fun wv => by
  have h := rdraws_any draws wv
  rwa [his] at h
 have HIS := Lib.hid his; have HE : Hid (daysE r draws = toldE r is) := by show _ = _; rw [daysE, his]
 obtain ⟨V, hV⟩ : ∃ V, surelyV r draws = V := ⟨_, rfl⟩; obtain ⟨U, hU⟩ : ∃ V, perhapsV r draws = V := ⟨_, rfl⟩; obtain ⟨E, hE⟩ : ∃ E, daysE r draws = E := ⟨_, rfl⟩; rw [hV, hU, hE]; have HV := Lib.hid (And.intro hV hU); have HEE := Lib.hid hE; clear his hV hU hE; obtain ⟨W, hW⟩ : ∃ W, W = w.alloc (.cells #[.int .i64 r.depth.lo, .int .i64 r.depth.hi, .int .i64 r.fall.lo, .int .i64 r.fall.hi, .int .i64 r.days, .slice fa fl fc, .slice la ll lc] 27) := ⟨_, rfl⟩; have HX : Hid (Blk W w.heap.size 27 #[.int .i64 r.depth.lo, .int .i64 r.depth.hi, .int .i64 r.fall.lo, .int .i64 r.fall.hi, .int .i64 r.days, .slice fa fl fc, .slice la ll lc]) := by rw [hW]; exact Blk.new w 27 _
 have HBW : Hid (Below w.heap.size w W) := by rw [hW]; exact (Below.refl _ _).alloc (Nat.le_refl _) _
 go_enter Tryz.func96, Tryz.ntmps96
 go_wp2_with fail; rw [← hW]
 clear hW; have q0 := HX.out.cell 0; have q1 := HX.out.cell 1; have q2 := HX.out.cell 2; have q3 := HX.out.cell 3; have q4 := HX.out.cell 4; have q5 := HX.out.cell 5; have q6 := HX.out.cell 6; have ql := HX.out.lt; simp at q0 q1 q2 q3 q4 q5 q6; have HBV := HBW; go_upto_region 1 with (fail)
 by_cases h0 : toldE r is = 0
 case neg =>
  have HT : Hid (∀ wv : World, Below W.heap.size W wv → Calls Tryz.prog 126 #[(.agg #[.int .i64 r.depth.lo, .int .i64 r.depth.hi, .int .i64 r.fall.lo, .int .i64 r.fall.hi, .int .i64 r.days, .slice fa fl fc, .slice la ll lc]), .bool is] wv fun e w' => e = .returned (.tuple #[.slice none 0 0, .int .i64 E]) ∧ Below wv.heap.size wv w') := fun wv hg => told_err (by rw [← HE.out, HEE.out]) (by rw [← HEE.out, HE.out]; exact h0) wv (HP.out.grow (HBV.out.trans (hg.mono HBV.out.size)))
  have HE' : Hid (E ≠ 0 ∧ V = 0 ∧ U = 0) := by
   have e : E ≠ 0 := by rw [← HEE.out, HE.out]; exact h0
   exact ⟨e, by rw [← HV.out.1, surelyV, if_neg (by rw [HEE.out]; exact e)], by rw [← HV.out.2, perhapsV, if_neg (by rw [HEE.out]; exact e)]⟩
  have hE10 : E ≤ 10 := by rw [← HEE.out, HE.out]; exact toldE_bd r is
  have hd : ((E : Int) != 0) = true := by have := HE'.out.1; simp; omega
  clear h0
  refine wp_region_havoc [(0,false),(1,false),(2,false),(3,false),(4,false),(5,false),(6,false),(7,false),(8,false)] [] (fun _ _ => False) (by kernel_rfl) (by kernel_rfl) (fun _ _ _ _ h => h.elim) ?_
  iterate 2 (apply hav_same (by exact ho rfl) (by kernel_rfl); (focus (intro wv hgv _; have hcv := cvB hgv; (try go_simp); try rfl; done)); simp only [Act.put, qA9, qB9, qC9])
  (apply hav_call (by exact ho rfl) (by kernel_rfl); (focus (intro wv; go_simp; try exact ⟨rfl, rfl⟩; done)); (focus (intro wv hgv _; exact HDR.out wv; done)); simp only [Act.put, qA9, qB9, qC9])
  (apply hav_call (by exact ho rfl) (by kernel_rfl); (focus (intro wv; go_simp; try exact ⟨rfl, rfl⟩; done)); (focus (intro wv hgv _; exact HT.out wv hgv; done)); simp only [Act.put, qA9, qB9, qC9])
  iterate 5 (apply hav_same (by exact ho rfl) (by kernel_rfl); (focus (intro wv hgv _; have hcv := cvB hgv; (try go_simp); try rfl; done)); simp only [Act.put, qA9, qB9, qC9])
  refine hav_end (fun X hgX hF => ?_); simp only [List.filterMap]; have hcX : ∀ b o, b < _ → X.cell? ⟨b, o, none⟩ = _ := fun b o hb => Below.cell hgX (p := ⟨b, o, none⟩) hb; have hfX : ∀ b o, b < _ → X.frozen? ⟨b, o, none⟩ = _ := fun b o hb => Below.frozen hgX (p := ⟨b, o, none⟩) hb; have hzX := Below.size hgX; (try simp at hzX)
  have HBX : Hid (Below W.heap.size W X) := hgX; clear hgX hcX hfX hzX q0 q1 q2 q3 q4 q5 q6 ql hF; go_wp2; refine bodyPost_ret (v := .tuple #[.int .i64 0, .int .i64 0, .int .i64 E]) (by simp [results, Tryz.results96, go_sem]) rfl ⟨by rw [HE'.out.2.1, HE'.out.2.2]; rfl, HBW.out.trans (HBX.out.mono HBW.out.size)⟩
 ·obtain ⟨h2, h3, h4⟩ := toldE_zero h0; subst h3
  have HTK : Hid (∀ wv : World, Below W.heap.size W wv → Calls Tryz.prog 126 #[(.agg #[.int .i64 r.depth.lo, .int .i64 r.depth.hi, .int .i64 r.fall.lo, .int .i64 r.fall.hi, .int .i64 r.days, .slice fa fl fc, .slice la ll lc]), .bool true] wv fun e w' => ∃ A c, e = .returned (.tuple #[.slice A (truthsA r.nat).length c, .int .i64 0]) ∧ TrsIn w' r.nat.fr.length A (truthsA r.nat) ∧ Below wv.heap.size wv w') := fun wv hg => told_ok h0 wv (HP.out.grow (HBV.out.trans (hg.mono HBV.out.size)))
  refine wp_region_havoc [(0,false),(1,false),(2,false),(3,true),(4,false),(5,false),(6,false),(7,false),(8,false)] [] (fun _ _ => False) (by kernel_rfl) (by kernel_rfl) (fun _ _ _ _ h => h.elim) ?_
  iterate 2 (apply hav_same (by exact ho rfl) (by kernel_rfl); (focus (intro wv hgv _; have hcv := cvB hgv; (try go_simp); try rfl; done)); simp only [Act.put, qA9, qB9, qC9])
  (apply hav_call (by exact ho rfl) (by kernel_rfl); (focus (intro wv; go_simp; try exact ⟨rfl, rfl⟩; done)); (focus (intro wv hgv _; exact HDR.out wv; done)); simp only [Act.put, qA9, qB9, qC9])
  apply hav_call_ghost (fun v wv => ∃ A c, v = .tuple #[.slice A (truthsA r.nat).length c, .int .i64 0] ∧ TrsIn wv r.nat.fr.length A (truthsA r.nat)) (by exact ho rfl) (by kernel_rfl)
  ·intro wv; go_simp; try exact ⟨rfl, rfl⟩
  ·rintro v w1 w2 ⟨A, c, h5, h6⟩ hg; exact ⟨A, c, h5, h6.below hg⟩
  ·intro wv hgv _; refine (HTK.out wv hgv).mono ?_; rintro e w' ⟨A, c, rfl, h6, hb⟩; exact .inl ⟨_, rfl, hb, A, c, rfl, h6⟩
  intro v; simp only [Act.put, qA9, qB9, qC9]
  by_cases hv : ∃ A c, v = .tuple #[.slice A (truthsA r.nat).length c, .int .i64 0]
  case neg =>
   have hno : ∀ w (Φ : Prop), (Φ ∧ ∃ A c, v = .tuple #[.slice A (truthsA r.nat).length c, .int .i64 0] ∧ TrsIn w r.nat.fr.length A (truthsA r.nat)) → False := fun w _ ⟨_, A, c, h, _⟩ => hv ⟨A, c, h⟩
   iterate 5 (refine hav_det (V := undef) (by exact ho rfl) (fun _ _ hF => (hno _ _ hF).elim) ?_; simp only [Act.put, qA9, qB9, qC9])
   refine hav_end (fun X hgX hF => ?_); simp only [List.filterMap]; have hcX : ∀ b o, b < _ → X.cell? ⟨b, o, none⟩ = _ := fun b o hb => Below.cell hgX (p := ⟨b, o, none⟩) hb; have hfX : ∀ b o, b < _ → X.frozen? ⟨b, o, none⟩ = _ := fun b o hb => Below.frozen hgX (p := ⟨b, o, none⟩) hb; have hzX := Below.size hgX; (try simp at hzX)
   exact (hno _ _ hF).elim
  obtain ⟨A, c, rfl⟩ := hv; iterate 5 (apply hav_same (by exact ho rfl) (by kernel_rfl); (focus (intro wv hgv _; have hcv := cvB hgv; (try go_simp); try rfl; done)); simp only [Act.put, qA9, qB9, qC9])
  refine hav_end (fun X hgX hF => ?_); simp only [List.filterMap]; have hcX : ∀ b o, b < _ → X.cell? ⟨b, o, none⟩ = _ := fun b o hb => Below.cell hgX (p := ⟨b, o, none⟩) hb; have hfX : ∀ b o, b < _ → X.frozen? ⟨b, o, none⟩ = _ := fun b o hb => Below.frozen hgX (p := ⟨b, o, none⟩) hb; have hzX := Below.size hgX; (try simp at hzX)
  have HTR : Hid (TrsIn X r.nat.fr.length A (truthsA r.nat)) := by
   obtain ⟨_, A', c', e, h⟩ := hF
   injection e with e
   have e2 : A = A' := by
    have := congrArg (fun a => a[0]?) e
    simp at this; exact this.1
   subst e2; exact h
  clear hF; have HBX : Hid (Below W.heap.size W X) := hgX; clear hgX hcX hfX hzX q0 q1 q2 q3 q4 q5 q6 ql
  have HE' : Hid (E = 0 ∧ V = surelyP r.nat draws.toNat ∧ U = perhapsP r.nat draws.toNat) := by
   have e : E = 0 := by rw [← HEE.out, HE.out, h0]
   exact ⟨e, by rw [← HV.out.1, surelyV, if_pos (by rw [HEE.out, e])], by rw [← HV.out.2, perhapsV, if_pos (by rw [HEE.out, e])]⟩
  have hb1 := inB_iff.1 (show inB draws 0 200 = true from HIS.out)
  have hb3 := inB_iff.1 (okR_parts h2).1.2.2.1; obtain ⟨n, hn⟩ : ∃ n : Nat, draws = n := ⟨draws.toNat, by omega⟩
  obtain ⟨D, hD⟩ : ∃ D, r.nat.days = D := ⟨_, rfl⟩; have hDD : r.days = (D : Int) := by have : r.nat.days = r.days.toNat := rfl; omega
  have hD10 : D ≤ 10 := by omega
  subst hn; rw [Int.toNat_natCast] at HE'
  have HS : Hid (∀ t ∈ truthsA r.nat, t.Small r.nat.fr.length) := fun t ht => truth_small h2 ht
  have hlen := truths_len h2
  have HBT : Hid (∀ d, bearsP r.nat n d = bearsT (truthsA r.nat) n d) := fun d => rfl
  obtain ⟨Ts, hTs⟩ : ∃ Ts, truthsA r.nat = Ts := ⟨_, rfl⟩; rw [hTs] at HTR HS HBT hlen h4 ⊢; obtain ⟨N, hN⟩ : ∃ N, Ts.length = N := ⟨_, rfl⟩; have hN4 : N ≤ 400000 := by omega
  have hN0 : 0 < N := by rw [← hN]; exact List.length_pos_iff.2 h4
  have HL := Lib.hid hN; have HD := Lib.hid hD
  have HB2 : Hid (∀ d, bearsT Ts n d ≤ 2) := fun d => bearsT_le _ _ _
  rw [hN]; have HK := Lib.hid (HX.out.below HBX.out HX.out.lt); clear h0 h2 h4 hN hTs hlen hb1 hb3 hD; have q4 := HK.out.cell 4; have ql := HK.out.lt; simp at q4; rw [hDD] at q4; have HDD := Lib.hid hDD; clear hDD; go_wp2
  go_loopw [9, 10, 11] (fun s p i wr => ∃ (d S P : Nat), d ≤ D + 1 ∧ i = .int .i64 d ∧ s = .int .i64 S ∧ p = .int .i64 P ∧ Hid (setN (fun d => bearsP r.nat n d == 2) d = S) ∧ Hid (setN (fun d => bearsP r.nat n d != 0) d = P) ∧ S < 2 ^ d ∧ P < 2 ^ d ∧ Hid (Below X.heap.size X wr)) (fun _ _ i _ => D + 1 - (intOf i).toNat)
  case atStart => exact ⟨0, 0, 0, Nat.zero_le _, rfl, rfl, rfl, rfl, rfl, by decide, by decide, Below.refl _ _⟩
  case round =>
   obtain ⟨d, S, P, hd, rfl, rfl, rfl, HSS, HPP, hS, hPb, HBR⟩ := hrel; have HKR := Lib.hid (HK.out.below HBR.out HK.out.lt); clear q4 ql; have q4 := HKR.out.cell 4; have ql := HKR.out.lt; simp at q4; rw [HDD.out] at q4
   by_cases hlt : d ≤ D
   ·obtain ⟨K, hK⟩ : ∃ K : Nat, 2 ^ d = K := ⟨_, rfl⟩; have hp : 2 ^ d ≤ 2 ^ 10 := Nat.pow_le_pow_right (by omega) (by omega)
    have HPW : Hid (∀ wv : World, Calls Tryz.prog 128 #[.int .i64 d] wv fun e w' => e = .returned (.int .i64 (K : Nat)) ∧ w' = wv) := fun wv => (rpower_any d (by omega) wv).mono (by rintro e w' ⟨rfl, rfl⟩; exact ⟨by rw [← hK]; push_cast; rfl, rfl⟩)
    have HK2 : Hid (2 ^ (d + 1) = K + K) := by show _ = _; rw [Nat.pow_succ]; omega
    rw [hK] at hS hPb hp; have hd10 : d ≤ 10 := by omega
    obtain ⟨B, hB⟩ : ∃ B, bearsT Ts n d = B := ⟨_, rfl⟩; have hB2 : B ≤ 2 := by rw [← hB]; exact HB2.out d
    have HSN : Hid (setN (fun d => bearsP r.nat n d == 2) (d + 1) = S + if B = 2 then K else 0) := by
     show _ = _; rw [setN, HSS.out, HBT.out d, hB, hK]
     by_cases e : B = 2
     ·simp [e]
     ·simp [e]
    have HPN : Hid (setN (fun d => bearsP r.nat n d != 0) (d + 1) = P + if B = 0 then 0 else K) := by
     show _ = _; rw [setN, HPP.out, HBT.out d, hB, hK]
     by_cases e : B = 0
     ·simp [e]
     ·simp [e]
    have HBB := Lib.hid hB; clear hK hB; go_wp2_with fail; refine (rbears_any HL.out hN0 hN4 HS.out hd10 n _ (HTR.out.below HBR.out)).mono ?_; rw [HBB.out]; rintro e Z ⟨rfl, hb⟩; have HBZ : Hid (Below X.heap.size X Z) := HBR.out.trans (hb.mono HBR.out.size); clear hb q4 ql; have hc : B = 0 ∨ B = 1 ∨ B = 2 := by omega
    rcases hc with rfl | rfl | rfl
    ·go_wp2; go_roundw
     case rel => exact ⟨d + 1, S, P, by omega, by go_num, rfl, rfl, by have h := HSN.out; simp at h; exact h, by have h := HPN.out; simp at h; exact h, by rw [HK2.out]; omega, by rw [HK2.out]; omega, HBZ⟩
     case measure => simp [intOf]; omega
    ·go_wp2_with fail; refine (HPW.out _).mono ?_
     rintro e Z2 ⟨rfl, rfl⟩; go_wp2; go_roundw
     case rel => exact ⟨d + 1, S, P + K, by omega, by go_num, rfl, by go_num, by have h := HSN.out; simp at h; exact h, by have h := HPN.out; simp at h; exact h, by rw [HK2.out]; omega, by rw [HK2.out]; omega, HBZ⟩
     case measure => simp [intOf]; omega
    ·go_wp2_with fail; refine (HPW.out _).mono ?_
     rintro e Z2 ⟨rfl, rfl⟩; go_wp2_with fail; refine (HPW.out _).mono ?_; rintro e Z3 ⟨rfl, rfl⟩; go_wp2; go_roundw
     case rel => exact ⟨d + 1, S + K, P + K, by omega, by go_num, by go_num, by go_num, by have h := HSN.out; simp at h; exact h, by have h := HPN.out; simp at h; exact h, by rw [HK2.out]; omega, by rw [HK2.out]; omega, HBZ⟩
     case measure => simp [intOf]; omega
   ·obtain rfl : d = D + 1 := by omega
    have HF : Hid (V = S ∧ U = P ∧ E = 0) := by
     refine ⟨?_, ?_, HE'.out.1⟩
     ·rw [HE'.out.2.1, surelyP, HD.out, HSS.out]
     ·rw [HE'.out.2.2, perhapsP, HD.out, HPP.out]
    clear hS hPb; go_wp2; refine bodyPost_ret (v := .tuple #[.int .i64 S, .int .i64 P, .int .i64 0]) (by simp [results, Tryz.results96, go_sem]) rfl ⟨by rw [HF.out.1, HF.out.2.1, HF.out.2.2]; rfl, HBW.out.trans ((HBX.out.trans (HBR.out.mono HBX.out.size)).mono HBW.out.size)⟩
end
end Go.Proofs.YtgmfhngcehkibaaGreat
namespace Go.HavG
open Go.RowKit Go.Hav
theorem wpIn_region_stg {P : Program} {ops : Array Oper} {Q : Exit → Act → World → Prop} (I : World → Prop) (π : List (Nat × Bool)) (τ : List Nat) (Qp : List PanicEntry → World → Prop) {l n id : Nat} {a : Act} {w : World} (hm : P.follows .mixedOrders = true) (hok : havOk ops π τ = true)
  (hnd : noDefer ops = true) (hlo : ¬ LetsOut Q) (hQ : ∀ ch a' w', Agree ops (π.map (·.1)) a a' → Qp ch w' → Q (.panic ch) a' w') (hI : I w.drew)
  (h : wpStg P ops I Qp (fun a w => wpList P ops Q (τ.filterMap (ops[·]?)) a w) π a w.drew) : (Code.region id ops true).wpIn (Fence.wide.inRound l) n P Q a w := by
 simp only [havOk, Bool.and_eq_true, List.all_eq_true, List.mem_range, Bool.or_eq_true, List.any_eq_true, beq_iff_eq, decide_eq_true_eq, bne_iff_ne, List.contains_iff_mem] at hok; obtain ⟨c1, c2, c3, c4, c5, ⟨c6, c7⟩, c8, c9⟩ := hok
 have hlow : ∀ i o e, ops[i]? = some o → e ∈ o.after → Region.binds .any e = true → e.on < i := fun i o e ho he hb => by
  have h1 := c9 i (Array.getElem?_eq_some_iff.1 ho).1; simp only [ho, Array.all_eq_true_iff_forall_mem, Bool.or_eq_true, Bool.not_eq_true', decide_eq_true_eq] at h1; exact (h1 e he).resolve_left (by simp [hb])
 refine wpIn_region_any hm (wpAny_in (noDefer_spec hnd) hlo _ _ _ _ ?_); rw [← c8]
 refine stg_any (a0 := a) (Qp := Qp) c1 hlow hQ τ c3 c7 π.length π _ a _ rfl (by simp [c8]) ?_ c2 c4 c6 (fun x hx => List.mem_map.2 ⟨x, hx, rfl⟩) (fun i hi => ?_) hI ⟨rfl, rfl, fun _ _ => rfl⟩ h
 ·intro i o e _ hl
  simp [Array.getD_eq_getD_getElem?, Array.getElem?_replicate] at hl
  split at hl <;> simp at hl
 ·have hr : ¬ (Array.replicate (π.length + τ.length) false).getD i false = true := by
   simp [Array.getD_eq_getD_getElem?, Array.getElem?_replicate]
   split <;> rfl
  refine ⟨fun _ => ?_, fun _ => by simpa [c8] using hr⟩
  rcases c5 i hi with ⟨x, hx, he⟩ | hx
  ·exact .inl (List.mem_map.2 ⟨x, hx, he⟩)
  ·exact .inr hx
theorem stg_store {P : Program} {ops : Array Oper} {I : World → Prop} {Qp : List PanicEntry → World → Prop} {Cont : Act → World → Prop} {i : Nat} {rest : List (Nat × Bool)} {a : Act} {w w' : World} {o : Oper} (ho : ops[i]? = some o) (hd : o.dst = none) (hw : Region.wanted o (yielded ops a.tmps) = true)
  (h0 : (execOp a.eval o).run P w = .ok .skip w') (hI : I w') (h1 : wpStg P ops I Qp Cont rest a w') : wpStg P ops I Qp Cont ((i, true) :: rest) a w :=
 ⟨o, ho, by
  simp only [if_true]
  exact Obl.of_K fun K hK => by
   unfold stepOf Oper.wp; rw [if_pos hw, h0]
   exact hK undef w' trivial ⟨hI, by rw [hd]; exact h1⟩⟩
end Go.HavG
