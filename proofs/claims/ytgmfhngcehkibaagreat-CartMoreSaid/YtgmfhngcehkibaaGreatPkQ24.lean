/- The law CartMore. Condition: what the statements say. -/
import Derived.Test.YtgmfhngcehkibaaGreatPkQ23
set_option maxRecDepth 100000
set_option maxHeartbeats 6400000
namespace Go.Proofs.YtgmfhngcehkibaaGreat
section
open Go.RowKit Go.Hav Go.Shelf Go.Sq
attribute [local go_sem] Oper.semAt_some
def boxQ (q : ICart) (fa : Option Addr) (fl fc : Nat) (la : Option Addr) (ll lc : Nat) (wa : Option Addr) (wn wc : Nat) (ta : Option Addr) (tn tc : Nat) : Array Value := #[.int .i64 q.riv.depth.lo, .int .i64 q.riv.depth.hi, .int .i64 q.riv.fall.lo, .int .i64 q.riv.fall.hi, .int .i64 q.riv.days, .slice fa fl fc, .slice la ll lc, .int .i64 q.draws, .slice wa wn wc, .slice ta tn tc]
structure M4 (w : World) (b11 b12 b13 b14 b15 fl fc ll lc wn wc tn tc cx cy cz ct cu : Nat) (fa la wa ta wx wy tz lt wu : Option Addr) (c x y z t : ICart) : Prop where
 hx : CBox w b11 fa fl fc la ll lc wx (wn + 1) cx ta tn tc x
 hy : CBox w b12 fa fl fc la ll lc wy wn cy ta tn tc y
 hz : CBox w b13 fa fl fc la ll lc wa wn wc tz (tn + 1) cz z
 ht : CBox w b14 fa fl fc lt (ll + 1) ct wa wn wc ta tn tc t
 hu : CBox w b15 fa fl fc la ll lc wu wn cu ta tn tc (cartU c)
 qx : QOk c x 0
 qy : QOk c y 1
 qz : QOk c z 2
 qt : QOk c t 3
section
variable {w0 K : World} {b5 g1 g2 b11 b12 b13 b14 b15 fl fc ll lc wn wc tn tc cx cy cz ct cu c1 c2 : Nat} {fa la wa ta wx wy tz lt wu A1 A2 : Option Addr} {c x y z t : ICart} {n1 n2 : Int} {P1 P2 : List Int}
theorem M4.below {w w' : World} (h : M4 w b11 b12 b13 b14 b15 fl fc ll lc wn wc tn tc cx cy cz ct cu fa la wa ta wx wy tz lt wu c x y z t) (hb : Below w.heap.size w w') : M4 w' b11 b12 b13 b14 b15 fl fc ll lc wn wc tn tc cx cy cz ct cu fa la wa ta wx wy tz lt wu c x y z t := { h with hx := h.hx.below hb, hy := h.hy.below hb, hz := h.hz.below hb, ht := h.ht.below hb, hu := h.hu.below hb }
theorem four_at {A B C D : Array Value} (ha : A.size = 10) (hb : B.size = 10) (hc : C.size = 10) {j : Nat} (hj : j < 10) :
  (A ++ B ++ C ++ D)[0 * 10 + j]? = A[j]? ∧ (A ++ B ++ C ++ D)[1 * 10 + j]? = B[j]? ∧ (A ++ B ++ C ++ D)[2 * 10 + j]? = C[j]? ∧ (A ++ B ++ C ++ D)[3 * 10 + j]? = D[j]? := by
 have h1 : (A ++ B).size = 20 := by simp [ha, hb]
 have h2 : (A ++ B ++ C).size = 30 := by simp [ha, hb, hc]
 refine ⟨?_, ?_, ?_, ?_⟩
 ·rw [Array.getElem?_append_left (by omega), Array.getElem?_append_left (by omega), Array.getElem?_append_left (by omega)]; congr 1; omega
 ·rw [Array.getElem?_append_left (by omega), Array.getElem?_append_left (by omega), Array.getElem?_append_right (by omega)]; congr 1; omega
 ·rw [Array.getElem?_append_left (by omega), Array.getElem?_append_right (by omega)]; congr 1; omega
 ·rw [Array.getElem?_append_right (by omega)]; congr 1; omega
theorem four_rows {W : World} {g : Nat} (hb : Blk W g 31 (boxQ x fa fl fc la ll lc wx (wn + 1) cx ta tn tc ++ boxQ y fa fl fc la ll lc wy wn cy ta tn tc ++ boxQ z fa fl fc la ll lc wa wn wc tz (tn + 1) cz ++ boxQ t fa fl fc lt (ll + 1) ct wa wn wc ta tn tc)) (h : M4 W b11 b12 b13 b14 b15 fl fc ll lc wn wc tn tc cx cy cz ct cu fa la wa ta wx wy tz lt wu c x y z t) {k : Nat} (hk : k < 4) :
  ∃ (q : ICart) (fa' la' wa' ta' : Option Addr) (fl' fc' ll' lc' wn' wc' tn' tc' : Nat), (∀ (j : Nat) (v : Value), (boxQ q fa' fl' fc' la' ll' lc' wa' wn' wc' ta' tn' tc')[j]? = some v -> W.cell? ⟨g, k * 10 + j, none⟩ = some v) ∧ CtIn W W.heap.size fa' fl' la' ll' wa' wn' ta' tn' q ∧ QOk c q k := by
 match k, hk with
 | 0, _ =>
  refine ⟨x, fa, la, wx, ta, fl, fc, ll, lc, wn + 1, cx, tn, tc, fun j v hv => ?_, h.hx.inn, h.qx⟩
  rw [hb.cell, (four_at rfl rfl rfl (show j < 10 from (Array.getElem?_eq_some_iff.1 hv).1)).1]
  exact hv
 | 1, _ =>
  refine ⟨y, fa, la, wy, ta, fl, fc, ll, lc, wn, cy, tn, tc, fun j v hv => ?_, h.hy.inn, h.qy⟩
  rw [hb.cell, (four_at rfl rfl rfl (show j < 10 from (Array.getElem?_eq_some_iff.1 hv).1)).2.1]
  exact hv
 | 2, _ =>
  refine ⟨z, fa, la, wa, tz, fl, fc, ll, lc, wn, wc, tn + 1, cz, fun j v hv => ?_, h.hz.inn, h.qz⟩
  rw [hb.cell, (four_at rfl rfl rfl (show j < 10 from (Array.getElem?_eq_some_iff.1 hv).1)).2.2.1]
  exact hv
 | 3, _ =>
  refine ⟨t, fa, lt, wa, ta, fl, fc, ll + 1, ct, wn, wc, tn, tc, fun j v hv => ?_, h.ht.inn, h.qt⟩
  rw [hb.cell, (four_at rfl rfl rfl (show j < 10 from (Array.getElem?_eq_some_iff.1 hv).1)).2.2.2]
  exact hv
theorem mr11 (hC : MrIn w0 K b5 fa fl fc la ll lc wa wn wc ta tn tc c) (hM : M4 K b11 b12 b13 b14 b15 fl fc ll lc wn wc tn tc cx cy cz ct cu fa la wa ta wx wy tz lt wu c x y z t) (hPL : Plans c n1 n2 P1 P2) (hg1 : Blk K g1 3 (intsA P1)) (hg2 : Blk K g2 3 (intsA P2)) (hne : g1 ≠ g2) (hw : w0.heap.size <= g1 ∧ w0.heap.size <= g2) (h1 : RdG wgI 4 K K.heap.size A1 c.wg) (h2 : RdG ltI 5 K K.heap.size A2 c.lt) : WR3 11 w0 (.pointer (some ⟨b5, 0, none⟩)) (.pointer (some ⟨b11, 0, none⟩)) (.pointer (some ⟨b12, 0, none⟩)) (.pointer (some ⟨b13, 0, none⟩)) (.pointer (some ⟨b14, 0, none⟩)) (.pointer (some ⟨b15, 0, none⟩)) (.slice A1 wn c1) (.slice A2 tn c2) (.int .i64 n1) (.slice (some ⟨g1, 0, none⟩) tn tn) (.int .i64 0) (.int .i64 n2) (.slice (some ⟨g2, 0, none⟩) tn tn) (.int .i64 0) K := by
 unfold WR3 WG
 intros
 obtain ⟨W, hW⟩ : ∃ W, W = K.alloc (.cells (boxQ x fa fl fc la ll lc wx (wn + 1) cx ta tn tc ++ boxQ y fa fl fc la ll lc wy wn cy ta tn tc ++ boxQ z fa fl fc la ll lc wa wn wc tz (tn + 1) cz ++ boxQ t fa fl fc lt (ll + 1) ct wa wn wc ta tn tc) 31) := ⟨_, rfl⟩; obtain ⟨g, hg⟩ : ∃ g, g = K.heap.size := ⟨_, rfl⟩; have hbk : Below K.heap.size K W := by rw [hW]; exact (Below.refl _ _).alloc (Nat.le_refl _) _
 have hrow : Blk W g 31 (boxQ x fa fl fc la ll lc wx (wn + 1) cx ta tn tc ++ boxQ y fa fl fc la ll lc wy wn cy ta tn tc ++ boxQ z fa fl fc la ll lc wa wn wc tz (tn + 1) cz ++ boxQ t fa fl fc lt (ll + 1) ct wa wn wc ta tn tc) := by rw [hW, hg]; exact Blk.new K 31 _
 have HFOUR : Hid (∀ k, k < 4 -> ∃ (q : ICart) (fa' la' wa' ta' : Option Addr) (fl' fc' ll' lc' wn' wc' tn' tc' : Nat), (∀ (j : Nat) (v : Value), (boxQ q fa' fl' fc' la' ll' lc' wa' wn' wc' ta' tn' tc')[j]? = some v -> W.cell? ⟨g, k * 10 + j, none⟩ = some v) ∧ CtIn W W.heap.size fa' fl' la' ll' wa' wn' ta' tn' q ∧ QOk c q k) := fun k hk => four_rows hrow (hM.below hbk) hk
 have HGL : Hid (g < W.heap.size) := hrow.lt
 have HEND : Hid (∀ wz, Below W.heap.size W wz -> WR2 12 w0 (.pointer (some ⟨b5, 0, none⟩)) (.pointer (some ⟨b15, 0, none⟩)) (.slice A1 wn c1) (.slice A2 tn c2) (.int .i64 n1) (.slice (some ⟨g1, 0, none⟩) tn tn) (.int .i64 0) (.int .i64 n2) (.slice (some ⟨g2, 0, none⟩) tn tn) (.int .i64 0) wz) := fun wz hb => by
  have hb' : Below K.heap.size K wz := hbk.trans (hb.mono hbk.size); exact mr12 (hC.below hb') (hM.below hb').hu hPL (hg1.below hb' hg1.lt) (hg2.below hb' hg2.lt) hne hw (h1.grow hb') (h2.grow hb')
 have HN : Hid (mostV c = n1 ∧ bestV c = n2) := ⟨hPL.v1, hPL.v2⟩; obtain ⟨xc0, xc1, xc2, xc3, xc4, xc5, xc6, xc7, xc8, xc9, xcl⟩ := cx31 hM.hx.box; obtain ⟨yc0, yc1, yc2, yc3, yc4, yc5, yc6, yc7, yc8, yc9, ycl⟩ := cx31 hM.hy.box; obtain ⟨zc0, zc1, zc2, zc3, zc4, zc5, zc6, zc7, zc8, zc9, zcl⟩ := cx31 hM.hz.box; obtain ⟨tc0, tc1, tc2, tc3, tc4, tc5, tc6, tc7, tc8, tc9, tcl⟩ := cx31 hM.ht.box; simp only [boxQ, List.append_toArray, List.cons_append, List.nil_append] at hW; clear hC hM hPL hg1 hg2 hne hw h1 h2 hbk hrow
 conv => arg 2; whnf
 conv => arg 2; arg 2; change mrK 12
 go_wp2; rw [<- hW, <- hg]
 clear hW hg xc0 xc1 xc2 xc3 xc4 xc5 xc6 xc7 xc8 xc9 xcl yc0 yc1 yc2 yc3 yc4 yc5 yc6 yc7 yc8 yc9 ycl zc0 zc1 zc2 zc3 zc4 zc5 zc6 zc7 zc8 zc9 zcl tc0 tc1 tc2 tc3 tc4 tc5 tc6 tc7 tc8 tc9 tcl
 go_loopw [170] (fun i wr => ∃ k : Nat, k <= 4 ∧ i = .int .i64 k ∧ Hid (Below W.heap.size W wr)) (fun i _ => 4 - (intOf i).toNat)
 case atStart => exact ⟨0, Nat.zero_le _, rfl, Below.refl _ _⟩
 case round =>
  obtain ⟨k, hk, rfl, HBR⟩ := hrel
  by_cases hlt : k < 4
  ·obtain ⟨q, fa', la', wa', ta', fl', fc', ll', lc', wn', wc', tn', tc', hcell, hin, hq⟩ := HFOUR.out k hlt; have HQK := hd9 hq; have HIN := hd9 (hin.grow HBR.out); have x0 : wr.cell? ⟨g, k * 10, none⟩ = some (.int .i64 q.riv.depth.lo) := (cvB HBR.out _ _ HGL.out).trans (hcell 0 _ rfl); have x1 : wr.cell? ⟨g, k * 10 + 1, none⟩ = some (.int .i64 q.riv.depth.hi) := (cvB HBR.out _ _ HGL.out).trans (hcell 1 _ rfl); have x2 : wr.cell? ⟨g, k * 10 + 2, none⟩ = some (.int .i64 q.riv.fall.lo) := (cvB HBR.out _ _ HGL.out).trans (hcell 2 _ rfl); have x3 : wr.cell? ⟨g, k * 10 + 3, none⟩ = some (.int .i64 q.riv.fall.hi) := (cvB HBR.out _ _ HGL.out).trans (hcell 3 _ rfl); have x4 : wr.cell? ⟨g, k * 10 + 4, none⟩ = some (.int .i64 q.riv.days) := (cvB HBR.out _ _ HGL.out).trans (hcell 4 _ rfl); have x5 : wr.cell? ⟨g, k * 10 + 5, none⟩ = some (.slice fa' fl' fc') := (cvB HBR.out _ _ HGL.out).trans (hcell 5 _ rfl); have x6 : wr.cell? ⟨g, k * 10 + 6, none⟩ = some (.slice la' ll' lc') := (cvB HBR.out _ _ HGL.out).trans (hcell 6 _ rfl); have x7 : wr.cell? ⟨g, k * 10 + 7, none⟩ = some (.int .i64 q.draws) := (cvB HBR.out _ _ HGL.out).trans (hcell 7 _ rfl); have x8 : wr.cell? ⟨g, k * 10 + 8, none⟩ = some (.slice wa' wn' wc') := (cvB HBR.out _ _ HGL.out).trans (hcell 8 _ rfl); have x9 : wr.cell? ⟨g, k * 10 + 9, none⟩ = some (.slice ta' tn' tc') := (cvB HBR.out _ _ HGL.out).trans (hcell 9 _ rfl); have xl : g < wr.heap.size := Nat.lt_of_lt_of_le HGL.out HBR.out.size
   obtain ⟨W2, hW2⟩ : ∃ W2, W2 = wr.alloc (.cells #[.int .i64 q.riv.depth.lo, .int .i64 q.riv.depth.hi, .int .i64 q.riv.fall.lo, .int .i64 q.riv.fall.hi, .int .i64 q.riv.days, .slice fa' fl' fc', .slice la' ll' lc', .int .i64 q.draws, .slice wa' wn' wc', .slice ta' tn' tc'] 31) := ⟨_, rfl⟩; obtain ⟨b27, hb27⟩ : ∃ g, g = wr.heap.size := ⟨_, rfl⟩; have hb2 : Below wr.heap.size wr W2 := by rw [hW2]; exact (Below.refl _ _).alloc (Nat.le_refl _) _
   have HQ : Hid (CBox W2 b27 fa' fl' fc' la' ll' lc' wa' wn' wc' ta' tn' tc' q) := ⟨by rw [hW2, hb27]; exact Blk.new wr 31 _, HIN.out.grow hb2⟩
   have HBq : Hid (Below W.heap.size W W2) := HBR.out.trans (hb2.mono HBR.out.size); clear hcell hin hq hb2 HIN; go_upto_region 22 with (fail); rw [<- hW2, <- hb27]; clear hW2 hb27 x0 x1 x2 x3 x4 x5 x6 x7 x8 x9 xl HBR; have hx := HQ.out.box; obtain ⟨q0, q1, q2, q3, q4, q5, q6, q7, q8, q9, ql⟩ := cx31 hx; clear hx; go_wp2_with fail; refine (rcart_any (fa := fa') (fl := fl') (fc := fc') (la := la') (ll := ll') (lc := lc') (wa := wa') (wn := wn') (wc := wc') (ta := ta') (tn := tn') (tc := tc') (c := q) W2 HQ.out.inn).mono ?_; obtain ⟨ok, hok⟩ : ∃ ok, okC q = ok := ⟨_, rfl⟩; have HOK := hd9 hok; rw [hok]; clear hok; rintro e W3 ⟨rfl, hb⟩; have HQ1 := hd9 (HQ.out.below hb); have HB1 : Hid (Below W.heap.size W W3) := HBq.out.trans (hb.mono HBq.out.size); clear hb HBq HQ; have HBq := HB1; clear HB1; clear q0 q1 q2 q3 q4 q5 q6 q7 q8 q9 ql; cases ok
   case false =>
    clear HQ1; go_wp2; go_roundw
    case rel => exact ⟨k + 1, by omega, by go_num, HBq⟩
    case measure => simp [intOf]; omega
   case true =>
    rcases HQK.out HOK.out with ⟨s1, s2, s3⟩ | ⟨s1, s2⟩
    ·have HSQ := hd9 s1; obtain ⟨m1, hm1⟩ : ∃ m, (onP q.tm q.wg ofMost q.lt (roomP q.wg)).1 = m := ⟨_, rfl⟩; obtain ⟨m2, hm2⟩ : ∃ m, (onP q.tm q.wg ofBest q.lt (roomP q.wg)).1 = m := ⟨_, rfl⟩; have HM : Hid ((onP q.tm q.wg ofMost q.lt (roomP q.wg)).1 = m1 ∧ (onP q.tm q.wg ofBest q.lt (roomP q.wg)).1 = m2) := ⟨hm1, hm2⟩
     have hd1 : decide (m1 < n1) = false := by
      rw [HN.out.1] at s2; unfold mostV at s2; rw [hm1] at s2; exact decide_eq_false (by omega)
     have hd2 : decide (m2 < n2) = false := by
      rw [HN.out.2] at s3; unfold bestV at s3; rw [hm2] at s3; exact decide_eq_false (by omega)
     clear s1 s2 s3 hm1 hm2; have hx := HQ1.out.box; obtain ⟨q0, q1, q2, q3, q4, q5, q6, q7, q8, q9, ql⟩ := cx31 hx; clear hx; go_wp2_with fail; refine (PMost_any (fa := fa') (fl := fl') (fc := fc') (la := la') (ll := ll') (lc := lc') (wa := wa') (wn := wn') (wc := wc') (ta := ta') (tn := tn') (tc := tc') (w := W3) (c := q) HQ1.out.inn).mono ?_; rintro e W4 ⟨hb, (⟨h1, -⟩ | ⟨-, gq, rfl, -, -⟩)⟩
     ·exact absurd HSQ.out h1
     have HQ1n := hd9 (HQ1.out.below hb); have HBW4 : Hid (Below W.heap.size W W4) := HBq.out.trans (hb.mono HBq.out.size); clear hb HBq HQ1; have HBq := HBW4; clear HBW4; have HQ1 := HQ1n; clear HQ1n; clear q0 q1 q2 q3 q4 q5 q6 q7 q8 q9 ql; rw [HM.out.1]; have hx := HQ1.out.box; obtain ⟨q0, q1, q2, q3, q4, q5, q6, q7, q8, q9, ql⟩ := cx31 hx; clear hx; go_wp2_with fail; refine (PBest_any (fa := fa') (fl := fl') (fc := fc') (la := la') (ll := ll') (lc := lc') (wa := wa') (wn := wn') (wc := wc') (ta := ta') (tn := tn') (tc := tc') (w := W4) (c := q) HQ1.out.inn).mono ?_; rintro e W5 ⟨hb, (⟨h1, -⟩ | ⟨-, gq, rfl, -, -⟩)⟩
     ·exact absurd HSQ.out h1
     have HQ1n := hd9 (HQ1.out.below hb); have HBW5 : Hid (Below W.heap.size W W5) := HBq.out.trans (hb.mono HBq.out.size); clear hb HBq HQ1; have HBq := HBW5; clear HBW5; have HQ1 := HQ1n; clear HQ1n; clear q0 q1 q2 q3 q4 q5 q6 q7 q8 q9 ql; rw [HM.out.2]; clear HQ1; go_wp2; go_roundw
     case rel => exact ⟨k + 1, by omega, by go_num, HBq⟩
     case measure => simp [intOf]; omega
    ·have HSQ := hd9 s2; subst s1; clear s2; have hx := HQ1.out.box; obtain ⟨q0, q1, q2, q3, q4, q5, q6, q7, q8, q9, ql⟩ := cx31 hx; clear hx; go_wp2_with fail; refine (PMost_any (fa := fa') (fl := fl') (fc := fc') (la := la') (ll := ll') (lc := lc') (wa := wa') (wn := wn') (wc := wc') (ta := ta') (tn := tn') (tc := tc') (w := W3) (c := q) HQ1.out.inn).mono ?_; rintro e W4 ⟨hb, (⟨-, rfl⟩ | ⟨h1, -⟩)⟩
     rotate_left
     ·exact absurd (h1.symm.trans HSQ.out) (by omega)
     rw [HSQ.out]; have HQ1n := hd9 (HQ1.out.below hb); have HBW4 : Hid (Below W.heap.size W W4) := HBq.out.trans (hb.mono HBq.out.size); clear hb HBq HQ1; have HBq := HBW4; clear HBW4; have HQ1 := HQ1n; clear HQ1n; clear q0 q1 q2 q3 q4 q5 q6 q7 q8 q9 ql; have hx := HQ1.out.box; obtain ⟨q0, q1, q2, q3, q4, q5, q6, q7, q8, q9, ql⟩ := cx31 hx; clear hx; go_wp2_with fail; refine (PBest_any (fa := fa') (fl := fl') (fc := fc') (la := la') (ll := ll') (lc := lc') (wa := wa') (wn := wn') (wc := wc') (ta := ta') (tn := tn') (tc := tc') (w := W4) (c := q) HQ1.out.inn).mono ?_; rintro e W5 ⟨hb, (⟨-, rfl⟩ | ⟨h1, -⟩)⟩
     rotate_left
     ·exact absurd (h1.symm.trans HSQ.out) (by omega)
     rw [HSQ.out]; have HQ1n := hd9 (HQ1.out.below hb); have HBW5 : Hid (Below W.heap.size W W5) := HBq.out.trans (hb.mono HBq.out.size); clear hb HBq HQ1; have HBq := HBW5; clear HBW5; have HQ1 := HQ1n; clear HQ1n; clear q0 q1 q2 q3 q4 q5 q6 q7 q8 q9 ql; clear HQ1; go_wp2; go_roundw
     case rel => exact ⟨3 + 1, by omega, by go_num, HBq⟩
     case measure => simp [intOf]
  ·obtain rfl : k = 4 := by omega
   go_wp2; exact (HEND.out wr HBR.out).go.go
theorem mr8 (hC : MrIn w0 K b5 fa fl fc la ll lc wa wn wc ta tn tc c) (hM : M4 K b11 b12 b13 b14 b15 fl fc ll lc wn wc tn tc cx cy cz ct cu fa la wa ta wx wy tz lt wu c x y z t) (h1 : RdG wgI 4 K K.heap.size A1 c.wg) (h2 : RdG ltI 5 K K.heap.size A2 c.lt) : WR4 8 w0 (.pointer (some ⟨b5, 0, none⟩)) (.pointer (some ⟨b11, 0, none⟩)) (.pointer (some ⟨b12, 0, none⟩)) (.pointer (some ⟨b13, 0, none⟩)) (.pointer (some ⟨b14, 0, none⟩)) (.pointer (some ⟨b15, 0, none⟩)) (.slice A1 wn c1) (.slice A2 tn c2) K := by
 unfold WR4 WG
 intros
 obtain ⟨n1, hn1⟩ : ∃ n, (onP c.tm c.wg ofMost c.lt (roomP c.wg)).1 = n := ⟨_, rfl⟩; obtain ⟨n2, hn2⟩ : ∃ n, (onP c.tm c.wg ofBest c.lt (roomP c.wg)).1 = n := ⟨_, rfl⟩; obtain ⟨P1, hp1⟩ : ∃ P, planL c.tm c.wg ofMost c.lt (roomP c.wg) = P := ⟨_, rfl⟩; obtain ⟨P2, hp2⟩ : ∃ P, planL c.tm c.wg ofBest c.lt (roomP c.wg) = P := ⟨_, rfl⟩; have HPL : Hid (Plans c n1 n2 P1 P2) := ⟨hp1, hp2, hn1, hn2⟩; have HKK : Hid (w0.heap.size <= K.heap.size) := hC.bw.size; have HSE : Hid (stayE c = 0) := hC.hv
 have HEND : Hid (∀ (wz : World) (g1 g2 : Nat), Below K.heap.size K wz -> Blk wz g1 3 (intsA P1) -> Blk wz g2 3 (intsA P2) -> g1 ≠ g2 -> w0.heap.size <= g1 ∧ w0.heap.size <= g2 -> WR3 11 w0 (.pointer (some ⟨b5, 0, none⟩)) (.pointer (some ⟨b11, 0, none⟩)) (.pointer (some ⟨b12, 0, none⟩)) (.pointer (some ⟨b13, 0, none⟩)) (.pointer (some ⟨b14, 0, none⟩)) (.pointer (some ⟨b15, 0, none⟩)) (.slice A1 wn c1) (.slice A2 tn c2) (.int .i64 n1) (.slice (some ⟨g1, 0, none⟩) tn tn) (.int .i64 0) (.int .i64 n2) (.slice (some ⟨g2, 0, none⟩) tn tn) (.int .i64 0) wz) := fun wz g1 g2 hb k1 k2 k3 k4 => mr11 (hC.below hb) (hM.below hb) HPL.out k1 k2 k3 k4 (h1.grow hb) (h2.grow hb)
 have HC := hd9 hC; clear hC hM h1 h2 hn1 hn2 hp1 hp2
 conv => arg 2; whnf
 conv => arg 2; arg 2; arg 2; arg 2; change mrK 11
 have hx := HC.out.box; obtain ⟨q0, q1, q2, q3, q4, q5, q6, q7, q8, q9, ql⟩ := cx31 hx; clear hx; go_wp2_with fail; refine (PMost_any (fa := fa) (fl := fl) (fc := fc) (la := la) (ll := ll) (lc := lc) (wa := wa) (wn := wn) (wc := wc) (ta := ta) (tn := tn) (tc := tc) (w := K) (c := c) HC.out.inn).mono ?_; rintro e v1 ⟨hb, (⟨h1, -⟩ | ⟨-, g1, rfl, hgg, hg⟩)⟩
 ·exact absurd HSE.out h1
 rw [HPL.out.v1]; rw [HPL.out.e1] at hg; have HC1 := hd9 (HC.out.below hb); have HB1 : Hid (Below K.heap.size K v1) := hb; have HG1 := hd9 hg; have HGG1 : Hid (K.heap.size <= g1) := hgg; clear hb hg hgg HC; clear q0 q1 q2 q3 q4 q5 q6 q7 q8 q9 ql; have hx := HC1.out.box; obtain ⟨q0, q1, q2, q3, q4, q5, q6, q7, q8, q9, ql⟩ := cx31 hx; clear hx; go_wp2_with fail; refine (PBest_any (fa := fa) (fl := fl) (fc := fc) (la := la) (ll := ll) (lc := lc) (wa := wa) (wn := wn) (wc := wc) (ta := ta) (tn := tn) (tc := tc) (w := v1) (c := c) HC1.out.inn).mono ?_; rintro e v2 ⟨hb, (⟨h1, -⟩ | ⟨-, g2, rfl, hgg, hg⟩)⟩
 ·exact absurd HSE.out h1
 rw [HPL.out.v2]; rw [HPL.out.e2] at hg; have HB2 : Hid (Below K.heap.size K v2) := HB1.out.trans (hb.mono HB1.out.size); have HG2 := hd9 hg; have HG12 := hd9 (HG1.out.below hb HG1.out.lt); have HNE : Hid (g1 ≠ g2 ∧ w0.heap.size <= g1 ∧ w0.heap.size <= g2) := by have h1 := HG1.out.lt; have h2 := HGG1.out; have h3 := HKK.out; exact ⟨by omega, by omega, by omega⟩
 clear hb hg hgg HC1; clear q0 q1 q2 q3 q4 q5 q6 q7 q8 q9 ql; go_wp2; exact (HEND.out v2 g1 g2 HB2.out HG12.out HG2.out HNE.out.1 HNE.out.2).go.go
theorem Tryz.infoW65 : (Tryz.prog.info? 65).map (fun i => (i.zero, i.size, i.bytes)) = some (some (.agg #[.int .i64 0, .int .i64 0, .int .i64 0, .int .i64 0]), 4, 32) := by kernel_rfl
theorem Tryz.infoW68 : (Tryz.prog.info? 68).map (fun i => (i.zero, i.size, i.bytes)) = some (some (.agg #[.int .i64 0, .int .i64 0, .int .i64 0, .int .i64 0, .int .i64 0]), 5, 40) := by kernel_rfl
def mr7T (B b5 : Nat) (wa : Option Addr) (wn wc : Nat) (ta : Option Addr) (tn tc : Nat) (c : ICart) (i : Nat) (v : Value) (w : World) : Prop :=
 match i with
 | 0 => ∃ g, v = .slice (some ⟨g, 0, none⟩) 0 0 ∧ w.ownsRow B 65 4 (.slice (some ⟨g, 0, none⟩) 0 0) 0 []
 | 1 => v = .pointer (some ⟨b5, 8, none⟩)
 | 2 => v = .slice wa wn wc
 | 3 => ∃ g cp, v = .slice (some ⟨g, 0, none⟩) wn cp ∧ w.ownsRow B 65 4 (.slice (some ⟨g, 0, none⟩) wn cp) wn (c.wg.flatMap wgI)
 | 4 => ∃ g, v = .slice (some ⟨g, 0, none⟩) 0 0 ∧ w.ownsRow B 68 5 (.slice (some ⟨g, 0, none⟩) 0 0) 0 []
 | 5 => v = .pointer (some ⟨b5, 9, none⟩)
 | 6 => v = .slice ta tn tc
 | 7 => ∃ g cp, v = .slice (some ⟨g, 0, none⟩) tn cp ∧ w.ownsRow B 68 5 (.slice (some ⟨g, 0, none⟩) tn cp) tn (c.lt.flatMap ltI)
 | 8 => ∃ g cp, v = .slice (some ⟨g, 0, none⟩) wn cp ∧ w.ownsRow B 65 4 (.slice (some ⟨g, 0, none⟩) wn cp) wn (c.wg.flatMap wgI)
 | 9 => ∃ g cp, v = .slice (some ⟨g, 0, none⟩) tn cp ∧ w.ownsRow B 68 5 (.slice (some ⟨g, 0, none⟩) tn cp) tn (c.lt.flatMap ltI)
 | _ => True
theorem mr7_keep {B i : Nat} {v : Value} {w w' : World} (h : mr7T B b5 wa wn wc ta tn tc c i v w) (hb : RelB.G w w') : mr7T B b5 wa wn wc ta tn tc c i v w' := by
 have hb : Below w.heap.size w w' := hb; unfold mr7T at h ⊢
 split at h
 case h_1 => obtain ⟨g, e, h⟩ := h; exact ⟨g, e, own_below h hb⟩
 case h_4 => obtain ⟨g, c, e, h⟩ := h; exact ⟨g, c, e, own_below h hb⟩
 case h_5 => obtain ⟨g, e, h⟩ := h; exact ⟨g, e, own_below h hb⟩
 case h_8 => obtain ⟨g, c, e, h⟩ := h; exact ⟨g, c, e, own_below h hb⟩
 case h_9 => obtain ⟨g, c, e, h⟩ := h; exact ⟨g, c, e, own_below h hb⟩
 case h_10 => obtain ⟨g, c, e, h⟩ := h; exact ⟨g, c, e, own_below h hb⟩
 all_goals exact h
theorem mr7_cg {B i : Nat} {v v' : Value} {w : World} (e : v = v') (h : mr7T B b5 wa wn wc ta tn tc c i v w) : mr7T B b5 wa wn wc ta tn tc c i v' w := e ▸ h
theorem RdG.of_own2 {α : Type} {f : α -> List Value} {e sz n cp : Nat} {w : World} {B : Nat} {A : Option Addr} {L : List α} (hf : ∀ x, (f x).length = sz) (hs : 0 < sz) (h : w.ownsRow B e sz (.slice A n cp) n (L.flatMap f)) (hn : L.length = n) : RdG f sz w w.heap.size A L := by
 rw [<- hn] at h; obtain ⟨A', cq, he, hrd, -⟩ := own_rd hf hs h
 injection he with e1 e2 e3
 rw [e1]; exact hrd
theorem mr7 (hC : MrIn w0 K b5 fa fl fc la ll lc wa wn wc ta tn tc c) (hM : M4 K b11 b12 b13 b14 b15 fl fc ll lc wn wc tn tc cx cy cz ct cu fa la wa ta wx wy tz lt wu c x y z t) : WR5 7 w0 (.pointer (some ⟨b5, 0, none⟩)) (.pointer (some ⟨b11, 0, none⟩)) (.pointer (some ⟨b12, 0, none⟩)) (.pointer (some ⟨b13, 0, none⟩)) (.pointer (some ⟨b14, 0, none⟩)) (.pointer (some ⟨b15, 0, none⟩)) K := by
 unfold WR5 WG
 intros
 have ht5 := hC.t5; have hw3 := hC.w3; have HEW : Hid (c.wg.length = wn) := hC.hP.ewn; have HET : Hid (c.lt.length = tn) := hC.hP.etn
 have HF : Hid (∀ (wz : World) (A1 A2 : Option Addr) (c1 c2 : Nat), Below K.heap.size K wz -> RdG wgI 4 wz wz.heap.size A1 c.wg -> RdG ltI 5 wz wz.heap.size A2 c.lt -> WR4 8 w0 (.pointer (some ⟨b5, 0, none⟩)) (.pointer (some ⟨b11, 0, none⟩)) (.pointer (some ⟨b12, 0, none⟩)) (.pointer (some ⟨b13, 0, none⟩)) (.pointer (some ⟨b14, 0, none⟩)) (.pointer (some ⟨b15, 0, none⟩)) (.slice A1 wn c1) (.slice A2 tn c2) wz) := fun wz A1 A2 c1 c2 hb h1 h2 => mr8 (hC.below hb) (hM.below hb) h1 h2
 have HC := hd9 hC; obtain ⟨I, hi, hz0, hz1, hz2⟩ := info_parts Tryz.infoW65; have HI := hd9 hi; have HI0 := hd9 hz0; have HI1 := hd9 hz1; have HI2 := hd9 hz2; obtain ⟨J, hj, hy0, hy1, hy2⟩ := info_parts Tryz.infoW68; have HJ := hd9 hj; have HJ0 := hd9 hy0; have HJ1 := hd9 hy1; have HJ2 := hd9 hy2; clear hC hM hi hz0 hz1 hz2 hj hy0 hy1 hy2
 conv => arg 2; whnf
 conv => arg 2; arg 2; change mrK 8
 go_upto_region 14 with (fail)
 rename ∀ a w, Code.wp Tryz.prog (mrK 8) _ a w -> _ => hKU
 have HKU := hd9 hKU; clear hKU
 refine HavG.wp_region_tabW (R := RelB) (fun i V w => mr7T K.heap.size b5 wa wn wc ta tn tc c i (V i) w) (fun i w => True) [] [some 138, some 139, some 140, some 141, some 142, some 143, some 144, some 145, some 18, some 19] (by kernel_rfl) (by kernel_rfl) (by rfl) (fun i V w w' => mr7_keep) (fun _ _ => trivial) (fun i hi V V' w h hV => mr7_cg (hV i (.inl rfl)) h) (fun i hi => by cases hi) ?_ ?_
 ·intro i hi oo a' w' ho hag hg hd hps
  match i, hi, ho, hd, hps with
  | 0, _, ho, hd, hps =>
   (simp only [qD9, qF9, sI9] at ho; subst ho)
   refine HavG.tabW_val rfl (by simp) ⟨.slice (some ⟨w'.heap.size, 0, none⟩) 0 0, w'.alloc (.cells #[] 65), ?_, (Below.refl _ _).alloc (Nat.le_refl _) _, fun _ _ _ _ h => h, fun V _ hv => ⟨w'.heap.size, hv, own_base (ownsRow_empty rfl 65 4) (Below.size hg)⟩, fun h => by simp at h⟩
   go_simp
  | 1, _, ho, hd, hps =>
   (simp only [qD9, qE9, qF9, sI9] at ho; subst ho)
   have s5 : a'.tmps[5]?.getD undef = (.pointer (some ⟨b5, 0, none⟩)) := by rw [<- gD9]; exact hag.slot 5 (by kernel_rfl)
   have r5 : a'.tmps.getD 5 undef = (.pointer (some ⟨b5, 0, none⟩)) := hag.slot 5 (by kernel_rfl)
   refine HavG.tabW_val rfl (by simp) ⟨.pointer (some ⟨b5, 8, none⟩), w', ?_, HavG.Rel.refl _ _, fun _ _ _ _ h => h, fun V _ hv => hv, fun h => by simp at h⟩
   go_simp
   try rfl
  | 2, _, ho, hd, hps =>
   (simp only [qD9, qE9, qF9, sI9] at ho; subst ho)
   have d139 : a'.tmps.getD 139 undef = (.pointer (some ⟨b5, 8, none⟩)) := hd 1 (by kernel_rfl) (by decide)
   have c139 : a'.tmps[139]?.getD undef = (.pointer (some ⟨b5, 8, none⟩)) := by rw [<- gD9]; exact d139
   have hk := (HC.out.below hg).box; obtain ⟨q0, q1, q2, q3, q4, q5, q6, q7, q8, q9, ql⟩ := cx31 hk; clear hk
   refine HavG.tabW_val rfl (by simp) ⟨.slice wa wn wc, w', ?_, HavG.Rel.refl _ _, fun _ _ _ _ h => h, fun V _ hv => hv, fun h => by simp at h⟩
   go_simp
   try rfl
  | 3, _, ho, hd, hps =>
   (simp only [qD9, qE9, qF9, sI9] at ho; subst ho)
   obtain ⟨g, e3, h3⟩ : ∃ g, HavG.slot a' 138 = .slice (some ⟨g, 0, none⟩) 0 0 ∧ _ := hd 0 (by kernel_rfl) (by decide)
   have e4 : HavG.slot a' 140 = .slice wa wn wc := hd 2 (by kernel_rfl) (by decide)
   obtain ⟨v', w2, hrun, ⟨g', c', rfl, -⟩, hown, hb⟩ := append_copy (P := Tryz.prog) (f := wgI) (n := wn) (c := wc) (A := wa) (l := c.wg) 28 28 65 I _ 4 32 Tryz.underlying28 HI.out HI0.out HI1.out HI2.out rfl (by decide) wgI_len HEW.out (HC.out.inn.grow hg).hwg (by omega) (by omega) (Below.size hg) h3
   exact HavG.tabW_val rfl (by simp) ⟨_, w2, append_oper rfl e3 e4 hrun, hb, fun _ _ _ _ h => h, fun V _ hv => ⟨_, _, hv, hown⟩, fun h => by simp at h⟩
  | 4, _, ho, hd, hps =>
   (simp only [qD9, qE9, qF9, sI9] at ho; subst ho)
   refine HavG.tabW_val rfl (by simp) ⟨.slice (some ⟨w'.heap.size, 0, none⟩) 0 0, w'.alloc (.cells #[] 68), ?_, (Below.refl _ _).alloc (Nat.le_refl _) _, fun _ _ _ _ h => h, fun V _ hv => ⟨w'.heap.size, hv, own_base (ownsRow_empty rfl 68 5) (Below.size hg)⟩, fun h => by simp at h⟩
   go_simp
  | 5, _, ho, hd, hps =>
   (simp only [qD9, qE9, qF9, sI9] at ho; subst ho)
   have s5 : a'.tmps[5]?.getD undef = (.pointer (some ⟨b5, 0, none⟩)) := by rw [<- gD9]; exact hag.slot 5 (by kernel_rfl)
   have r5 : a'.tmps.getD 5 undef = (.pointer (some ⟨b5, 0, none⟩)) := hag.slot 5 (by kernel_rfl)
   refine HavG.tabW_val rfl (by simp) ⟨.pointer (some ⟨b5, 9, none⟩), w', ?_, HavG.Rel.refl _ _, fun _ _ _ _ h => h, fun V _ hv => hv, fun h => by simp at h⟩
   go_simp
   try rfl
  | 6, _, ho, hd, hps =>
   (simp only [qD9, qE9, qF9, sI9] at ho; subst ho)
   have d143 : a'.tmps.getD 143 undef = (.pointer (some ⟨b5, 9, none⟩)) := hd 5 (by kernel_rfl) (by decide)
   have c143 : a'.tmps[143]?.getD undef = (.pointer (some ⟨b5, 9, none⟩)) := by rw [<- gD9]; exact d143
   have hk := (HC.out.below hg).box; obtain ⟨q0, q1, q2, q3, q4, q5, q6, q7, q8, q9, ql⟩ := cx31 hk; clear hk
   refine HavG.tabW_val rfl (by simp) ⟨.slice ta tn tc, w', ?_, HavG.Rel.refl _ _, fun _ _ _ _ h => h, fun V _ hv => hv, fun h => by simp at h⟩
   go_simp
   try rfl
  | 7, _, ho, hd, hps =>
   (simp only [qD9, qE9, qF9, sI9] at ho; subst ho)
   obtain ⟨g, e3, h3⟩ : ∃ g, HavG.slot a' 142 = .slice (some ⟨g, 0, none⟩) 0 0 ∧ _ := hd 4 (by kernel_rfl) (by decide)
   have e4 : HavG.slot a' 144 = .slice ta tn tc := hd 6 (by kernel_rfl) (by decide)
   obtain ⟨v', w2, hrun, ⟨g', c', rfl, -⟩, hown, hb⟩ := append_copy (P := Tryz.prog) (f := ltI) (n := tn) (c := tc) (A := ta) (l := c.lt) 29 29 68 J _ 5 40 Tryz.underlying29 HJ.out HJ0.out HJ1.out HJ2.out rfl (by decide) ltI_len HET.out (HC.out.inn.grow hg).hlt (by omega) (by omega) (Below.size hg) h3
   exact HavG.tabW_val rfl (by simp) ⟨_, w2, append_oper rfl e3 e4 hrun, hb, fun _ _ _ _ h => h, fun V _ hv => ⟨_, _, hv, hown⟩, fun h => by simp at h⟩
  | 8, _, ho, hd, hps =>
   (simp only [qD9, qE9, qF9, sI9] at ho; subst ho)
   obtain ⟨g, c, e9, h9⟩ : ∃ g c, HavG.slot a' 141 = .slice (some ⟨g, 0, none⟩) wn c ∧ _ := hd 3 (by kernel_rfl) (by decide)
   have d141 : a'.tmps.getD 141 undef = .slice (some ⟨g, 0, none⟩) wn c := e9; have c141 : a'.tmps[141]?.getD undef = .slice (some ⟨g, 0, none⟩) wn c := by rw [<- gD9]; exact d141
   refine HavG.tabW_val rfl (by simp) ⟨.slice (some ⟨g, 0, none⟩) wn c, w', ?_, HavG.Rel.refl _ _, fun _ _ _ _ h => h, fun V _ hv => ⟨_, _, hv, h9⟩, fun h => by simp at h⟩
   go_simp
   try rfl
  | 9, _, ho, hd, hps =>
   (simp only [qD9, qE9, qF9, sI9] at ho; subst ho)
   obtain ⟨g, c, e9, h9⟩ : ∃ g c, HavG.slot a' 145 = .slice (some ⟨g, 0, none⟩) tn c ∧ _ := hd 7 (by kernel_rfl) (by decide)
   have d145 : a'.tmps.getD 145 undef = .slice (some ⟨g, 0, none⟩) tn c := e9; have c145 : a'.tmps[145]?.getD undef = .slice (some ⟨g, 0, none⟩) tn c := by rw [<- gD9]; exact d145
   refine HavG.tabW_val rfl (by simp) ⟨.slice (some ⟨g, 0, none⟩) tn c, w', ?_, HavG.Rel.refl _ _, fun _ _ _ _ h => h, fun V _ hv => ⟨_, _, hv, h9⟩, fun h => by simp at h⟩
   go_simp
   try rfl
  | j + 10, hj, _, _, _ => exact absurd hj (by simp)
 intro f w2 hg hf _; obtain ⟨g0, q0, -⟩ : ∃ g, f 138 = .slice (some ⟨g, 0, none⟩) 0 0 ∧ _ := hf 0 (by decide)
 have q1 : f 139 = _ := hf 1 (by decide)
 have q2 : f 140 = _ := hf 2 (by decide)
 obtain ⟨g3, c3, q3, -⟩ : ∃ g cp, f 141 = .slice (some ⟨g, 0, none⟩) wn cp ∧ _ := hf 3 (by decide)
 obtain ⟨g4, q4, -⟩ : ∃ g, f 142 = .slice (some ⟨g, 0, none⟩) 0 0 ∧ _ := hf 4 (by decide)
 have q5 : f 143 = _ := hf 5 (by decide)
 have q6 : f 144 = _ := hf 6 (by decide)
 obtain ⟨g7, c7, q7, -⟩ : ∃ g cp, f 145 = .slice (some ⟨g, 0, none⟩) tn cp ∧ _ := hf 7 (by decide)
 obtain ⟨g8, c8, q8, h8⟩ : ∃ g cp, f 18 = .slice (some ⟨g, 0, none⟩) wn cp ∧ w2.ownsRow K.heap.size 65 4 (.slice (some ⟨g, 0, none⟩) wn cp) wn (c.wg.flatMap wgI) := hf 8 (by decide)
 obtain ⟨g9, c9, q9, h9⟩ : ∃ g cp, f 19 = .slice (some ⟨g, 0, none⟩) tn cp ∧ w2.ownsRow K.heap.size 68 5 (.slice (some ⟨g, 0, none⟩) tn cp) tn (c.lt.flatMap ltI) := hf 9 (by decide)
 simp only [List.filterMap, HavG.puts, List.foldl_cons, List.foldl_nil, Act.put, List.setIfInBounds_toArray, List.set_cons_succ, List.set_cons_zero]; rw [q0, q1, q2, q3, q4, q5, q6, q7, q8, q9]; have HB2 : Hid (Below K.heap.size K w2) := hg; have HO8 : Hid (RdG wgI 4 w2 w2.heap.size (some ⟨g8, 0, none⟩) c.wg) := RdG.of_own2 wgI_len (by decide) h8 HEW.out
 have HO9 : Hid (RdG ltI 5 w2 w2.heap.size (some ⟨g9, 0, none⟩) c.lt) := RdG.of_own2 ltI_len (by decide) h9 HET.out
 clear hf q0 q1 q2 q3 q4 q5 q6 q7 q8 q9 h8 h9 hg; go_wp2; exact HKU.out _ _ ((HF.out w2 _ _ _ _ HB2.out HO8.out HO9.out).go.go)
end
end
section
open Go.RowKit Go.Hav Go.Shelf Go.Sq
theorem RdG.keep {α : Type} {f : α -> List Value} {sz : Nat} {w w' : World} {B : Nat} {A : Option Addr} {l : List α} (h : RdG f sz w B A l) (hk : ∀ b, b < B -> (∃ off, A = some ⟨b, off, none⟩) -> w'.heap[b]? = w.heap[b]?) : RdG f sz w' B A l := fun k x hx => by
 obtain ⟨b, off, e, hb, hc⟩ := h k x hx
 exact ⟨b, off, e, hb, fun i u hu => (World.cell?_of_block (a := ⟨b, _, none⟩) (hk b hb ⟨off, e⟩)).trans (hc i u hu)⟩
end
end Go.Proofs.YtgmfhngcehkibaaGreat
