/- The reference of the carts: Check, Worth. Condition: what the statements say. -/
import Derived.Test.YtgmfhngcehkibaaGreatPkT22
set_option maxRecDepth 100000
set_option maxHeartbeats 6400000
namespace Go.Proofs.YtgmfhngcehkibaaGreat
open Go.RowKit Go.Hav Go.Shelf Go.Sq
attribute [local go_sem] Oper.semAt_some
theorem checkV_find {c : ICart} {ps : List Int} (h : planB c ps = true) : checkV c ps = (findR c.tm c.wg c.lt ps 0 c.lt.length).getD (0, 0) := by
 obtain ⟨h1, h2⟩ := planB_parts h; unfold checkV; rw [check_find h1 h2]
theorem findR_ne {tm : IWag → Nat} {ws : List IWag} {lt : List ILot} {ps : List Int} {q : Nat × Nat} : ∀ {n k : Nat}, findR tm ws lt ps k n = some q → q.2 ≠ 0
 | 0, _, h => by cases h
 | n + 1, k, h => by
  rw [findR] at h
  split at h
  ·exact findR_ne h
  ·rename_i h2; cases h; exact h2
section
variable {fa la wa ta : Option Addr} {fl fc ll lc wn wc tn tc : Nat} {c : ICart}
variable {w : World}
theorem rCheck_any {pa : Option Addr} {pn pc : Nat} {ps : List Int} (w : World) (hP : CtIn w w.heap.size fa fl la ll wa wn ta tn c) (hL : PlIn w w.heap.size pa pn ps) : Calls Tryz.prog 19 #[(.agg #[.int .i64 c.riv.depth.lo, .int .i64 c.riv.depth.hi, .int .i64 c.riv.fall.lo, .int .i64 c.riv.fall.hi, .int .i64 c.riv.days, .slice fa fl fc, .slice la ll lc, .int .i64 c.draws, .slice wa wn wc, .slice ta tn tc]), .slice pa pn pc] w fun e w' => e = .returned (.tuple #[.int .i64 ((checkW c ps).1 : Nat), .int .i64 ((checkW c ps).2 : Nat), .int .i64 (checkE c ps : Nat)]) ∧ Below w.heap.size w w' := by
 have HP := Lib.hid hP; have HL := Lib.hid hL; obtain ⟨ok, hok⟩ : ∃ ok, okC c = ok := ⟨_, rfl⟩; obtain ⟨pl, hpl⟩ : ∃ pl, planB c ps = pl := ⟨_, rfl⟩; obtain ⟨EE, hEE⟩ : ∃ EE, openE c pl = EE := ⟨_, rfl⟩; have HOK := Lib.hid hok; have HPL := Lib.hid hpl; have HEE := Lib.hid hEE
 have HBAD : Hid (ok = false → EE = 1) := fun h => by rw [← hEE]; unfold openE; rw [hok, h, if_pos rfl]
 have HEX0 : Hid (ok = false → openE c false = EE) := fun h => by rw [← hEE]; unfold openE; rw [hok, h, if_pos rfl, if_pos rfl]
 have HCE : Hid (checkE c ps = if EE = 0 then (if (checkV c ps).2 = 0 then 4 else 0) else EE) := by show _ = _; unfold checkE; rw [hpl, hEE]
 have HCW : Hid (checkW c ps = if checkE c ps = 0 then checkV c ps else (0, 0)) := rfl
 have mpn := hL.max; clear hP hL hok hpl hEE
 have HFIN0 : Hid (EE ≠ 0 → checkW c ps = (0, 0) ∧ checkE c ps = EE) := fun h => by
  have h1 := HCE.out; rw [if_neg h] at h1; exact ⟨by rw [HCW.out, h1, if_neg h], h1⟩
 obtain ⟨W, hW⟩ : ∃ W, W = w.alloc (.cells #[.int .i64 c.riv.depth.lo, .int .i64 c.riv.depth.hi, .int .i64 c.riv.fall.lo, .int .i64 c.riv.fall.hi, .int .i64 c.riv.days, .slice fa fl fc, .slice la ll lc, .int .i64 c.draws, .slice wa wn wc, .slice ta tn tc] 31) := ⟨_, rfl⟩; obtain ⟨b1, hb1⟩ : ∃ b, b = w.heap.size := ⟨_, rfl⟩; have HK : Hid (Blk W b1 31 #[.int .i64 c.riv.depth.lo, .int .i64 c.riv.depth.hi, .int .i64 c.riv.fall.lo, .int .i64 c.riv.fall.hi, .int .i64 c.riv.days, .slice fa fl fc, .slice la ll lc, .int .i64 c.draws, .slice wa wn wc, .slice ta tn tc]) := by rw [hW, hb1]; exact Blk.new w 31 _
 have HB0 : Hid (Below w.heap.size w W) := by rw [hW]; exact (Below.refl _ _).alloc (Nat.le_refl _) _
 go_enter Tryz.func19, Tryz.ntmps19
 go_upto_region 1 with (fail); rw [← hW, ← hb1]; clear hW hb1; have hx := HK.out; obtain ⟨q0, q1, q2, q3, q4, q5, q6, q7, q8, q9, ql⟩ := cx31 hx; clear hx; cases ok
 ·have HEX := Lib.hid (HEX0.out rfl); have HNZ : Hid (EE ≠ 0) := by show _ ≠ _; rw [HBAD.out rfl]; omega
  refine wp_region_havoc [(0,false),(1,false),(2,false),(3,false),(4,false),(5,false),(6,false),(7,false),(8,false),(9,false)] [] (fun _ _ => False) (by kernel_rfl) (by kernel_rfl) (fun _ _ _ _ h => h.elim) ?_
  iterate 2 (apply hav_same (by exact ho rfl) (by kernel_rfl); (focus (intro wv hgv _; have hcv := cvB hgv; (try go_simp); try rfl; done)); simp only [Act.put, List.setIfInBounds_toArray, List.set_cons_succ, List.set_cons_zero])
  (apply hav_call (by exact ho rfl) (by kernel_rfl); (focus (intro wv; go_simp; try exact ⟨rfl, rfl⟩; done)); (focus (intro wv hgv _; refine (rcart_any (fa := fa) (fl := fl) (fc := fc) (la := la) (ll := ll) (lc := lc) (wa := wa) (wn := wn) (wc := wc) (ta := ta) (tn := tn) (tc := tc) wv (HP.out.grow (HB0.out.trans (hgv.mono HB0.out.size)))).mono ?_; rw [HOK.out]; rintro e w' ⟨rfl, hb⟩; exact ⟨rfl, hb⟩; done)); simp only [Act.put, List.setIfInBounds_toArray, List.set_cons_succ, List.set_cons_zero])
  (apply hav_same (by exact ho rfl) (by kernel_rfl); (focus (intro wv hgv _; have hcv := cvB hgv; (try go_simp); try rfl; done)); simp only [Act.put, List.setIfInBounds_toArray, List.set_cons_succ, List.set_cons_zero])
  iterate 3 (refine hav_skip (by exact ho rfl) (by kernel_rfl) ?_; simp only [Act.put, List.setIfInBounds_toArray, List.set_cons_succ, List.set_cons_zero])
  (apply hav_same (by exact ho rfl) (by kernel_rfl); (focus (intro wv hgv _; have hcv := cvB hgv; (try go_simp); try rfl; done)); simp only [Act.put, List.setIfInBounds_toArray, List.set_cons_succ, List.set_cons_zero])
  (apply hav_call (by exact ho rfl) (by kernel_rfl); (focus (intro wv; go_simp; try exact ⟨rfl, rfl⟩; done)); (focus (intro wv hgv _; refine (rcheck_any (fa := fa) (fl := fl) (fc := fc) (la := la) (ll := ll) (lc := lc) (wa := wa) (wn := wn) (wc := wc) (ta := ta) (tn := tn) (tc := tc) _ wv (HP.out.grow (HB0.out.trans (hgv.mono HB0.out.size)))).mono ?_; rw [HEX.out]; rintro e w' ⟨rfl, hb⟩; exact ⟨rfl, hb⟩; done)); simp only [Act.put, List.setIfInBounds_toArray, List.set_cons_succ, List.set_cons_zero])
  (apply hav_same (by exact ho rfl) (by kernel_rfl); (focus (intro wv hgv _; have hcv := cvB hgv; (try go_simp); try rfl; done)); simp only [Act.put, List.setIfInBounds_toArray, List.set_cons_succ, List.set_cons_zero])
  refine hav_end (fun w5 hgz _ => ?_)
  simp only [List.filterMap]; have hb5 : Below W.heap.size W w5 := hgz; have HB5 : Hid (Below w.heap.size w w5) := HB0.out.trans (hb5.mono HB0.out.size); have HX5 : Hid (Below W.heap.size W w5) := hb5; have HK5 := Lib.hid (HK.out.below hb5 HK.out.lt); clear hgz hb5; clear q0 q1 q2 q3 q4 q5 q6 q7 q8 q9 ql; have h1 : ((EE : Int) != 0) = true := by simp; exact HNZ.out
  have h2 : ((EE : Int) == 0) = false := by simp; exact HNZ.out
  go_wp2; go_ret3
  exact ⟨by rw [(HFIN0.out HNZ.out).1, (HFIN0.out HNZ.out).2]; rfl, HB5.out⟩
 have HEX := HEE
 refine wp_region_havoc [(0,false),(1,false),(2,false),(3,false),(4,false),(5,false),(6,false),(7,false),(8,false),(9,false)] [] (fun _ _ => False) (by kernel_rfl) (by kernel_rfl) (fun _ _ _ _ h => h.elim) ?_
 iterate 2 (apply hav_same (by exact ho rfl) (by kernel_rfl); (focus (intro wv hgv _; have hcv := cvB hgv; (try go_simp); try rfl; done)); simp only [Act.put, List.setIfInBounds_toArray, List.set_cons_succ, List.set_cons_zero])
 (apply hav_call (by exact ho rfl) (by kernel_rfl); (focus (intro wv; go_simp; try exact ⟨rfl, rfl⟩; done)); (focus (intro wv hgv _; refine (rcart_any (fa := fa) (fl := fl) (fc := fc) (la := la) (ll := ll) (lc := lc) (wa := wa) (wn := wn) (wc := wc) (ta := ta) (tn := tn) (tc := tc) wv (HP.out.grow (HB0.out.trans (hgv.mono HB0.out.size)))).mono ?_; rw [HOK.out]; rintro e w' ⟨rfl, hb⟩; exact ⟨rfl, hb⟩; done)); simp only [Act.put, List.setIfInBounds_toArray, List.set_cons_succ, List.set_cons_zero])
 (apply hav_same (by exact ho rfl) (by kernel_rfl); (focus (intro wv hgv _; have hcv := cvB hgv; (try go_simp); try rfl; done)); simp only [Act.put, List.setIfInBounds_toArray, List.set_cons_succ, List.set_cons_zero])
 iterate 2 (apply hav_same (by exact ho rfl) (by kernel_rfl); (focus (intro wv hgv _; have hcv := cvB hgv; (try go_simp); try rfl; done)); simp only [Act.put, List.setIfInBounds_toArray, List.set_cons_succ, List.set_cons_zero])
 (apply hav_call (by exact ho rfl) (by kernel_rfl); (focus (intro wv; go_simp; try exact ⟨rfl, rfl⟩; done)); (focus (intro wv hgv _; refine (rplan_any (fa := fa) (fl := fl) (fc := fc) (la := la) (ll := ll) (lc := lc) (wa := wa) (wn := wn) (wc := wc) (ta := ta) (tn := tn) (tc := tc) wv (HP.out.grow (HB0.out.trans (hgv.mono HB0.out.size))) (HL.out.grow (HB0.out.trans (hgv.mono HB0.out.size)))).mono ?_; rw [HPL.out]; rintro e w' ⟨rfl, hb⟩; exact ⟨rfl, hb⟩; done)); simp only [Act.put, List.setIfInBounds_toArray, List.set_cons_succ, List.set_cons_zero])
 (apply hav_same (by exact ho rfl) (by kernel_rfl); (focus (intro wv hgv _; have hcv := cvB hgv; (try go_simp); try rfl; done)); simp only [Act.put, List.setIfInBounds_toArray, List.set_cons_succ, List.set_cons_zero])
 (apply hav_call (by exact ho rfl) (by kernel_rfl); (focus (intro wv; go_simp; try exact ⟨rfl, rfl⟩; done)); (focus (intro wv hgv _; refine (rcheck_any (fa := fa) (fl := fl) (fc := fc) (la := la) (ll := ll) (lc := lc) (wa := wa) (wn := wn) (wc := wc) (ta := ta) (tn := tn) (tc := tc) _ wv (HP.out.grow (HB0.out.trans (hgv.mono HB0.out.size)))).mono ?_; rw [HEX.out]; rintro e w' ⟨rfl, hb⟩; exact ⟨rfl, hb⟩; done)); simp only [Act.put, List.setIfInBounds_toArray, List.set_cons_succ, List.set_cons_zero])
 (apply hav_same (by exact ho rfl) (by kernel_rfl); (focus (intro wv hgv _; have hcv := cvB hgv; (try go_simp); try rfl; done)); simp only [Act.put, List.setIfInBounds_toArray, List.set_cons_succ, List.set_cons_zero])
 refine hav_end (fun w5 hgz _ => ?_)
 simp only [List.filterMap]; have hb5 : Below W.heap.size W w5 := hgz; have HB5 : Hid (Below w.heap.size w w5) := HB0.out.trans (hb5.mono HB0.out.size); have HX5 : Hid (Below W.heap.size W w5) := hb5; have HK5 := Lib.hid (HK.out.below hb5 HK.out.lt); clear hgz hb5; clear q0 q1 q2 q3 q4 q5 q6 q7 q8 q9 ql
 by_cases h0 : EE = 0
 case neg =>
  have HNZ := Lib.hid h0; have h1 : ((EE : Int) != 0) = true := by simp; exact h0
  have h2 : ((EE : Int) == 0) = false := by simp; exact h0
  clear h0; go_wp2; go_ret3
  exact ⟨by rw [(HFIN0.out HNZ.out).1, (HFIN0.out HNZ.out).2]; rfl, HB5.out⟩
 subst h0; obtain ⟨-, hpl1, -⟩ := openE_zero HEE.out; subst hpl1; obtain ⟨hlen, hps⟩ := planB_parts HPL.out; have hpt : tn = pn := by rw [← HP.out.etn, ← HL.out.len, hlen]
 subst hpt; have HLEN := Lib.hid HL.out.len; have HPS := Lib.hid hps; rw [if_pos rfl, checkV_find HPL.out] at HCE; rw [checkV_find HPL.out] at HCW; have hx := HK5.out; obtain ⟨q0, q1, q2, q3, q4, q5, q6, q7, q8, q9, ql⟩ := cx31 hx; clear hx hlen hps; go_wp2_with fail; refine (rtimes_any (fa := fa) (fl := fl) (fc := fc) (la := la) (ll := ll) (lc := lc) (wa := wa) (wn := wn) (wc := wc) (ta := ta) (tn := tn) (tc := tc) HEE.out w5 (HP.out.grow HB5.out)).mono ?_; rintro e w6 ⟨At, ct, rfl, htr, hb⟩; have HT : Hid (RdG inI 1 w6 w6.heap.size At (timesL c)) := htr; have HB6 : Hid (Below w.heap.size w w6) := HB5.out.trans (hb.mono HB5.out.size); have HX6 : Hid (Below W.heap.size W w6) := HX5.out.trans (hb.mono HX5.out.size); clear hb htr; clear q0 q1 q2 q3 q4 q5 q6 q7 q8 q9 ql; go_wp2
 go_loopw [9, 10] (fun j _ wr => ∃ n : Nat, n ≤ tn ∧ j = .int .i64 n ∧ Hid (∀ j, j < n → ruleR c.tm c.wg c.lt ps j = 0) ∧ Hid (Below w.heap.size w wr) ∧ Hid (Below W.heap.size W wr) ∧ Hid (Below w6.heap.size w6 wr)) (fun j _ _ => tn - (intOf j).toNat)
 case atStart => exact ⟨0, by omega, rfl, fun j h => by omega, HB6, HX6, Below.refl _ _⟩
 case round =>
  obtain ⟨n, hn, rfl, HZ, HBR, HXR, HTR⟩ := hrel
  by_cases hlt : n < tn
  ·have HKR := Lib.hid (HK.out.below HXR.out HK.out.lt); obtain ⟨rr, hrr⟩ : ∃ rr, ruleR c.tm c.wg c.lt ps n = rr := ⟨_, rfl⟩; have HRR := Lib.hid hrr; have hx := HKR.out; obtain ⟨q0, q1, q2, q3, q4, q5, q6, q7, q8, q9, ql⟩ := cx31 hx; clear hx hrr; go_wp2_with fail; refine (rrule_any (fa := fa) (fl := fl) (fc := fc) (la := la) (ll := ll) (lc := lc) (wa := wa) (wn := wn) (wc := wc) (ta := ta) (tn := tn) (tc := tc) (openE_zero HEE.out).1 HPS.out n (by rw [HLEN.out]; exact hlt) hlt HLEN.out wr (HP.out.grow HBR.out) (HT.out.grow HTR.out) (HL.out.row.grow HBR.out)).mono ?_
   rw [HRR.out]; rintro e w7 ⟨rfl, hb⟩; have HB7 : Hid (Below w.heap.size w w7) := HBR.out.trans (hb.mono HBR.out.size); have HX7 : Hid (Below W.heap.size W w7) := HXR.out.trans (hb.mono HXR.out.size); have HT7 : Hid (Below w6.heap.size w6 w7) := HTR.out.trans (hb.mono HTR.out.size); clear hb; clear q0 q1 q2 q3 q4 q5 q6 q7 q8 q9 ql
   by_cases h0 : rr = 0
   ·subst h0
    have HZ1 : Hid (∀ j, j < n + 1 → ruleR c.tm c.wg c.lt ps j = 0) := fun j hj => by
     by_cases e : j = n
     ·rw [e]; exact HRR.out
     ·exact HZ.out j (by omega)
    go_wp2; go_roundw
    case rel => exact ⟨n + 1, by omega, by go_num, HZ1, HB7, HX7, HT7⟩
    case measure => simp [intOf]; omega
   ·have HFF := Lib.hid (findR_some (tm := c.tm) (ws := c.wg) (lt := c.lt) (ps := ps) (i := n) (by rw [HRR.out]; exact h0) c.lt.length 0 (by omega) (by have := HP.out.etn; omega) (fun j _ h => HZ.out j h))
    rw [HRR.out] at HFF
    have HV : Hid (checkE c ps = 0 ∧ checkW c ps = (n, rr)) := by
     have h1 : checkE c ps = 0 := by rw [HCE.out, HFF.out]; simp [h0]
     exact ⟨h1, by rw [HCW.out, h1, if_pos rfl, HFF.out]; rfl⟩
    have h1 : ((rr : Int) != 0) = true := by simp; exact h0
    have h2 : ((rr : Int) == 0) = false := by simp; exact h0
    clear h0; go_wp2; go_ret3
    exact ⟨by rw [HV.out.1, HV.out.2]; rfl, HB7.out⟩
  ·obtain rfl : n = tn := by omega
   have HFF : Hid (findR c.tm c.wg c.lt ps 0 c.lt.length = none) := (findR_none c.lt.length 0).2 (fun j _ h => HZ.out j (by have := HP.out.etn; omega))
   have HV : Hid (checkE c ps = 4 ∧ checkW c ps = (0, 0)) := by
    have h1 : checkE c ps = 4 := by rw [HCE.out, HFF.out]; simp
    exact ⟨h1, by rw [HCW.out, h1]; simp⟩
   go_wp2; go_ret3
   exact ⟨by rw [HV.out.1, HV.out.2]; rfl, HBR.out⟩
theorem rWorth_any {pa : Option Addr} {pn pc : Nat} {ps : List Int} (w : World) (hP : CtIn w w.heap.size fa fl la ll wa wn ta tn c) (hL : PlIn w w.heap.size pa pn ps) : Calls Tryz.prog 21 #[(.agg #[.int .i64 c.riv.depth.lo, .int .i64 c.riv.depth.hi, .int .i64 c.riv.fall.lo, .int .i64 c.riv.fall.hi, .int .i64 c.riv.days, .slice fa fl fc, .slice la ll lc, .int .i64 c.draws, .slice wa wn wc, .slice ta tn tc]), .slice pa pn pc] w fun e w' => e = .returned (.tuple #[spanV (worthV c ps), .int .i64 (worthE c ps : Nat)]) ∧ Below w.heap.size w w' := by
 have HP := Lib.hid hP; have HL := Lib.hid hL; obtain ⟨ok, hok⟩ : ∃ ok, okC c = ok := ⟨_, rfl⟩; obtain ⟨pl, hpl⟩ : ∃ pl, planB c ps = pl := ⟨_, rfl⟩; obtain ⟨EE, hEE⟩ : ∃ EE, openE c pl = EE := ⟨_, rfl⟩; have HOK := Lib.hid hok; have HPL := Lib.hid hpl; have HEE := Lib.hid hEE
 have HBAD : Hid (ok = false → EE = 1) := fun h => by rw [← hEE]; unfold openE; rw [hok, h, if_pos rfl]
 have HEX0 : Hid (ok = false → openE c false = EE) := fun h => by rw [← hEE]; unfold openE; rw [hok, h, if_pos rfl, if_pos rfl]
 have HCE : Hid (worthE c ps = if EE = 0 then (if (checkV c ps).2 = 0 then 0 else 11) else EE) := by show _ = _; unfold worthE; rw [hpl, hEE]
 have HCW : Hid (worthV c ps = if worthE c ps = 0 then worthS c ps else (0, 0)) := rfl
 have mpn := hL.max; clear hP hL hok hpl hEE
 have HFIN0 : Hid (EE ≠ 0 → worthV c ps = (0, 0) ∧ worthE c ps = EE) := fun h => by
  have h1 := HCE.out; rw [if_neg h] at h1; exact ⟨by rw [HCW.out, h1, if_neg h], h1⟩
 obtain ⟨W, hW⟩ : ∃ W, W = (w.alloc (.cells #[.int .i64 c.riv.depth.lo, .int .i64 c.riv.depth.hi, .int .i64 c.riv.fall.lo, .int .i64 c.riv.fall.hi, .int .i64 c.riv.days, .slice fa fl fc, .slice la ll lc, .int .i64 c.draws, .slice wa wn wc, .slice ta tn tc] 31)).alloc (.cells #[.int .i64 0, .int .i64 0] 23) := ⟨_, rfl⟩; obtain ⟨b1, hb1⟩ : ∃ b, b = w.heap.size := ⟨_, rfl⟩; obtain ⟨b2, hb2⟩ : ∃ b, b = w.heap.size + 1 := ⟨_, rfl⟩; have HB0 : Hid (Below w.heap.size w W) := by rw [hW]; exact ((Below.refl _ _).alloc (Nat.le_refl _) _).alloc (by simp) _
 have HK : Hid (Blk W b1 31 #[.int .i64 c.riv.depth.lo, .int .i64 c.riv.depth.hi, .int .i64 c.riv.fall.lo, .int .i64 c.riv.fall.hi, .int .i64 c.riv.days, .slice fa fl fc, .slice la ll lc, .int .i64 c.draws, .slice wa wn wc, .slice ta tn tc]) := by rw [hW, hb1]; exact (Blk.new w 31 _).alloc _
 have HX2 : Hid (Blk W b2 23 #[.int .i64 0, .int .i64 0]) := by rw [hW, hb2]; exact Blk.new_ (by simp) 23 _
 have HN : Hid (w.heap.size ≤ b2) := by show _ ≤ _; omega
 have HFIN : Hid (∀ (X : World) (x y : Int), Below w.heap.size w X → Blk X b2 23 #[.int .i64 0, .int .i64 0] → Below w.heap.size w ((X.setCell ⟨b2, 0, none⟩ (.int .i64 x)).setCell ⟨b2, 1, none⟩ (.int .i64 y)) ∧ Blk ((X.setCell ⟨b2, 0, none⟩ (.int .i64 x)).setCell ⟨b2, 1, none⟩ (.int .i64 y)) b2 23 #[.int .i64 x, .int .i64 y]) := fun X x y hb hk => ⟨(hb.setCell (p := ⟨b2, 0, none⟩) HN.out _).setCell (p := ⟨b2, 1, none⟩) HN.out _, by have h := (hk.set_ 0 (.int .i64 x)).set_ 1 (.int .i64 y); simpa using h⟩
 go_enter Tryz.func21, Tryz.ntmps21
 go_upto_region 1 with (fail); rw [← hW, ← hb2, ← hb1]; clear hW hb1 hb2; have hx := HK.out; obtain ⟨q0, q1, q2, q3, q4, q5, q6, q7, q8, q9, ql⟩ := cx31 hx; clear hx; cases ok
 ·have HEX := Lib.hid (HEX0.out rfl); have HNZ : Hid (EE ≠ 0) := by show _ ≠ _; rw [HBAD.out rfl]; omega
  refine wp_region_havoc [(0,false),(1,false),(2,false),(3,false),(4,false),(5,false),(6,false),(7,false),(8,false),(9,false)] [] (fun _ _ => False) (by kernel_rfl) (by kernel_rfl) (fun _ _ _ _ h => h.elim) ?_
  iterate 2 (apply hav_same (by exact ho rfl) (by kernel_rfl); (focus (intro wv hgv _; have hcv := cvB hgv; (try go_simp); try rfl; done)); simp only [Act.put, List.setIfInBounds_toArray, List.set_cons_succ, List.set_cons_zero])
  (apply hav_call (by exact ho rfl) (by kernel_rfl); (focus (intro wv; go_simp; try exact ⟨rfl, rfl⟩; done)); (focus (intro wv hgv _; refine (rcart_any (fa := fa) (fl := fl) (fc := fc) (la := la) (ll := ll) (lc := lc) (wa := wa) (wn := wn) (wc := wc) (ta := ta) (tn := tn) (tc := tc) wv (HP.out.grow (HB0.out.trans (hgv.mono HB0.out.size)))).mono ?_; rw [HOK.out]; rintro e w' ⟨rfl, hb⟩; exact ⟨rfl, hb⟩; done)); simp only [Act.put, List.setIfInBounds_toArray, List.set_cons_succ, List.set_cons_zero])
  (apply hav_same (by exact ho rfl) (by kernel_rfl); (focus (intro wv hgv _; have hcv := cvB hgv; (try go_simp); try rfl; done)); simp only [Act.put, List.setIfInBounds_toArray, List.set_cons_succ, List.set_cons_zero])
  iterate 3 (refine hav_skip (by exact ho rfl) (by kernel_rfl) ?_; simp only [Act.put, List.setIfInBounds_toArray, List.set_cons_succ, List.set_cons_zero])
  (apply hav_same (by exact ho rfl) (by kernel_rfl); (focus (intro wv hgv _; have hcv := cvB hgv; (try go_simp); try rfl; done)); simp only [Act.put, List.setIfInBounds_toArray, List.set_cons_succ, List.set_cons_zero])
  (apply hav_call (by exact ho rfl) (by kernel_rfl); (focus (intro wv; go_simp; try exact ⟨rfl, rfl⟩; done)); (focus (intro wv hgv _; refine (rcheck_any (fa := fa) (fl := fl) (fc := fc) (la := la) (ll := ll) (lc := lc) (wa := wa) (wn := wn) (wc := wc) (ta := ta) (tn := tn) (tc := tc) _ wv (HP.out.grow (HB0.out.trans (hgv.mono HB0.out.size)))).mono ?_; rw [HEX.out]; rintro e w' ⟨rfl, hb⟩; exact ⟨rfl, hb⟩; done)); simp only [Act.put, List.setIfInBounds_toArray, List.set_cons_succ, List.set_cons_zero])
  (apply hav_same (by exact ho rfl) (by kernel_rfl); (focus (intro wv hgv _; have hcv := cvB hgv; (try go_simp); try rfl; done)); simp only [Act.put, List.setIfInBounds_toArray, List.set_cons_succ, List.set_cons_zero])
  refine hav_end (fun w5 hgz _ => ?_)
  simp only [List.filterMap]; have hb5 : Below W.heap.size W w5 := hgz; have HB5 : Hid (Below w.heap.size w w5) := HB0.out.trans (hb5.mono HB0.out.size); have HX5 : Hid (Below W.heap.size W w5) := hb5; have HK5 := Lib.hid (HK.out.below hb5 HK.out.lt); clear hgz hb5; clear q0 q1 q2 q3 q4 q5 q6 q7 q8 q9 ql; have h1 : ((EE : Int) != 0) = true := by simp; exact HNZ.out
  have h2 : ((EE : Int) == 0) = false := by simp; exact HNZ.out
  have HQ2 := Lib.hid (HX2.out.below HX5.out HX2.out.lt); have z0 := HQ2.out.cell 0; have z1 := HQ2.out.cell 1; have f0 := HQ2.out.frozen 0; have f1 := HQ2.out.frozen 1; have zl := HQ2.out.lt; simp at z0 z1; obtain ⟨k1, k2⟩ := HFIN.out w5 0 0 HB5.out HQ2.out; go_wp2; have k0 := k2.cell 0; have k1' := k2.cell 1; simp at k0 k1'; exact bodyPost_ret (by simp [results, Tryz.results21, go_sem, k0, k1']; rfl) rfl ⟨by rw [(HFIN0.out HNZ.out).1, (HFIN0.out HNZ.out).2]; rfl, k1⟩
 have HEX := HEE
 refine wp_region_havoc [(0,false),(1,false),(2,false),(3,false),(4,false),(5,false),(6,false),(7,false),(8,false),(9,false)] [] (fun _ _ => False) (by kernel_rfl) (by kernel_rfl) (fun _ _ _ _ h => h.elim) ?_
 iterate 2 (apply hav_same (by exact ho rfl) (by kernel_rfl); (focus (intro wv hgv _; have hcv := cvB hgv; (try go_simp); try rfl; done)); simp only [Act.put, List.setIfInBounds_toArray, List.set_cons_succ, List.set_cons_zero])
 (apply hav_call (by exact ho rfl) (by kernel_rfl); (focus (intro wv; go_simp; try exact ⟨rfl, rfl⟩; done)); (focus (intro wv hgv _; refine (rcart_any (fa := fa) (fl := fl) (fc := fc) (la := la) (ll := ll) (lc := lc) (wa := wa) (wn := wn) (wc := wc) (ta := ta) (tn := tn) (tc := tc) wv (HP.out.grow (HB0.out.trans (hgv.mono HB0.out.size)))).mono ?_; rw [HOK.out]; rintro e w' ⟨rfl, hb⟩; exact ⟨rfl, hb⟩; done)); simp only [Act.put, List.setIfInBounds_toArray, List.set_cons_succ, List.set_cons_zero])
 (apply hav_same (by exact ho rfl) (by kernel_rfl); (focus (intro wv hgv _; have hcv := cvB hgv; (try go_simp); try rfl; done)); simp only [Act.put, List.setIfInBounds_toArray, List.set_cons_succ, List.set_cons_zero])
 iterate 2 (apply hav_same (by exact ho rfl) (by kernel_rfl); (focus (intro wv hgv _; have hcv := cvB hgv; (try go_simp); try rfl; done)); simp only [Act.put, List.setIfInBounds_toArray, List.set_cons_succ, List.set_cons_zero])
 (apply hav_call (by exact ho rfl) (by kernel_rfl); (focus (intro wv; go_simp; try exact ⟨rfl, rfl⟩; done)); (focus (intro wv hgv _; refine (rplan_any (fa := fa) (fl := fl) (fc := fc) (la := la) (ll := ll) (lc := lc) (wa := wa) (wn := wn) (wc := wc) (ta := ta) (tn := tn) (tc := tc) wv (HP.out.grow (HB0.out.trans (hgv.mono HB0.out.size))) (HL.out.grow (HB0.out.trans (hgv.mono HB0.out.size)))).mono ?_; rw [HPL.out]; rintro e w' ⟨rfl, hb⟩; exact ⟨rfl, hb⟩; done)); simp only [Act.put, List.setIfInBounds_toArray, List.set_cons_succ, List.set_cons_zero])
 (apply hav_same (by exact ho rfl) (by kernel_rfl); (focus (intro wv hgv _; have hcv := cvB hgv; (try go_simp); try rfl; done)); simp only [Act.put, List.setIfInBounds_toArray, List.set_cons_succ, List.set_cons_zero])
 (apply hav_call (by exact ho rfl) (by kernel_rfl); (focus (intro wv; go_simp; try exact ⟨rfl, rfl⟩; done)); (focus (intro wv hgv _; refine (rcheck_any (fa := fa) (fl := fl) (fc := fc) (la := la) (ll := ll) (lc := lc) (wa := wa) (wn := wn) (wc := wc) (ta := ta) (tn := tn) (tc := tc) _ wv (HP.out.grow (HB0.out.trans (hgv.mono HB0.out.size)))).mono ?_; rw [HEX.out]; rintro e w' ⟨rfl, hb⟩; exact ⟨rfl, hb⟩; done)); simp only [Act.put, List.setIfInBounds_toArray, List.set_cons_succ, List.set_cons_zero])
 (apply hav_same (by exact ho rfl) (by kernel_rfl); (focus (intro wv hgv _; have hcv := cvB hgv; (try go_simp); try rfl; done)); simp only [Act.put, List.setIfInBounds_toArray, List.set_cons_succ, List.set_cons_zero])
 refine hav_end (fun w5 hgz _ => ?_)
 simp only [List.filterMap]; have hb5 : Below W.heap.size W w5 := hgz; have HB5 : Hid (Below w.heap.size w w5) := HB0.out.trans (hb5.mono HB0.out.size); have HX5 : Hid (Below W.heap.size W w5) := hb5; have HK5 := Lib.hid (HK.out.below hb5 HK.out.lt); clear hgz hb5; clear q0 q1 q2 q3 q4 q5 q6 q7 q8 q9 ql
 by_cases h0 : EE = 0
 case neg =>
  have HNZ := Lib.hid h0; have h1 : ((EE : Int) != 0) = true := by simp; exact h0
  have h2 : ((EE : Int) == 0) = false := by simp; exact h0
  clear h0; have HQ2 := Lib.hid (HX2.out.below HX5.out HX2.out.lt); have z0 := HQ2.out.cell 0; have z1 := HQ2.out.cell 1; have f0 := HQ2.out.frozen 0; have f1 := HQ2.out.frozen 1; have zl := HQ2.out.lt; simp at z0 z1; obtain ⟨k1, k2⟩ := HFIN.out w5 0 0 HB5.out HQ2.out; go_wp2; have k0 := k2.cell 0; have k1' := k2.cell 1; simp at k0 k1'; exact bodyPost_ret (by simp [results, Tryz.results21, go_sem, k0, k1']; rfl) rfl ⟨by rw [(HFIN0.out HNZ.out).1, (HFIN0.out HNZ.out).2]; rfl, k1⟩
 subst h0; obtain ⟨hoc, hpl1, -⟩ := openE_zero HEE.out; subst hpl1; obtain ⟨hlen, hps⟩ := planB_parts HPL.out; have hpt : tn = pn := by rw [← HP.out.etn, ← HL.out.len, hlen]
 subst hpt; have HLEN := Lib.hid HL.out.len; have HPS := Lib.hid hps; have HOC := Lib.hid hoc; rw [if_pos rfl, checkV_find HPL.out] at HCE; obtain ⟨F, hF⟩ : ∃ F, (findR c.tm c.wg c.lt ps 0 c.lt.length == none) = F := ⟨_, rfl⟩; have HF := Lib.hid hF
 have HWE : Hid (worthE c ps = if F then 0 else 11) := by
  show _ = _; rw [HCE.out]
  cases e : findR c.tm c.wg c.lt ps 0 c.lt.length with
  | none => rw [e] at hF; rw [← hF]; rfl
  | some q =>
   rw [e] at hF; rw [← hF]; have hq : q.2 ≠ 0 := findR_ne e; show (if q.2 = 0 then 0 else 11) = _
   rw [if_neg hq]
   rfl
 have HX5' := HX5; have HQ5 := Lib.hid (HX2.out.below HX5.out HX2.out.lt); have hx := HK5.out; obtain ⟨q0, q1, q2, q3, q4, q5, q6, q7, q8, q9, ql⟩ := cx31 hx; clear hx hlen hps hoc hF; go_upto_region 4 with (fail)
 refine wp_region_havoc [(0,false),(1,false),(3,false),(2,true),(4,false),(5,false)] [] (fun _ _ => False) (by kernel_rfl) (by kernel_rfl) (fun _ _ _ _ h => h.elim) ?_
 (apply hav_same (by exact ho rfl) (by kernel_rfl); (focus (intro wv hgv _; have hcv := cvB hgv; (try go_simp); try rfl; done)); simp only [Act.put, List.setIfInBounds_toArray, List.set_cons_succ, List.set_cons_zero])
 iterate 2 (apply hav_same (by exact ho rfl) (by kernel_rfl); (focus (intro wv hgv _; have hcv := cvB hgv; (try go_simp); try rfl; done)); simp only [Act.put, List.setIfInBounds_toArray, List.set_cons_succ, List.set_cons_zero])
 apply hav_call_ghost (fun v wv => ∃ At ct, v = .slice At wn ct ∧ RdG inI 1 wv wv.heap.size At (timesL c)) (by exact ho rfl) (by kernel_rfl)
 ·intro wv
  go_simp
  try exact ⟨rfl, rfl⟩
  done
 ·rintro v w1 w2 ⟨At, ct, e, h⟩ hg; exact ⟨At, ct, e, h.grow hg⟩
 ·intro wv hgv _; refine (rtimes_any (fa := fa) (fl := fl) (fc := fc) (la := la) (ll := ll) (lc := lc) (wa := wa) (wn := wn) (wc := wc) (ta := ta) (tn := tn) (tc := tc) HEE.out wv (HP.out.grow (HB5.out.trans (hgv.mono HB5.out.size)))).mono ?_; rintro e w' ⟨At, ct, rfl, htr, hb⟩; exact .inl ⟨_, rfl, hb, At, ct, rfl, htr⟩
 intro v; simp only [Act.put, List.setIfInBounds_toArray, List.set_cons_succ, List.set_cons_zero]
 by_cases hv : ∃ At ct, v = .slice At wn ct
 case neg =>
  have hno : ∀ (w : World) (Φ : Prop), (Φ ∧ ∃ At ct, v = .slice At wn ct ∧ RdG inI 1 w w.heap.size At (timesL c)) → False := fun w Φ ⟨_, A, c', h, _⟩ => hv ⟨A, c', h⟩
  iterate 2 (refine hav_det (V := undef) (by exact ho rfl) (fun _ _ hF => (hno _ _ hF).elim) ?_; simp only [Act.put, List.setIfInBounds_toArray, List.set_cons_succ, List.set_cons_zero])
  exact hav_end (fun w6 hg6 hF => (hno _ _ hF).elim)
 obtain ⟨At, ct, rfl⟩ := hv; (apply hav_call (by exact ho rfl) (by kernel_rfl); (focus (intro wv; go_simp; try exact ⟨rfl, rfl⟩; done)); (focus (intro wv hgv hF; obtain ⟨_, At', ct', e, hr⟩ := hF; cases e; refine (rright_any (fa := fa) (fl := fl) (fc := fc) (la := la) (ll := ll) (lc := lc) (wa := wa) (wn := wn) (wc := wc) (ta := ta) (tn := tn) (tc := tc) HOC.out HPS.out HLEN.out wv (HP.out.grow (HB5.out.trans (hgv.mono HB5.out.size))) hr (HL.out.row.grow (HB5.out.trans (hgv.mono HB5.out.size)))).mono ?_; rw [HF.out]; rintro e w' ⟨rfl, hb⟩; exact ⟨rfl, hb⟩; done)); simp only [Act.put, List.setIfInBounds_toArray, List.set_cons_succ, List.set_cons_zero])
 (apply hav_same (by exact ho rfl) (by kernel_rfl); (focus (intro wv hgv _; have hcv := cvB hgv; (try go_simp); try rfl; done)); simp only [Act.put, List.setIfInBounds_toArray, List.set_cons_succ, List.set_cons_zero])
 refine hav_end (fun w6 hgz _ => ?_)
 simp only [List.filterMap]; have hb6 : Below w5.heap.size w5 w6 := hgz; have HB6 : Hid (Below w.heap.size w w6) := HB5.out.trans (hb6.mono HB5.out.size); have HK6 := Lib.hid (HK5.out.below hb6 HK5.out.lt); have HQ6 := Lib.hid (HQ5.out.below hb6 HQ5.out.lt); clear hgz hb6; clear q0 q1 q2 q3 q4 q5 q6 q7 q8 q9 ql; cases F
 ·rw [if_neg (by simp)] at HWE
  rw [HWE.out, if_neg (by omega)] at HCW
  have HQ2 := HQ6; have z0 := HQ2.out.cell 0; have z1 := HQ2.out.cell 1; have f0 := HQ2.out.frozen 0; have f1 := HQ2.out.frozen 1; have zl := HQ2.out.lt; simp at z0 z1; obtain ⟨k1, k2⟩ := HFIN.out w6 0 0 HB6.out HQ2.out; go_wp2; have k0 := k2.cell 0; have k1' := k2.cell 1; simp at k0 k1'; exact bodyPost_ret (by simp [results, Tryz.results21, go_sem, k0, k1']; rfl) rfl ⟨by rw [HWE.out, HCW.out]; rfl, k1⟩
 ·rw [if_pos rfl] at HWE; rw [HWE.out, if_pos rfl] at HCW; have hx := HK6.out; obtain ⟨q0, q1, q2, q3, q4, q5, q6, q7, q8, q9, ql⟩ := cx31 hx; clear hx; go_wp2_with fail; refine (rworth_any (fa := fa) (fl := fl) (fc := fc) (la := la) (ll := ll) (lc := lc) (wa := wa) (wn := wn) (wc := wc) (ta := ta) (tn := tn) (tc := tc) HOC.out HPS.out HLEN.out w6 (HP.out.grow HB6.out) (HL.out.row.grow HB6.out)).mono ?_; rintro e w7 ⟨rfl, hb⟩; have HB7 : Hid (Below w.heap.size w w7) := HB6.out.trans (hb.mono HB6.out.size); have HQ2 := Lib.hid (HQ6.out.below hb HQ6.out.lt); clear hb; clear q0 q1 q2 q3 q4 q5 q6 q7 q8 q9 ql; obtain ⟨⟨lo, hi⟩, hws⟩ : ∃ s, worthS c ps = s := ⟨_, rfl⟩; rw [hws] at HCW ⊢; clear hws; unfold spanV; have z0 := HQ2.out.cell 0; have z1 := HQ2.out.cell 1; have f0 := HQ2.out.frozen 0; have f1 := HQ2.out.frozen 1; have zl := HQ2.out.lt; simp at z0 z1; obtain ⟨k1, k2⟩ := HFIN.out w7 lo hi HB7.out HQ2.out; go_wp2; have k0 := k2.cell 0; have k1' := k2.cell 1; simp at k0 k1'; exact bodyPost_ret (by simp [results, Tryz.results21, go_sem, k0, k1']; rfl) rfl ⟨by rw [HWE.out, HCW.out]; rfl, k1⟩
end
end Go.Proofs.YtgmfhngcehkibaaGreat
