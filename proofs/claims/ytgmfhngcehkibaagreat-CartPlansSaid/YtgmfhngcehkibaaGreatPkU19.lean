import Derived.Test.YtgmfhngcehkibaaGreatPkU18
set_option maxRecDepth 100000
set_option maxHeartbeats 6400000
namespace Go.Proofs.YtgmfhngcehkibaaGreat
open Go.RowKit Go.Hav Go.Shelf Go.Sq
attribute [local go_sem] Oper.semAt_some
section
variable {fa la wa ta : Option Addr} {fl fc ll lc wn wc tn tc : Nat} {c : ICart}
variable {w : World}
theorem rcheck_any (is : Bool) (w : World) (hP : CtIn w w.heap.size fa fl la ll wa wn ta tn c) : Calls Tryz.prog 54 #[(.agg #[.int .i64 c.riv.depth.lo, .int .i64 c.riv.depth.hi, .int .i64 c.riv.fall.lo, .int .i64 c.riv.fall.hi, .int .i64 c.riv.days, .slice fa fl fc, .slice la ll lc, .int .i64 c.draws, .slice wa wn wc, .slice ta tn tc]), .bool is] w fun e w' => e = .returned (.int .i64 (openE c is : Nat)) ∧ Below w.heap.size w w' := by
 have HP := Lib.hid hP; have HOE : Hid (openE c is = if okC c = false then 1 else if is = false then 2 else if hasT c = false then 10 else 0) := rfl
 clear hP; obtain ⟨W, hW⟩ : ∃ W, W = w.alloc (.cells #[.int .i64 c.riv.depth.lo, .int .i64 c.riv.depth.hi, .int .i64 c.riv.fall.lo, .int .i64 c.riv.fall.hi, .int .i64 c.riv.days, .slice fa fl fc, .slice la ll lc, .int .i64 c.draws, .slice wa wn wc, .slice ta tn tc] 31) := ⟨_, rfl⟩; obtain ⟨b1, hb1⟩ : ∃ b, b = w.heap.size := ⟨_, rfl⟩; have HK : Hid (Blk W b1 31 #[.int .i64 c.riv.depth.lo, .int .i64 c.riv.depth.hi, .int .i64 c.riv.fall.lo, .int .i64 c.riv.fall.hi, .int .i64 c.riv.days, .slice fa fl fc, .slice la ll lc, .int .i64 c.draws, .slice wa wn wc, .slice ta tn tc]) := by rw [hW, hb1]; exact Blk.new w 31 _
 have HB0 : Hid (Below w.heap.size w W) := by rw [hW]; exact (Below.refl _ _).alloc (Nat.le_refl _) _
 have HPW := Lib.hid (HP.out.grow HB0.out); have hx := HK.out; obtain ⟨q0, q1, q2, q3, q4, q5, q6, q7, q8, q9, ql⟩ := cx31 hx; clear hx
 go_enter Tryz.func54, Tryz.ntmps54
 go_upto_region 1 with (fail); rw [← hW, ← hb1]; clear hW hb1; go_wp2_with fail; refine (rcart_any W HPW.out).mono ?_; obtain ⟨ok, hok⟩ : ∃ ok, okC c = ok := ⟨_, rfl⟩; rw [hok] at HOE; rw [hok]; rintro e w1 ⟨rfl, hb⟩; have HB1 : Hid (Below w.heap.size w w1) := HB0.out.trans (hb.mono HB0.out.size); have HK1 : Hid (Blk w1 b1 31 #[.int .i64 c.riv.depth.lo, .int .i64 c.riv.depth.hi, .int .i64 c.riv.fall.lo, .int .i64 c.riv.fall.hi, .int .i64 c.riv.days, .slice fa fl fc, .slice la ll lc, .int .i64 c.draws, .slice wa wn wc, .slice ta tn tc]) := HK.out.below hb HK.out.lt; clear hb; clear q0 q1 q2 q3 q4 q5 q6 q7 q8 q9 ql; cases ok
 ·rw [if_pos rfl] at HOE; clear hok; go_wp2; go_ret
  exact ⟨by rw [HOE.out]; rfl, HB1.out⟩
 rw [if_neg (by simp)] at HOE
 cases is
 ·rw [if_pos rfl] at HOE; clear hok; go_wp2; go_ret
  exact ⟨by rw [HOE.out]; rfl, HB1.out⟩
 rw [if_neg (by simp)] at HOE
 have hv := (okC_parts hok).1; have HPZ := Lib.hid (HP.out.grow HB1.out); have hx := HK1.out; obtain ⟨q0, q1, q2, q3, q4, q5, q6, q7, q8, q9, ql⟩ := cx31 hx; clear hx hok; go_wp2_with fail; refine (rtruths_any hv w1 HPZ.out.riv).mono ?_; rintro e w2 ⟨A, cp, rfl, htr, hb⟩; have HB2 : Hid (Below w.heap.size w w2) := HB1.out.trans (hb.mono HB1.out.size); have he : truthsP c.riv.nat (full ll) = truthsA c.riv.nat := by unfold truthsA; rw [show c.riv.nat.lk.length = ll by rw [← HPZ.out.riv.ell]; simp [IRiv.nat]]
 have hlen := truths_len hv; rw [he]; obtain ⟨N, hN⟩ : ∃ N, (truthsA c.riv.nat).length = N := ⟨_, rfl⟩
 have HHT : Hid (hasT c = decide (N ≠ 0)) := by
  show _ = _; unfold hasT; rw [← hN]
  exact decide_eq_decide.2 ⟨fun h e => h (List.eq_nil_of_length_eq_zero e), fun h e => h (by rw [e]; rfl)⟩
 rw [hN]; rw [hN] at hlen; rw [HHT.out] at HOE; clear hb htr he hN HHT HK1 HK; clear q0 q1 q2 q3 q4 q5 q6 q7 q8 q9 ql
 by_cases h0 : N = 0
 ·subst h0; rw [if_pos (by simp)] at HOE
  go_wp2; go_ret
  exact ⟨by rw [HOE.out]; rfl, HB2.out⟩
 ·rw [if_neg (by simp [h0])] at HOE
  have h1 : ((N : Int) == 0) = false := by simp; exact h0
  clear h0; go_wp2; go_ret
  exact ⟨by rw [HOE.out]; rfl, HB2.out⟩
theorem openE_true (h : openE c true = 0) : okC c = true ∧ truthsA c.riv.nat ≠ [] := by
 obtain ⟨h1, -, h3⟩ := openE_zero h; exact ⟨h1, by unfold hasT at h3; simpa using h3⟩
theorem days_zero (h : openE c true = 0) : daysE c.riv c.draws = 0 := by
 obtain ⟨h1, h2⟩ := openE_true h; unfold daysE toldE; rw [(okC_parts h1).1, (okC_parts h1).2.1, if_neg (by simp), if_neg (by simp), if_neg h2]
theorem setN_bd (f : Nat → Bool) {n : Nat} (h : n ≤ 61) : setN f n < 4611686018427387904 := by
 have h1 := setN_lt f n; have h2 := Nat.pow_le_pow_right (n := 2) (by omega) h
 omega
theorem rtimely_any (hv : openE c true = 0) (k : Nat) (g : IWag) (hk : c.wg[k]? = some g) (w : World) (hP : CtIn w w.heap.size fa fl la ll wa wn ta tn c) : Calls Tryz.prog 55 #[(.agg #[.int .i64 c.riv.depth.lo, .int .i64 c.riv.depth.hi, .int .i64 c.riv.fall.lo, .int .i64 c.riv.fall.hi, .int .i64 c.riv.days, .slice fa fl fc, .slice la ll lc, .int .i64 c.draws, .slice wa wn wc, .slice ta tn tc]), .int .i64 k] w fun e w' => e = .returned (.int .i64 (c.tm g : Nat)) ∧ Below w.heap.size w w' := by
 have HP := Lib.hid hP; have hdz := days_zero hv; obtain ⟨hok, -⟩ := openE_true hv; have hgB := wagB_iff.1 ((okC_parts hok).2.2.2.2.1 g (List.mem_of_getElem? hk)); have hd10 : c.riv.days ≤ 10 ∧ 0 ≤ c.riv.days := by have := inB_iff.1 (okR_parts (okC_parts hok).1).1.2.2.1; omega
 have hkn : k < wn := by have := (List.getElem?_eq_some_iff.1 hk).1; rw [hP.ewn] at this; exact this
 have HTM : Hid (c.tm g = if allT c.riv.nat.days (surelyP c.riv.nat c.draws.toNat) (g.leaves + g.takes.lo).toNat (g.takes.hi - g.takes.lo + 1).toNat = true then 2 else if someT c.riv.nat.days (perhapsP c.riv.nat c.draws.toNat) (g.leaves + g.takes.lo).toNat (g.takes.hi - g.takes.lo + 1).toNat = true then 1 else 0) := rfl
 obtain ⟨S, hS⟩ : ∃ S, surelyP c.riv.nat c.draws.toNat = S := ⟨_, rfl⟩; obtain ⟨Q, hQ⟩ : ∃ Q, perhapsP c.riv.nat c.draws.toNat = Q := ⟨_, rfl⟩
 have HDY : Hid (∀ wv : World, Below w.heap.size w wv → Calls Tryz.prog 96 #[(.agg #[.int .i64 c.riv.depth.lo, .int .i64 c.riv.depth.hi, .int .i64 c.riv.fall.lo, .int .i64 c.riv.fall.hi, .int .i64 c.riv.days, .slice fa fl fc, .slice la ll lc]), .int .i64 c.draws] wv fun e w' => e = .returned (.tuple #[.int .i64 S, .int .i64 Q, .int .i64 0]) ∧ Below wv.heap.size wv w') := fun wv hb => by
  have h := rDays_any (fc := fc) (lc := lc) c.draws wv (hP.riv.grow hb); rw [show surelyV c.riv c.draws = S by unfold surelyV; rw [if_pos hdz]; exact hS, show perhapsV c.riv c.draws = Q by unfold perhapsV; rw [if_pos hdz]; exact hQ, hdz] at h
  exact h
 have hSb : S < 4611686018427387904 := by rw [← hS]; exact setN_bd _ (by rw [show c.riv.nat.days = c.riv.days.toNat from rfl]; omega)
 have hQb : Q < 4611686018427387904 := by rw [← hQ]; exact setN_bd _ (by rw [show c.riv.nat.days = c.riv.days.toNat from rfl]; omega)
 obtain ⟨D, hD⟩ : ∃ D : Nat, c.riv.days = D := ⟨c.riv.days.toNat, by omega⟩
 have hDn : c.riv.nat.days = D := by show c.riv.days.toNat = D; omega
 rw [hS, hQ, hDn] at HTM; have HG := Lib.hid hk; obtain ⟨g0, ⟨g1, g2⟩, g3⟩ := g; simp only at hgB HTM; obtain ⟨F, hF⟩ : ∃ F : Nat, g0 + g1 = F := ⟨(g0 + g1).toNat, by omega⟩
 obtain ⟨n, hn⟩ : ∃ n : Nat, g2 - g1 + 1 = n := ⟨(g2 - g1 + 1).toNat, by omega⟩
 have hFn : g0 + g2 = F + n - 1 := by omega
 rw [hF, hn, Int.toNat_natCast, Int.toNat_natCast] at HTM; have hF16 : F ≤ 16 ∧ n ≤ 6 ∧ 1 ≤ n := by omega
 have HGB := Lib.hid hgB; obtain ⟨W, hW⟩ : ∃ W, W = w.alloc (.cells #[.int .i64 c.riv.depth.lo, .int .i64 c.riv.depth.hi, .int .i64 c.riv.fall.lo, .int .i64 c.riv.fall.hi, .int .i64 c.riv.days, .slice fa fl fc, .slice la ll lc, .int .i64 c.draws, .slice wa wn wc, .slice ta tn tc] 31) := ⟨_, rfl⟩; obtain ⟨b1, hb1⟩ : ∃ b, b = w.heap.size := ⟨_, rfl⟩; have HK : Hid (Blk W b1 31 #[.int .i64 c.riv.depth.lo, .int .i64 c.riv.depth.hi, .int .i64 c.riv.fall.lo, .int .i64 c.riv.fall.hi, .int .i64 c.riv.days, .slice fa fl fc, .slice la ll lc, .int .i64 c.draws, .slice wa wn wc, .slice ta tn tc]) := by rw [hW, hb1]; exact Blk.new w 31 _
 have HB0 : Hid (Below w.heap.size w W) := by rw [hW]; exact (Below.refl _ _).alloc (Nat.le_refl _) _
 have HDD := Lib.hid hD; have HFN : Hid (g0 + g1 = F ∧ g0 + g2 = F + n - 1) := ⟨hF, hFn⟩; clear hP hv hdz hok hk hS hQ hDn hd10 hgB hF hn hFn hD; have hx := HK.out; obtain ⟨q0, q1, q2, q3, q4, q5, q6, q7, q8, q9, ql⟩ := cx31 hx; clear hx
 go_enter Tryz.func55, Tryz.ntmps55
 go_upto_region 1 with (fail); rw [← hW, ← hb1]; clear hW hb1; go_wp2_with fail; refine (HDY.out W HB0.out).mono ?_; rintro e w1 ⟨rfl, hb⟩; have HB1 : Hid (Below w.heap.size w w1) := HB0.out.trans (hb.mono HB0.out.size); have HK1 : Hid (Blk w1 b1 31 #[.int .i64 c.riv.depth.lo, .int .i64 c.riv.depth.hi, .int .i64 c.riv.fall.lo, .int .i64 c.riv.fall.hi, .int .i64 c.riv.days, .slice fa fl fc, .slice la ll lc, .int .i64 c.draws, .slice wa wn wc, .slice ta tn tc]) := HK.out.below hb HK.out.lt; clear hb HDY; clear q0 q1 q2 q3 q4 q5 q6 q7 q8 q9 ql; have hx := HK1.out; obtain ⟨q0, q1, q2, q3, q4, q5, q6, q7, q8, q9, ql⟩ := cx31 hx; clear hx; obtain ⟨bg, og, hA, hbl, G0, G1, G2, G3⟩ := rd_wg ((HP.out.grow HB1.out).hwg) k _ HG.out; subst hA; simp only at G0 G1 G2 G3; go_wp2_with fail; refine (rcomes_any g0 g1 g2 g3 (by have := HGB.out; omega) (by have := HGB.out; omega) (by have := HGB.out; omega) w1).mono ?_
 rintro e w2 ⟨rfl, hb⟩; have HB2 : Hid (Below w.heap.size w w2) := HB1.out.trans (hb.mono HB1.out.size); have HK2 := Lib.hid (HK1.out.below hb HK1.out.lt); clear hb G0 G1 G2 G3 hbl; clear q0 q1 q2 q3 q4 q5 q6 q7 q8 q9 ql; go_upto_region 3 with (fail); obtain ⟨W3, hW3⟩ : ∃ W3, W3 = w2.alloc (.cells #[.int .i64 (g0 + g1), .int .i64 (g0 + g2)] 23) := ⟨_, rfl⟩; obtain ⟨b8, hb8⟩ : ∃ b, b = w2.heap.size := ⟨_, rfl⟩; rw [← hW3, ← hb8]; have HB3 : Hid (Below w.heap.size w W3) := by rw [hW3]; exact HB2.out.alloc HB2.out.size _
 have HX8 : Hid (Blk W3 b8 23 #[.int .i64 (g0 + g1), .int .i64 (g0 + g2)]) := by rw [hW3, hb8]; exact Blk.new w2 23 _
 have HK3 := Lib.hid (HK2.out.alloc (.cells #[.int .i64 (g0 + g1), .int .i64 (g0 + g2)] 23)); rw [← hW3] at HK3; rw [HFN.out.1, HFN.out.2] at HX8; clear hW3 hb8; have y0 := HX8.out.cell 0; have yl := HX8.out.lt; simp at y0; go_wp2; clear y0 yl
 go_loopw [9, 10, 11] (fun a s i wr => ∃ j : Nat, j ≤ n ∧ i = .int .i64 ((F : Int) + j) ∧ a = .bool (allT D S F j) ∧ s = .bool (someT D Q F j) ∧ Hid (Below w.heap.size w wr) ∧ Hid (Below W3.heap.size W3 wr)) (fun _ _ i _ => F + n - (intOf i).toNat)
 case atStart => exact ⟨0, Nat.zero_le _, by simp, rfl, rfl, HB3, Below.refl _ _⟩
 case round =>
  obtain ⟨j, hj, rfl, rfl, rfl, HBR, HBX⟩ := hrel; have HK4 := Lib.hid (HK3.out.below HBX.out HK3.out.lt); have HX4 := Lib.hid (HX8.out.below HBX.out HX8.out.lt); have y1 : wr.cell? ⟨b8, 1, none⟩ = some (.int .i64 ((F : Int) + n - 1)) := HX4.out.cell 1; have yl := HX4.out.lt; have x4 : wr.cell? ⟨b1, 4, none⟩ = some (.int .i64 c.riv.days) := HK4.out.cell 4; have xl := HK4.out.lt; rw [HDD.out] at x4
  by_cases hlt : j < n
  ·have HA : Hid (allT D S F (j + 1) = (allT D S F j && (decide (F + j ≤ D) && S.testBit (F + j)))) := rfl; have HS : Hid (someT D Q F (j + 1) = (someT D Q F j || (decide (F + j ≤ D) && Q.testBit (F + j)))) := rfl; obtain ⟨a, ha⟩ : ∃ a, allT D S F j = a := ⟨_, rfl⟩; obtain ⟨s, hs⟩ : ∃ s, someT D Q F j = s := ⟨_, rfl⟩; obtain ⟨x, hx⟩ : ∃ x, S.testBit (F + j) = x := ⟨_, rfl⟩; obtain ⟨y, hy⟩ : ∃ y, Q.testBit (F + j) = y := ⟨_, rfl⟩
   have HX : Hid (Calls Tryz.prog 97 #[.int .i64 S, .int .i64 ((F : Int) + j)] wr fun e w' => e = .returned (.bool x) ∧ w' = wr) := by
    have h := rhas_any S (F + j) hSb (by omega) wr
    rw [hx] at h; exact h
   have HY : Hid (Calls Tryz.prog 97 #[.int .i64 Q, .int .i64 ((F : Int) + j)] wr fun e w' => e = .returned (.bool y) ∧ w' = wr) := by
    have h := rhas_any Q (F + j) hQb (by omega) wr
    rw [hy] at h; exact h
   rw [ha, hx] at HA; rw [hs, hy] at HS; rw [ha, hs]; clear ha hs hx hy; have hle : (F : Int) + j ≤ (F : Int) + n - 1 := by omega
   by_cases hq : F + j ≤ D
   ·have hqi : (F : Int) + j ≤ D := by omega
    rw [decide_eq_true hq] at HA HS; clear hq; cases a
    ·cases s
     ·go_wp2_with fail; refine HY.out.mono ?_
      rintro e w' ⟨rfl, hw⟩; obtain rfl : wr = w' := hw.symm; clear hw; go_wp2; go_roundw
      case rel => exact ⟨j + 1, by omega, by go_num, by rw [HA.out]; simp, by rw [HS.out]; simp, HBR, HBX⟩
      case measure => simp [intOf]; omega
     ·go_wp2; go_roundw
      case rel => exact ⟨j + 1, by omega, by go_num, by rw [HA.out]; simp, by rw [HS.out]; simp, HBR, HBX⟩
      case measure => simp [intOf]; omega
    ·cases s
     ·go_wp2_with fail; refine HX.out.mono ?_
      rintro e w' ⟨rfl, hw⟩; obtain rfl : wr = w' := hw.symm; clear hw; go_wp2_with fail; refine HY.out.mono ?_; rintro e w' ⟨rfl, hw⟩; obtain rfl : wr = w' := hw.symm; clear hw; go_wp2; go_roundw
      case rel => exact ⟨j + 1, by omega, by go_num, by rw [HA.out]; simp, by rw [HS.out]; simp, HBR, HBX⟩
      case measure => simp [intOf]; omega
     ·go_wp2_with fail; refine HX.out.mono ?_
      rintro e w' ⟨rfl, hw⟩; obtain rfl : wr = w' := hw.symm; clear hw; go_wp2; go_roundw
      case rel => exact ⟨j + 1, by omega, by go_num, by rw [HA.out]; simp, by rw [HS.out]; simp, HBR, HBX⟩
      case measure => simp [intOf]; omega
   ·have hqi : decide ((F : Int) + j ≤ D) = false := by simp; omega
    have hqj : (D : Int) < (F : Int) + j := by omega
    rw [decide_eq_false hq] at HA HS; clear hq; cases a
    ·cases s
     ·go_wp2; go_roundw
      case rel => exact ⟨j + 1, by omega, by go_num, by rw [HA.out]; simp, by rw [HS.out]; simp, HBR, HBX⟩
      case measure => simp [intOf]; omega
     ·go_wp2; go_roundw
      case rel => exact ⟨j + 1, by omega, by go_num, by rw [HA.out]; simp, by rw [HS.out]; simp, HBR, HBX⟩
      case measure => simp [intOf]; omega
    ·cases s
     ·go_wp2; go_roundw
      case rel => exact ⟨j + 1, by omega, by go_num, by rw [HA.out]; simp, by rw [HS.out]; simp, HBR, HBX⟩
      case measure => simp [intOf]; omega
     ·go_wp2; go_roundw
      case rel => exact ⟨j + 1, by omega, by go_num, by rw [HA.out]; simp, by rw [HS.out]; simp, HBR, HBX⟩
      case measure => simp [intOf]; omega
  ·obtain rfl : n = j := by omega
   have hle : ¬ ((F : Int) + n ≤ (F : Int) + n - 1) := by omega
   obtain ⟨a, ha⟩ : ∃ a, allT D S F n = a := ⟨_, rfl⟩; obtain ⟨s, hs⟩ : ∃ s, someT D Q F n = s := ⟨_, rfl⟩; rw [ha, hs] at HTM ⊢; clear ha hs; cases a
   ·rw [if_neg (by simp)] at HTM
    cases s
    ·rw [if_neg (by simp)] at HTM
     go_wp2; go_ret
     exact ⟨by rw [HTM.out]; rfl, HBR.out⟩
    ·rw [if_pos rfl] at HTM; go_wp2; go_ret
     exact ⟨by rw [HTM.out]; rfl, HBR.out⟩
   ·rw [if_pos rfl] at HTM; go_wp2; go_ret
    exact ⟨by rw [HTM.out]; rfl, HBR.out⟩
theorem own_slice {w : World} {B n size : Nat} {e : TypeId} {v : Value} {xs : List Value} (h : w.ownsRow B e size v n xs) : ∃ A cp, v = .slice A n cp := by
 rcases h.2 with ⟨rfl, rfl⟩ | ⟨g, cap, cur, rfl, _⟩
 ·exact ⟨_, _, rfl⟩
 ·exact ⟨_, _, rfl⟩
def timesL (c : ICart) : List Int := c.wg.map fun g => (c.tm g : Nat)
theorem rtimes_any (hv : openE c true = 0) (w : World) (hP : CtIn w w.heap.size fa fl la ll wa wn ta tn c) : Calls Tryz.prog 62 #[(.agg #[.int .i64 c.riv.depth.lo, .int .i64 c.riv.depth.hi, .int .i64 c.riv.fall.lo, .int .i64 c.riv.fall.hi, .int .i64 c.riv.days, .slice fa fl fc, .slice la ll lc, .int .i64 c.draws, .slice wa wn wc, .slice ta tn tc])] w fun e w' => ∃ A cp, e = .returned (.slice A wn cp) ∧ RdG inI 1 w' w'.heap.size A (timesL c) ∧ Below w.heap.size w w' := by
 have HP := Lib.hid hP; have HV := Lib.hid hv; have hw3 : wn ≤ 3 := by have := (okC_parts (openE_true hv).1).2.2.1; rw [hP.ewn] at this; exact this
 obtain ⟨W, hW⟩ : ∃ W, W = w.alloc (.cells #[.int .i64 c.riv.depth.lo, .int .i64 c.riv.depth.hi, .int .i64 c.riv.fall.lo, .int .i64 c.riv.fall.hi, .int .i64 c.riv.days, .slice fa fl fc, .slice la ll lc, .int .i64 c.draws, .slice wa wn wc, .slice ta tn tc] 31) := ⟨_, rfl⟩; obtain ⟨b1, hb1⟩ : ∃ b, b = w.heap.size := ⟨_, rfl⟩; have HK : Hid (Blk W b1 31 #[.int .i64 c.riv.depth.lo, .int .i64 c.riv.depth.hi, .int .i64 c.riv.fall.lo, .int .i64 c.riv.fall.hi, .int .i64 c.riv.days, .slice fa fl fc, .slice la ll lc, .int .i64 c.draws, .slice wa wn wc, .slice ta tn tc]) := by rw [hW, hb1]; exact Blk.new w 31 _
 have HB0 : Hid (Below w.heap.size w W) := by rw [hW]; exact (Below.refl _ _).alloc (Nat.le_refl _) _
 have HN : Hid (W.heap.size = w.heap.size + 1 ∧ b1 = w.heap.size) := ⟨by rw [hW]; simp, hb1⟩
 clear hP hv
 go_enter Tryz.func62, Tryz.ntmps62
 go_upto_region 1 with (fail); rw [← hW, ← hb1]; clear hW hb1; go_wp2
 go_loopw [3, 4] (fun s0 i wr => ∃ (k : Nat) (s : Value), k ≤ wn ∧ i = .int .i64 k ∧ s0 = s ∧ Hid (wr.ownsRow W.heap.size 3 1 s k (((timesL c).take k).flatMap inI)) ∧ Hid (Below w.heap.size w wr) ∧ Hid (Below W.heap.size W wr)) (fun _ i _ => wn - (intOf i).toNat)
 case atStart => exact ⟨0, _, Nat.zero_le _, rfl, rfl, own_nil _ _ _ _, HB0, Below.refl _ _⟩
 case round =>
  obtain ⟨k, s, hk, rfl, hs0, HO, HBR, HBX⟩ := hrel; obtain rfl := hs0.symm; clear hs0; have HKR := Lib.hid (HK.out.below HBX.out HK.out.lt); have hx := HKR.out; obtain ⟨q0, q1, q2, q3, q4, q5, q6, q7, q8, q9, ql⟩ := cx31 hx; clear hx
  by_cases hlt : k < wn
  ·obtain ⟨g, hg⟩ : ∃ g, c.wg[k]? = some g := ⟨c.wg[k]'(by have := HP.out.ewn; omega), by simp⟩
   have HG := Lib.hid hg; have HPR := Lib.hid (HP.out.grow HBR.out); obtain ⟨tv, htv⟩ : ∃ tv, (c.tm g : Nat) = tv := ⟨_, rfl⟩; have HTV := Lib.hid htv; clear hg htv; go_wp2_with fail; refine (rtimely_any HV.out k g HG.out wr HPR.out).mono ?_; rw [HTV.out]; rintro e w5 ⟨rfl, hb5⟩; have HO5 : Hid (w5.ownsRow W.heap.size 3 1 s k (((timesL c).take k).flatMap inI)) := own_below HO.out hb5; have HB5 : Hid (Below w.heap.size w w5) := HBR.out.trans (hb5.mono HBR.out.size); have HX5 : Hid (Below W.heap.size W w5) := HBX.out.trans (hb5.mono HBX.out.size); obtain ⟨W6, hW6⟩ : ∃ W6, W6 = w5.alloc (.cells #[.int .i64 tv] 3) := ⟨_, rfl⟩; obtain ⟨gy, hgy⟩ : ∃ b, b = w5.heap.size := ⟨_, rfl⟩; have hby : Blk W6 gy 3 #[.int .i64 tv] := by rw [hW6, hgy]; exact Blk.new w5 3 _
   have HO6 := own_below HO5.out ((Below.refl w5.heap.size w5).alloc (Nat.le_refl _) (.cells #[.int .i64 tv] 3)); rw [← hW6] at HO6; have HB6 : Hid (Below w.heap.size w W6) := by rw [hW6]; exact HB5.out.alloc HB5.out.size _
   have HX6 : Hid (Below W.heap.size W W6) := by rw [hW6]; exact HX5.out.alloc HX5.out.size _
   obtain ⟨i0, hi, hz0, hz1, hz2⟩ := info_parts Tryz.infoE3; obtain ⟨g2, cp2, w7, hrun, hown, ht7, hgg⟩ := append_at (P := Tryz.prog) W.heap.size 32 32 3 i0 _ 1 8 Tryz.underlying32 hi hz0 hz1 hz2 rfl (by decide) s k _ HO6 ⟨gy, 0, none⟩ 1 [.int .i64 tv] rfl (news_block hby) (by simp [Value.oneCell']) (by omega) (by omega) HX6.out.size
   have HRUN := Lib.hid hrun; rw [hW6, hgy] at HRUN
   have HOS : Hid (∀ b, s.ownBlock = some b → W.heap.size ≤ b) := fun b hb => (HO.out.lt b hb).1
   have HX7 : Hid (Below W.heap.size W w7) := HX6.out.trans (ht7.below HX6.out.size HOS.out); have HB7 : Hid (Below w.heap.size w w7) := HB0.out.trans (HX7.out.mono HB0.out.size)
   have HO7 : Hid (w7.ownsRow W.heap.size 3 1 (.slice (some ⟨g2, 0, none⟩) (k + 1) cp2) (k + 1) (((timesL c).take (k + 1)).flatMap inI)) := by
    show World.ownsRow _ _ _ _ _ _ _; rw [List.take_add_one, show (timesL c)[k]? = some ((tv : Nat) : Int) by unfold timesL; rw [List.getElem?_map, HG.out, ← HTV.out]; rfl, List.flatMap_append]
    exact hown
   clear hb5 hby HO6 hi hz0 hz1 hz2 hrun hown ht7 hgg hW6 hgy
   go_wp2_with (at_builtin; refine wpList_append_run rfl _ _ 32 rfl rfl rfl HRUN.out ?_)
   go_wp2; go_roundw
   case rel => exact ⟨k + 1, _, by omega, by go_num, rfl, HO7, HB7, HX7⟩
   case measure => simp [intOf]; omega
  ·obtain rfl : wn = k := by omega
   have HTA : Hid ((timesL c).take wn = timesL c) := List.take_of_length_le (by unfold timesL; rw [List.length_map, HP.out.ewn]; exact Nat.le_refl _)
   rw [HTA.out] at HO; obtain ⟨A, cp, hs⟩ := own_slice HO.out; subst hs
   have HR : Hid (RdG inI 1 wr wr.heap.size A (timesL c)) := RdG.of_own (fun _ => rfl) (by omega) HO.out (Nat.le_refl _) rfl
   go_wp2; go_ret
   exact ⟨A, cp, rfl, HR.out, HBR.out⟩
end
theorem part148 (W : World) (b : Nat) (cs : Array Value) (h : Blk W b 148 cs) : (partAt ⟨b, 0, none⟩ 0 0).run Tryz.prog W = .ok ⟨b, 0, none⟩ W := by
 have h0 : Tryz.prog.cellsOf 148 = 0 := by kernel_rfl
 have h1 : W.shape? b = some (148, cs.size) := by unfold World.shape?; rw [show W.heap[b]? = _ from h]
 have hs : ∀ {α : Type} (k : Option (TypeId × Nat) → Sem α), (Sem.shape b k).run Tryz.prog W = (k (some (148, cs.size))).run Tryz.prog W := fun k => by rw [Sem.run, h1]
 unfold partAt byteOf
 simp [go_sem, noView, shape, viewAt, hs, h0, Result.andThen]
theorem num175_any (w : World) : Calls Tryz.prog 175 #[.agg #[]] w fun x w' => x = .returned (.int .i64 3) ∧ Below w.heap.size w w' := by
 obtain ⟨W, hW⟩ : ∃ W, W = w.alloc (.cells #[] 148) := ⟨_, rfl⟩; obtain ⟨b1, hb1⟩ : ∃ b, b = w.heap.size := ⟨_, rfl⟩; have HX : Hid (Blk W b1 148 #[]) := by rw [hW, hb1]; exact Blk.new w 148 _
 have HB : Hid (Below w.heap.size w W) := by rw [hW]; exact (Below.refl _ _).alloc (Nat.le_refl _) _
 go_enter Tryz.func175, Tryz.ntmps175
 go_upto_region 1 with (fail); rw [← hb1, ← hW]; clear hW hb1; have hpa := part148 W b1 _ HX.out; have xl := HX.out.lt; go_wp2_with fail; refine (num173_any _ _).mono ?_; rintro e w1 ⟨rfl, hb⟩; have HB1 : Hid (Below w.heap.size w w1) := HB.out.trans (hb.mono HB.out.size); clear hb; obtain ⟨W2, hW2⟩ : ∃ W2, W2 = w1.alloc (.cells #[.int .i64 2, .int .i64 1] 3) := ⟨_, rfl⟩; obtain ⟨b6, hb6⟩ : ∃ b, b = w1.heap.size := ⟨_, rfl⟩; have HB2 : Hid (Below w.heap.size w W2) := by rw [hW2]; exact HB1.out.alloc HB1.out.size _
 have HX2 : Hid (Blk W2 b6 3 #[.int .i64 2, .int .i64 1]) := by rw [hW2, hb6]; exact Blk.new w1 3 _
 go_wp2_with fail; rw [← hW2, ← hb6]
 clear hW2 hb6 hpa xl
 refine (sum_any (n := 2) (l := [2, 1]) rfl (by omega) (by simp) W2 (B := W2.heap.size) (fun i x hx => ?_) (Nat.le_refl _)).mono ?_
 ·refine ⟨b6, 0, rfl, HX2.out.lt, fun j v hv => ?_⟩
  match i, hx with
  | 0, hx => cases hx; match j, hv with | 0, hv => cases hv; exact HX2.out.cell 0
  | 1, hx => cases hx; match j, hv with | 0, hv => cases hv; exact HX2.out.cell 1
 rintro e w3 ⟨rfl, hb⟩; have HB3 : Hid (Below w.heap.size w w3) := HB2.out.trans (hb.mono HB2.out.size); clear hb; go_wp2; go_ret
 exact ⟨rfl, HB3.out⟩
section
variable {fa la wa ta : Option Addr} {fl fc ll lc wn wc tn tc : Nat} {c : ICart}
variable {w w' : World} {B d : Nat}
theorem broken_any (l : ILot) (k : Nat) (R : Int) (wg : IWag) (hk : c.wg[k]? = some wg) (hY : YdIn w B d fa fl fc la ll lc wa wn wc ta tn tc c) : Calls Tryz.prog 82 #[.pointer (some ⟨d, 0, none⟩), placeV l k R] w fun e w' => e = .returned (.int .i64 (brokenW (c.tm wg) l wg R : Nat)) ∧ Below w.heap.size w w' := by
 obtain ⟨W, hW⟩ : ∃ W, W = (w.alloc (.cells #[.int .i64 l.from_, .int .i64 l.bales, .int .i64 l.price, .int .i64 l.until_, .int .i64 l.less, .int .i64 k, .int .i64 R] 110)).alloc (.cells #[.iface 145 (.agg #[]), .iface 146 (.agg #[]), .iface 148 (.agg #[])] 151) := ⟨_, rfl⟩; obtain ⟨b3, hb3⟩ : ∃ b, b = w.heap.size := ⟨_, rfl⟩; obtain ⟨b13, hb13⟩ : ∃ b, b = w.heap.size + 1 := ⟨_, rfl⟩; have HB : Hid (Below w.heap.size w W) := by rw [hW]; exact ((Below.refl _ _).alloc (Nat.le_refl _) _).alloc (by simp) _
 have HX3 : Hid (Blk W b3 110 #[.int .i64 l.from_, .int .i64 l.bales, .int .i64 l.price, .int .i64 l.until_, .int .i64 l.less, .int .i64 k, .int .i64 R]) := by rw [hW, hb3]; exact (Blk.new w 110 _).alloc _
 have HX13 : Hid (Blk W b13 151 #[.iface 145 (.agg #[]), .iface 146 (.agg #[]), .iface 148 (.agg #[])]) := by rw [hW, hb13]; exact Blk.new_ (by simp) 151 _
 have HYW := Lib.hid (hY.grow HB.out); have HK := Lib.hid hk; clear hY hk; unfold placeV
 go_enter Tryz.func82, Tryz.ntmps82
 go_wp2; rw [← hb13, ← hb3, ← hW]
 clear hW hb13 hb3
 go_loopw [15] (fun i wr => ∃ j : Nat, j ≤ 3 ∧ i = .int .i64 j ∧ Hid (Below W.heap.size W wr) ∧ Hid ((1 ≤ j → l.from_ ≤ wg.leaves) ∧ (2 ≤ j → l.bales ≤ R) ∧ (3 ≤ j → c.tm wg = 2))) (fun i _ => 3 - (intOf i).toNat)
 case atStart => exact ⟨0, Nat.zero_le _, rfl, Below.refl _ _, by omega, by omega, by omega⟩
 case round =>
  obtain ⟨j, hj, rfl, HBR, HF⟩ := hrel; have HBW : Hid (Below w.heap.size w wr) := HB.out.trans (HBR.out.mono HB.out.size); have HYR := Lib.hid (HYW.out.grow HBR.out); have HR3 := Lib.hid (HX3.out.below HBR.out HX3.out.lt); have HR13 := Lib.hid (HX13.out.below HBR.out HX13.out.lt); have x0 := HR3.out.cell 0; have x1 := HR3.out.cell 1; have x2 := HR3.out.cell 2; have x3 := HR3.out.cell 3; have x4 := HR3.out.cell 4; have x5 := HR3.out.cell 5; have x6 := HR3.out.cell 6; have xl := HR3.out.lt; have yl := HR13.out.lt; simp at x0 x1 x2 x3 x4 x5 x6
  by_cases h0 : j = 0
  ·subst h0; have y0 : wr.cell? ⟨b13, 0, none⟩ = some (.iface 145 (.agg #[])) := HR13.out.cell 0; go_wp2_with fail; refine (early_any (fa := fa) (fl := fl) (fc := fc) (la := la) (ll := ll) (lc := lc) (wa := wa) (wn := wn) (wc := wc) (ta := ta) (tn := tn) (tc := tc) #[] l k R wg HK.out HYR.out).mono ?_; rintro e w1 ⟨rfl, hb⟩; have HB1 : Hid (Below w.heap.size w w1) := HBW.out.trans (hb.mono HBW.out.size); have HBX : Hid (Below W.heap.size W w1) := HBR.out.trans (hb.mono HBR.out.size); clear hb x0 x1 x2 x3 x4 x5 x6 xl y0 yl
   by_cases hq : l.from_ > wg.leaves
   ·have HV : Hid (brokenW (c.tm wg) l wg R = 1) := by show _ = _; unfold brokenW; rw [if_pos hq]
    rw [show decide (l.from_ > wg.leaves) = true from decide_eq_true hq]
    clear hq; go_wp2_with fail; refine (num171_any #[] _).mono ?_; rintro e w2 ⟨rfl, hb⟩; have HB2 : Hid (Below w.heap.size w w2) := HB1.out.trans (hb.mono HB1.out.size); clear hb; go_wp2; go_ret
    exact ⟨by rw [HV.out]; rfl, HB2.out⟩
   ·have HQ : Hid (l.from_ ≤ wg.leaves) := by show l.from_ ≤ wg.leaves; omega
    rw [show decide (l.from_ > wg.leaves) = false from decide_eq_false hq]
    clear hq; go_wp2; go_roundw
    case rel => exact ⟨1, by omega, by go_num, HBX, fun _ => HQ.out, by omega, by omega⟩
    case measure => simp [intOf]
  ·by_cases h1 : j = 1
   ·subst h1; have y0 : wr.cell? ⟨b13, 1, none⟩ = some (.iface 146 (.agg #[])) := HR13.out.cell 1; go_wp2_with fail; refine (full_any (d := d) #[] l k R wr).mono ?_; rintro e w1 ⟨rfl, hb⟩; have HB1 : Hid (Below w.heap.size w w1) := HBW.out.trans (hb.mono HBW.out.size); have HBX : Hid (Below W.heap.size W w1) := HBR.out.trans (hb.mono HBR.out.size); clear hb x0 x1 x2 x3 x4 x5 x6 xl y0 yl
    by_cases hq : l.bales > R
    ·have HV : Hid (brokenW (c.tm wg) l wg R = 2) := by show _ = _; unfold brokenW; rw [if_neg (by have := HF.out.1 (by omega); omega), if_pos hq]
     rw [show (!decide (l.bales ≤ R)) = true by rw [decide_eq_false (by omega)]; rfl]
     clear hq; go_wp2_with fail; refine (num173_any #[] _).mono ?_; rintro e w2 ⟨rfl, hb⟩; have HB2 : Hid (Below w.heap.size w w2) := HB1.out.trans (hb.mono HB1.out.size); clear hb; go_wp2; go_ret
     exact ⟨by rw [HV.out]; rfl, HB2.out⟩
    ·have HQ : Hid (l.bales ≤ R) := by show l.bales ≤ R; omega
     rw [show (!decide (l.bales ≤ R)) = false by rw [decide_eq_true (by omega)]; rfl]
     clear hq; go_wp2; go_roundw
     case rel => exact ⟨2, by omega, by go_num, HBX, fun _ => HF.out.1 (by omega), fun _ => HQ.out, by omega⟩
     case measure => simp [intOf]
   ·by_cases h2 : j = 2
    ·subst h2; have y0 : wr.cell? ⟨b13, 2, none⟩ = some (.iface 148 (.agg #[])) := HR13.out.cell 2; go_wp2_with fail; refine (late_any (fa := fa) (fl := fl) (fc := fc) (la := la) (ll := ll) (lc := lc) (wa := wa) (wn := wn) (wc := wc) (ta := ta) (tn := tn) (tc := tc) #[] l k R wg HK.out HYR.out).mono ?_; rintro e w1 ⟨rfl, hb⟩; have HB1 : Hid (Below w.heap.size w w1) := HBW.out.trans (hb.mono HBW.out.size); have HBX : Hid (Below W.heap.size W w1) := HBR.out.trans (hb.mono HBR.out.size); clear hb x0 x1 x2 x3 x4 x5 x6 xl y0 yl
     by_cases hq : c.tm wg ≠ 2
     ·have HV : Hid (brokenW (c.tm wg) l wg R = 3) := by show _ = _; unfold brokenW; rw [if_neg (by have := HF.out.1 (by omega); omega), if_neg (by have := HF.out.2.1 (by omega); omega), if_pos hq]
      rw [show decide (c.tm wg ≠ 2) = true from decide_eq_true hq]
      clear hq; go_wp2_with fail; refine (num175_any _).mono ?_; rintro e w2 ⟨rfl, hb⟩; have HB2 : Hid (Below w.heap.size w w2) := HB1.out.trans (hb.mono HB1.out.size); clear hb; go_wp2; go_ret
      exact ⟨by rw [HV.out]; rfl, HB2.out⟩
     ·have HQ : Hid (c.tm wg = 2) := by show c.tm wg = 2; omega
      rw [show decide (c.tm wg ≠ 2) = false from decide_eq_false hq]
      clear hq; go_wp2; go_roundw
      case rel => exact ⟨3, by omega, by go_num, HBX, fun _ => HF.out.1 (by omega), fun _ => HF.out.2.1 (by omega), fun _ => HQ.out⟩
      case measure => simp [intOf]
    ·obtain rfl : j = 3 := by omega
     have HV : Hid (brokenW (c.tm wg) l wg R = 0) := by show _ = _; unfold brokenW; rw [if_neg (by have := HF.out.1 (by omega); omega), if_neg (by have := HF.out.2.1 (by omega); omega), if_neg (by have := HF.out.2.2 (by omega); omega)]
     clear x0 x1 x2 x3 x4 x5 x6 xl yl; go_wp2; go_ret
     exact ⟨by rw [HV.out]; rfl, HBW.out⟩
end
def roomsC (R : Rm) : Array Value := #[.int .i64 (R 0), .int .i64 (R 1), .int .i64 (R 2)]
theorem roomP_take {l : List IWag} {j : Nat} {w : IWag} (h : l[j]? = some w) (hj : j < 3) : (roomsC (roomP (l.take j))).setIfInBounds j (.int .i64 w.room) = roomsC (roomP (l.take (j + 1))) := by
 have hg : ∀ m i, roomP (l.take m) i = if i < m then roomP l i else 0 := fun m i => by
  unfold roomP; rw [List.getElem?_take]
  by_cases hi : i < m
  ·rw [if_pos hi, if_pos hi]
  ·rw [if_neg hi, if_neg hi]
 have hr : roomP l j = w.room := by unfold roomP; rw [h]
 unfold roomsC; simp only [hg]
 match j, hj with
 | 0, _ => simp [hr]
 | 1, _ => simp [hr]
 | 2, _ => simp [hr]
section
variable {fa la wa ta : Option Addr} {fl fc ll lc wn wc tn tc : Nat} {c : ICart}
variable {w w' : World} {B d : Nat}
theorem rooms_any (hY : YdIn w B d fa fl fc la ll lc wa wn wc ta tn tc c) : Calls Tryz.prog 81 #[.pointer (some ⟨d, 0, none⟩)] w fun e w' => e = .returned (.agg (roomsC (roomP c.wg))) ∧ Below w.heap.size w w' := by
 obtain ⟨W, hW⟩ : ∃ W, W = w.alloc (.cells (roomsC (roomP (c.wg.take 0))) 106) := ⟨_, rfl⟩; obtain ⟨b2, hb2⟩ : ∃ b, b = w.heap.size := ⟨_, rfl⟩; have HB : Hid (Below w.heap.size w W) := by rw [hW]; exact (Below.refl _ _).alloc (Nat.le_refl _) _
 have HX2 : Hid (Blk W b2 106 (roomsC (roomP (c.wg.take 0)))) := by rw [hW, hb2]; exact Blk.new w 106 _
 have HN : Hid (b2 = w.heap.size) := hb2; have HYo := Lib.hid hY; have HYW := Lib.hid (hY.grow HB.out); have hw3 : wn ≤ 3 := by have := hY.ewn; have := (okC_parts hY.ok).2.2.1; omega
 have HEW : Hid (c.wg.length = wn) := hY.ewn; have hr0 : roomsC (roomP (c.wg.take 0)) = #[.int .i64 0, .int .i64 0, .int .i64 0] := by simp [roomsC, roomP]
 rw [hr0] at hW; have y8 : W.cell? ⟨d, 8, none⟩ = some (.slice wa wn wc) := HYW.out.blk.cell 8; have yl := HYW.out.blk.lt; clear hY hr0
 go_enter Tryz.func81, Tryz.ntmps81
 go_upto_region 1 with (fail); rw [← hb2, ← hW]; clear hW hb2; go_wp2; clear y8 yl
 go_loopw [11] (fun i wr => ∃ j : Nat, j ≤ wn ∧ i = .int .i64 j ∧ Hid (Below w.heap.size w wr) ∧ Hid (Blk wr b2 106 (roomsC (roomP (c.wg.take j))))) (fun i _ => wn - (intOf i).toNat)
 case atStart => exact ⟨0, Nat.zero_le _, rfl, HB, HX2⟩
 case round =>
  obtain ⟨j, hj, rfl, HBR, HR2⟩ := hrel
  by_cases hlt : j < wn
  ·obtain ⟨wg, hw⟩ : ∃ x, c.wg[j]? = some x := ⟨c.wg[j]'(by have := HEW.out; omega), by simp⟩
   have HT : Hid ((roomsC (roomP (c.wg.take j))).setIfInBounds j (.int .i64 wg.room) = roomsC (roomP (c.wg.take (j + 1)))) := roomP_take hw (by omega)
   have HYR := Lib.hid (HYo.out.grow HBR.out); obtain ⟨bk, off, rfl, hbl, H0, H1, H2, H3⟩ := rd_wg HYR.out.hwg j wg hw; have hbw : bk < wr.heap.size := by have := HYR.out.hB; omega
   obtain ⟨v0, hv0⟩ : ∃ v, (roomsC (roomP (c.wg.take j)))[j]? = some v := ⟨(roomsC (roomP (c.wg.take j)))[j]'(by show j < 3; omega), Array.getElem?_eq_getElem _⟩
   obtain ⟨lv, ⟨lo, hi⟩, rm⟩ := wg; simp only at H0 H1 H2 H3 HT; obtain ⟨Wd, hWd⟩ : ∃ Wd, Wd = wr.alloc (.cells #[.int .i64 lv, .int .i64 lo, .int .i64 hi, .int .i64 rm] 65) := ⟨_, rfl⟩; obtain ⟨g1, hg1⟩ : ∃ g, g = wr.heap.size := ⟨_, rfl⟩; have HBD : Hid (Below w.heap.size w Wd) := by rw [hWd]; exact HBR.out.alloc HBR.out.size _
   have HN1 : Hid (Blk Wd g1 65 #[.int .i64 lv, .int .i64 lo, .int .i64 hi, .int .i64 rm]) := by rw [hWd, hg1]; exact Blk.new wr 65 _
   have HD2 : Hid (Blk Wd b2 106 (roomsC (roomP (c.wg.take j)))) := by rw [hWd]; exact HR2.out.alloc _
   clear hbl hw; go_upto_region 4 with (fail); rw [← hWd, ← hg1]; clear hWd hg1 H0 H1 H2 H3 hbw; have y3 : Wd.cell? ⟨g1, 3, none⟩ = some (.int .i64 rm) := HN1.out.cell 3; have yl := HN1.out.lt; have cj : Wd.cell? ⟨b2, j, none⟩ = some v0 := (HD2.out.cell j).trans hv0; have fj := HD2.out.frozen j; have l2 := HD2.out.lt; have hj3 : j < 3 := by omega
   clear hv0; go_wp2; have hB9 : Below w.heap.size w (Wd.setCell ⟨b2, j, none⟩ (.int .i64 rm)) := HBD.out.setCell (p := ⟨b2, j, none⟩) (by have := HN.out; show _ ≤ b2; omega) _
   go_roundw
   case rel => exact ⟨j + 1, by omega, by go_num, hB9, by show Blk _ _ _ _; rw [← HT.out]; exact HD2.out.set_ j _⟩
   case measure => simp [intOf]; omega
  ·obtain rfl : wn = j := by omega
   have HE : Hid (c.wg.take wn = c.wg) := List.take_of_length_le (by rw [HEW.out]; exact Nat.le_refl _)
   rw [HE.out] at HR2; have c0 : wr.cell? ⟨b2, 0, none⟩ = some (.int .i64 (roomP c.wg 0)) := HR2.out.cell 0; have c1 : wr.cell? ⟨b2, 1, none⟩ = some (.int .i64 (roomP c.wg 1)) := HR2.out.cell 1; have c2 : wr.cell? ⟨b2, 2, none⟩ = some (.int .i64 (roomP c.wg 2)) := HR2.out.cell 2; have f0 := HR2.out.frozen 0; have f1 := HR2.out.frozen 1; have f2 := HR2.out.frozen 2; have l2 := HR2.out.lt; go_wp2; obtain ⟨W9, hW9⟩ : ∃ W9, W9 = ((wr.setCell ⟨b2, 0, none⟩ (.int .i64 (roomP c.wg 0))).setCell ⟨b2, 1, none⟩ (.int .i64 (roomP c.wg 1))).setCell ⟨b2, 2, none⟩ (.int .i64 (roomP c.wg 2)) := ⟨_, rfl⟩; rw [← hW9]; have hk : Blk W9 b2 106 #[.int .i64 (roomP c.wg 0), .int .i64 (roomP c.wg 1), .int .i64 (roomP c.wg 2)] := by rw [hW9]; have h := ((HR2.out.set_ 0 (.int .i64 (roomP c.wg 0))).set_ 1 (.int .i64 (roomP c.wg 1))).set_ 2 (.int .i64 (roomP c.wg 2)); simpa [roomsC] using h
   have hn : w.heap.size ≤ b2 := by have := HN.out; omega
   have hb9 : Below w.heap.size w W9 := by rw [hW9]; exact ((HBR.out.setCell (p := ⟨b2, 0, none⟩) hn _).setCell (p := ⟨b2, 1, none⟩) hn _).setCell (p := ⟨b2, 2, none⟩) hn _
   have g0 := hk.cell 0; have g1 := hk.cell 1; have g2 := hk.cell 2; simp at g0 g1 g2; exact bodyPost_ret (by simp [results, Tryz.results81, go_sem, g0, g1, g2]; rfl) rfl ⟨rfl, hb9⟩
theorem roomsC_take {R : Rm} {j : Nat} (b : Int) (hj : j < 3) : (roomsC R).setIfInBounds j (.int .i64 (R j - b)) = roomsC (takeR R j b) := by
 unfold roomsC takeR
 match j, hj with
 | 0, _ => simp
 | 1, _ => simp
 | 2, _ => simp
def planB (c : ICart) (ps : List Int) : Bool := decide (ps.length = c.lt.length) && ps.all fun p => decide (p = -1) || isWagB c p
theorem planB_parts {ps : List Int} (h : planB c ps = true) : ps.length = c.lt.length ∧ ∀ p ∈ ps, p = -1 ∨ (0 ≤ p ∧ p < c.wg.length) := by
 unfold planB at h; simp only [Bool.and_eq_true, decide_eq_true_eq, List.all_eq_true, Bool.or_eq_true] at h
 refine ⟨h.1, fun p hp => ?_⟩
 rcases h.2 p hp with h1 | h1
 ·exact .inl h1
 ·exact .inr (by have := inB_iff.1 h1; omega)
def checkV (c : ICart) (ps : List Int) : Nat × Nat := (checkL c.tm c.wg 0 c.lt ps (roomP c.wg)).getD (0, 0)
theorem ccheck_any {pa : Option Addr} {pn pc : Nat} {ps : List Int} (hp : planB c ps = true) (hpn : ps.length = pn) (hr : RdG inI 1 w B pa ps) (hY : YdIn w B d fa fl fc la ll lc wa wn wc ta tn tc c) : Calls Tryz.prog 59 #[.pointer (some ⟨d, 0, none⟩), .slice pa pn pc] w fun e w' =>
  e = .returned (.tuple #[.int .i64 (checkV c ps).1, .int .i64 (checkV c ps).2]) ∧ Below w.heap.size w w' := by
 obtain ⟨hpl, hps⟩ := planB_parts hp; have hw3 : wn ≤ 3 := by have := hY.ewn; have := (okC_parts hY.ok).2.2.1; omega
 have ht5 : tn ≤ 5 := by have := hY.etn; have := (okC_parts hY.ok).2.2.2.1; omega
 have hptn : pn = tn := by have := hY.etn; omega
 subst hptn; have HYo := Lib.hid hY; have HPR := Lib.hid hr; have HEN : Hid (c.wg.length = wn ∧ c.lt.length = pn ∧ ps.length = pn) := ⟨hY.ewn, hY.etn, hpn⟩; have HLT : Hid (∀ l ∈ c.lt, lotB l = true) := (okC_parts hY.ok).2.2.2.2.2; have HWG : Hid (∀ l ∈ c.wg, wagB l = true) := (okC_parts hY.ok).2.2.2.2.1; have HPS := Lib.hid hps; clear hp hr hY hps hpl hpn
 go_enter Tryz.func59, Tryz.ntmps59
 go_wp2_with fail; refine (rooms_any (fa := fa) (fl := fl) (fc := fc) (la := la) (ll := ll) (lc := lc) (wa := wa) (wc := wc) (ta := ta) (tn := pn) (tc := tc) HYo.out).mono ?_
 rintro e w1 ⟨rfl, hb⟩; have HB1 : Hid (Below w.heap.size w w1) := hb; clear hb; obtain ⟨W, hW⟩ : ∃ W, W = w1.alloc (.cells (roomsC (roomP c.wg)) 106) := ⟨_, rfl⟩; obtain ⟨b6, hb6⟩ : ∃ b, b = w1.heap.size := ⟨_, rfl⟩; have HBW : Hid (Below w.heap.size w W) := by rw [hW]; exact HB1.out.alloc HB1.out.size _
 have HX6 : Hid (Blk W b6 106 (roomsC (roomP c.wg))) := by rw [hW, hb6]; exact Blk.new w1 106 _
 have HN : Hid (w.heap.size ≤ b6) := by show _ ≤ _; rw [hb6]; exact HB1.out.size
 dsimp only [roomsC] at hW ⊢; go_wp2; rw [← hb6, ← hW]; clear hW hb6
 have HR0 : Hid (∀ i, 0 ≤ roomP c.wg i ∧ roomP c.wg i ≤ 30) := fun i => by
  unfold roomP
  cases h : c.wg[i]? with
  | none => exact ⟨by simp, by simp⟩
  | some g => have := wagB_iff.1 (HWG.out g (List.mem_of_getElem? h)); simp only; omega
 have hmf := hmf0
 go_loopw [15] (fun i wr => ∃ (j : Nat) (R : Rm), j ≤ pn ∧ i = .int .i64 j ∧ Hid (Below w.heap.size w wr) ∧ Hid (Blk wr b6 106 (roomsC R)) ∧ Hid (checkL c.tm c.wg 0 c.lt ps (roomP c.wg) = checkL c.tm c.wg j (c.lt.drop j) (ps.drop j) R) ∧ Hid (∀ i, 0 ≤ R i ∧ R i ≤ 30)) (fun i _ => pn - (intOf i).toNat)
 case atStart => exact ⟨0, roomP c.wg, Nat.zero_le _, rfl, HBW, HX6, rfl, HR0⟩
 case round =>
  obtain ⟨j, R, hj, rfl, HBR, HR6, HC, HRB⟩ := hrel
  by_cases hlt : j < pn
  ·obtain ⟨p, hp⟩ : ∃ x, ps[j]? = some x := ⟨ps[j]'(by have := HEN.out; omega), by simp⟩
   obtain ⟨l, hl⟩ : ∃ x, c.lt[j]? = some x := ⟨c.lt[j]'(by have := HEN.out; omega), by simp⟩
   have hdp : ps.drop j = p :: ps.drop (j + 1) := by rw [List.drop_eq_getElem_cons (by have := HEN.out; omega)]; congr 1; have := List.getElem?_eq_some_iff.1 hp; exact this.2
   have hdl : c.lt.drop j = l :: c.lt.drop (j + 1) := by rw [List.drop_eq_getElem_cons (by have := HEN.out; omega)]; congr 1; have := List.getElem?_eq_some_iff.1 hl; exact this.2
   have HCS := HC; rw [hdp, hdl] at HCS; obtain ⟨bp, op, rfl, hbp, P0⟩ := rd_in (HPR.out.below (HBR.out.mono HYo.out.hB)) j p hp; have hbpw : bp < wr.heap.size := by have := HBR.out.size; have := HYo.out.hB; omega
   rcases HPS.out p (List.mem_of_getElem? hp) with hp1 | hp1
   ·have hneg : p < 0 := by omega
    have HCN : Hid (checkL c.tm c.wg 0 c.lt ps (roomP c.wg) = checkL c.tm c.wg (j + 1) (c.lt.drop (j + 1)) (ps.drop (j + 1)) R) := by
     show _ = _; rw [HCS.out, checkL, if_pos hneg]
    clear hdp hdl hp hl hbp; go_wp2; go_roundw
    case rel => exact ⟨j + 1, R, by omega, by go_num, HBR, HR6, HCN, HRB⟩
    case measure => simp [intOf]; omega
   ·obtain ⟨k, rfl⟩ : ∃ k : Nat, p = k := ⟨p.toNat, by omega⟩
    have hkw : k < wn := by have := HEN.out.1; omega
    obtain ⟨wg, hw⟩ : ∃ x, c.wg[k]? = some x := ⟨c.wg[k]'(by omega), by simp⟩
    obtain ⟨br, hbr⟩ : ∃ br, br = brokenW (c.tm wg) l wg (R k) := ⟨_, rfl⟩
    have HST : Hid (checkL c.tm c.wg 0 c.lt ps (roomP c.wg) = if br = 0 then checkL c.tm c.wg (j + 1) (c.lt.drop (j + 1)) (ps.drop (j + 1)) (takeR R k l.bales) else some (j, br)) := by
     show _ = _; rw [HCS.out, checkL, if_neg (by omega), Int.toNat_natCast, hw]
     simp only [← hbr]
    have HYR := Lib.hid (HYo.out.grow HBR.out); obtain ⟨bl, ol, rfl, hbl, L0, L1, L2, L3, L4⟩ := rd_lt HYR.out.hlt j l hl; have hblw : bl < wr.heap.size := by have := HYR.out.hB; omega
    have y9 : wr.cell? ⟨d, 9, none⟩ = some (.slice (some ⟨bl, ol, none⟩) pn tc) := HYR.out.blk.cell 9; have yl := HYR.out.blk.lt
    have hv0 : (roomsC R)[k]? = some (.int .i64 (R k)) := by
     unfold roomsC
     match k, (show k < 3 by omega) with
     | 0, _ => rfl
     | 1, _ => rfl
     | 2, _ => rfl
    have cj : wr.cell? ⟨b6, k, none⟩ = some (.int .i64 (R k)) := (HR6.out.cell k).trans hv0; have l6 := HR6.out.lt; have HW := Lib.hid hw; have HLB := Lib.hid (lotB_iff.1 (HLT.out l (List.mem_of_getElem? hl))); have HBRV : Hid (br = brokenW (c.tm wg) l wg (R k)) := hbr; have hk3 : k < 3 := by omega
    have hk3i : (k : Int) < 3 := by omega
    clear hdp hdl hp hl hbp hw hbr hbl hv0 HCS; obtain ⟨l0, l1, l2, l3, l4⟩ := l; simp only at L0 L1 L2 L3 L4 HST HLB; go_upto_region 6 with (fail)
    refine wp_region_havoc [(0,false),(1,false),(2,false),(3,false),(4,false),(5,false),(6,false),(7,false),(8,false),(9,false),(10,false),(11,false),(12,false),(13,false),(14,false),(15,false),(16,false)] [] (fun _ _ => False) (by kernel_rfl) (by kernel_rfl) (fun _ _ _ _ h => h.elim) ?_
    (apply hav_same (by exact ho rfl) (by kernel_rfl); (focus (intro wv hgv _; have hcv := cvB hgv; (try go_simp); try rfl; done)); simp only [Act.put, qA9, qB9, qC9])
    iterate 11 (apply hav_same (by exact ho rfl) (by kernel_rfl); (focus (intro wv hgv _; have hcv := cvB hgv; (try go_simp); try rfl; done)); simp only [Act.put, qA9, qB9, qC9])
    iterate 3 (apply hav_same (by exact ho rfl) (by kernel_rfl); (focus (intro wv hgv _; have hcv := cvB hgv; (try go_simp); try rfl; done)); simp only [Act.put, qA9, qB9, qC9])
    (apply hav_call (by exact ho rfl) (by kernel_rfl); (focus (intro wv; go_simp; try exact ⟨rfl, rfl⟩; done)); (focus (intro wv hgv _; refine (broken_any (fa := fa) (fl := fl) (fc := fc) (la := la) (ll := ll) (lc := lc) (wa := wa) (wn := wn) (wc := wc) (tn := pn) (tc := tc) ⟨l0, l1, l2, l3, l4⟩ k (R k) wg HW.out (HYR.out.grow hgv)).mono ?_; rintro e w' ⟨rfl, hb⟩; exact ⟨rfl, hb⟩; done)); simp only [Act.put, qA9, qB9, qC9])
    (apply hav_same (by exact ho rfl) (by kernel_rfl); (focus (intro wv hgv _; have hcv := cvB hgv; (try go_simp); try rfl; done)); simp only [Act.put, qA9, qB9, qC9])
    refine hav_end (fun wz hgz _ => ?_)
    simp only [List.filterMap]; have hbz : Below wr.heap.size wr wz := hgz; rw [← HBRV.out]; have HBZ : Hid (Below w.heap.size w wz) := HBR.out.trans (hbz.mono HBR.out.size); have HZ6 := Lib.hid (HR6.out.below hbz l6); have HYZ := Lib.hid (HYR.out.grow hbz); have z0 := (Below.cell hbz (p := ⟨bl, ol + j * 5 + 1, none⟩) hblw).trans L1; have hblz : bl < wz.heap.size := Nat.lt_of_lt_of_le hblw hbz.size; have z9 : wz.cell? ⟨d, 9, none⟩ = some (.slice (some ⟨bl, ol, none⟩) pn tc) := HYZ.out.blk.cell 9; have zl := HYZ.out.blk.lt
    have ck : wz.cell? ⟨b6, k, none⟩ = some (.int .i64 (R k)) := (HZ6.out.cell k).trans (by
     unfold roomsC
     match k, hk3 with
     | 0, _ => rfl
     | 1, _ => rfl
     | 2, _ => rfl)
    have fk := HZ6.out.frozen k; have k6 := HZ6.out.lt; clear hgz hbz P0 hbpw L0 L1 L2 L3 L4 y9 yl cj l6 hblw
    by_cases hb0 : br = 0
    ·have hle : l1 ≤ R k := by
      have h := HBRV.out; rw [hb0] at h; unfold brokenW at h; simp only at h
      split at h
      ·cases h
      ·split at h
       ·cases h
       ·omega
     have HCN : Hid (checkL c.tm c.wg 0 c.lt ps (roomP c.wg) = checkL c.tm c.wg (j + 1) (c.lt.drop (j + 1)) (ps.drop (j + 1)) (takeR R k l1)) := by
      show _ = _; rw [HST.out, if_pos hb0]
     have hRk := HRB.out k; have hlb := HLB.out
     have HRN : Hid (∀ i, 0 ≤ takeR R k l1 i ∧ takeR R k l1 i ≤ 30) := fun i => by
      unfold takeR
      split
      ·rename_i hi; subst hi; omega
      ·exact HRB.out i
     subst hb0; go_wp2_with fail; refine (bless_any (R k) l1 (by omega) (by omega) _).mono ?_
     rintro e w3 ⟨rfl, rfl⟩; clear hRk hlb hle; go_wp2; go_roundw
     case rel =>
      refine ⟨j + 1, takeR R k l1, by omega, by go_num, HBZ.out.setCell (p := ⟨b6, k, none⟩) HN.out _, ?_, HCN, HRN⟩
      show Blk _ _ _ _; rw [← roomsC_take l1 hk3]; exact HZ6.out.set_ k _
     case measure => simp [intOf]; omega
    ·have HV : Hid (checkV c ps = (j, br)) := by show _ = _; unfold checkV; rw [HST.out, if_neg hb0]; rfl
     go_wp2; go_ret2
     exact ⟨by rw [HV.out]; rfl, HBZ.out⟩
  ·obtain rfl : pn = j := by omega
   have HV : Hid (checkV c ps = (0, 0)) := by
    show _ = _; unfold checkV; rw [HC.out, List.drop_of_length_le (by have := HEN.out; omega), List.drop_of_length_le (by have := HEN.out; omega)]
    rfl
   go_wp2; go_ret2
   exact ⟨by rw [HV.out]; rfl, HBR.out⟩
end
def goodN (c : ICart) (n : Int) : Bool := decide (n = -1) || isWagB c n
section
variable {fa la wa ta : Option Addr} {fl fc ll lc wn wc tn tc : Nat} {c : ICart}
variable {w w' : World} {B d : Nat}
theorem isPlan1_any (n : Int) {b : Nat} (hw : c.wg.length = wn) (hwn : wn ≤ 1000) (hb : Blk w b 31 #[.int .i64 c.riv.depth.lo, .int .i64 c.riv.depth.hi, .int .i64 c.riv.fall.lo, .int .i64 c.riv.fall.hi, .int .i64 c.riv.days, .slice fa fl fc, .slice la ll lc, .int .i64 c.draws, .slice wa wn wc, .slice ta tn tc]) : Calls Tryz.prog 99 #[.int .i64 n, .pointer (some ⟨b, 0, none⟩)] w fun e w' => e = .returned (.bool (!goodN c n)) ∧ Below w.heap.size w w' := by
 by_cases hn : n = -1
 ·subst hn; have HG : Hid (goodN c (-1) = true) := by show _ = _; unfold goodN; rw [decide_eq_true rfl]; rfl
  clear hb hw; rw [HG.out]
  go_enter Tryz.func99, Tryz.ntmps99
  go_wp2; go_ret
  exact ⟨rfl, Below.refl _ _⟩
 ·have HG : Hid (goodN c n = isWagB c n) := by show _ = _; unfold goodN; rw [decide_eq_false hn]; rfl
  have HX := Lib.hid hb; have HW := Lib.hid hw; clear hb hw; rw [HG.out]; obtain ⟨q0, q1, q2, q3, q4, q5, q6, q7, q8, q9, ql⟩ := cx31 HX.out
  go_enter Tryz.func99, Tryz.ntmps99
  go_wp2_with fail; refine (cisWagon_any (fa := fa) (fl := fl) (fc := fc) (la := la) (ll := ll) (lc := lc) (wa := wa) (wc := wc) (ta := ta) (tn := tn) (tc := tc) n HW.out hwn _).mono ?_
  rintro e w' ⟨rfl, hb⟩; go_wp2; go_ret
  exact ⟨ret_bool (by simp [hn]), hb⟩
theorem indexFunc_any {pa : Option Addr} {pn pc : Nat} {ps : List Int} {b : Nat} (hpn : ps.length = pn) (hr : RdG inI 1 w B pa ps) (hB : B ≤ w.heap.size) (hw : c.wg.length = wn) (hwn : wn ≤ 1000) (hb : Blk w b 31 #[.int .i64 c.riv.depth.lo, .int .i64 c.riv.depth.hi, .int .i64 c.riv.fall.lo, .int .i64 c.riv.fall.hi, .int .i64 c.riv.days, .slice fa fl fc, .slice la ll lc, .int .i64 c.draws, .slice wa wn wc, .slice ta tn tc]) (hpm : pn ≤ 9223372036854775807) :
  Calls Tryz.prog 129 #[.slice pa pn pc, .func (.func 99) #[] #[.pointer (some ⟨b, 0, none⟩)]] w fun e w' => (∃ r : Int, e = .returned (.int .i64 r) ∧ decide (r ≥ 0) = !ps.all (goodN c)) ∧ Below w.heap.size w w' := by
 have HP := Lib.hid hpn; have HR := Lib.hid hr; have HW := Lib.hid hw; have HX := Lib.hid hb; have EG := Lib.hid (enters_of Tryz.func99 (by kernel_rfl) rfl)
 clear hpn hr hw hb
 go_enter Tryz.func129, Tryz.ntmps129
 go_wp2
 go_loopw [8] (fun i wr => ∃ j : Nat, j ≤ pn ∧ i = .int .i64 j ∧ Hid (Below w.heap.size w wr) ∧ Hid ((ps.take j).all (goodN c) = true)) (fun i _ => pn - (intOf i).toNat)
 case atStart => exact ⟨0, Nat.zero_le _, rfl, Below.refl _ _, by show _ = _; simp⟩
 case round =>
  obtain ⟨j, hj, rfl, HBR, HA⟩ := hrel
  by_cases hlt : j < pn
  ·obtain ⟨x, hx⟩ : ∃ x, ps[j]? = some x := ⟨ps[j]'(by have := HP.out; omega), by simp⟩
   obtain ⟨bk, off, rfl, hbl, H0⟩ := rd_in (HR.out.below (HBR.out.mono hB)) j x hx; have hbw : bk < wr.heap.size := by have := HBR.out.size; omega
   have HXR := Lib.hid (HX.out.below HBR.out HX.out.lt); have HST := Lib.hid (CT_take_all (goodN c) ps j x hx)
   have HBD : Hid (goodN c x = false → ps.all (goodN c) = false) := fun h => CT_all_false hx h
   clear hx hbl; go_wp2_with fail; refine (isPlan1_any (fa := fa) (fl := fl) (fc := fc) (la := la) (ll := ll) (lc := lc) (wa := wa) (wc := wc) (ta := ta) (tn := tn) (tc := tc) x HW.out hwn HXR.out).mono ?_; rintro e w1 ⟨rfl, hb⟩; have HB1 : Hid (Below w.heap.size w w1) := HBR.out.trans (hb.mono HBR.out.size); clear hb
   cases hg : goodN c x
   ·have HV := Lib.hid (HBD.out hg); clear hg; go_wp2; go_ret
    exact ⟨⟨_, rfl, by rw [HV.out]; simp⟩, HB1.out⟩
   ·have HA2 : Hid ((ps.take (j + 1)).all (goodN c) = true) := by show _ = _; rw [HST.out, HA.out, hg]; rfl
    clear hg; go_wp2; go_roundw
    case rel => exact ⟨j + 1, by omega, by go_num, HB1, HA2⟩
    case measure => simp [intOf]; omega
  ·obtain rfl : pn = j := by omega
   have HV : Hid (ps.all (goodN c) = true) := by
    have h := HA.out; rw [List.take_of_length_le (by rw [HP.out]; exact Nat.le_refl _)] at h
    exact h
   go_wp2; go_ret
   exact ⟨⟨_, rfl, by rw [HV.out]; rfl⟩, HBR.out⟩
theorem contains_any {pa : Option Addr} {pn pc : Nat} {ps : List Int} {b : Nat} (hpn : ps.length = pn) (hr : RdG inI 1 w B pa ps) (hB : B ≤ w.heap.size) (hw : c.wg.length = wn) (hwn : wn ≤ 1000) (hb : Blk w b 31 #[.int .i64 c.riv.depth.lo, .int .i64 c.riv.depth.hi, .int .i64 c.riv.fall.lo, .int .i64 c.riv.fall.hi, .int .i64 c.riv.days, .slice fa fl fc, .slice la ll lc, .int .i64 c.draws, .slice wa wn wc, .slice ta tn tc]) (hpm : pn ≤ 9223372036854775807) :
  Calls Tryz.prog 98 #[.slice pa pn pc, .func (.func 99) #[] #[.pointer (some ⟨b, 0, none⟩)]] w fun e w' => e = .returned (.bool (!ps.all (goodN c))) ∧ Below w.heap.size w w' := by
 have HC := Lib.hid (indexFunc_any (pc := pc) hpn hr hB hw hwn hb hpm); clear hpn hr hw hb
 go_enter Tryz.func98, Tryz.ntmps98
 go_wp2_with fail; refine HC.out.mono ?_
 rintro e w1 ⟨⟨r, rfl, h⟩, hb⟩; have HR := Lib.hid h; clear h; go_wp2; go_ret
 exact ⟨ret_bool (by rw [← HR.out]), hb⟩
theorem isPlan_any {pa : Option Addr} {pn pc : Nat} {ps : List Int} (hpn : ps.length = pn) (hr : RdG inI 1 w B pa ps) (hB : B ≤ w.heap.size) (hw : c.wg.length = wn) (ht : c.lt.length = tn) (hwn : wn ≤ 1000) (hpm : pn ≤ 9223372036854775807) :
  Calls Tryz.prog 58 #[(.agg #[.int .i64 c.riv.depth.lo, .int .i64 c.riv.depth.hi, .int .i64 c.riv.fall.lo, .int .i64 c.riv.fall.hi, .int .i64 c.riv.days, .slice fa fl fc, .slice la ll lc, .int .i64 c.draws, .slice wa wn wc, .slice ta tn tc]), .slice pa pn pc] w fun e w' => e = .returned (.bool (planB c ps)) ∧ Below w.heap.size w w' := by
 obtain ⟨W, hW⟩ : ∃ W, W = w.alloc (.cells #[.int .i64 c.riv.depth.lo, .int .i64 c.riv.depth.hi, .int .i64 c.riv.fall.lo, .int .i64 c.riv.fall.hi, .int .i64 c.riv.days, .slice fa fl fc, .slice la ll lc, .int .i64 c.draws, .slice wa wn wc, .slice ta tn tc] 31) := ⟨_, rfl⟩; obtain ⟨b2, hb2⟩ : ∃ g, g = w.heap.size := ⟨_, rfl⟩; have HX : Hid (Blk W b2 31 #[.int .i64 c.riv.depth.lo, .int .i64 c.riv.depth.hi, .int .i64 c.riv.fall.lo, .int .i64 c.riv.fall.hi, .int .i64 c.riv.days, .slice fa fl fc, .slice la ll lc, .int .i64 c.draws, .slice wa wn wc, .slice ta tn tc]) := by rw [hW, hb2]; exact Blk.new w 31 _
 have HB0 : Hid (Below w.heap.size w W) := by rw [hW]; exact (Below.refl _ _).alloc (Nat.le_refl _) _
 have HC := Lib.hid (contains_any (pc := pc) hpn (hr.below (HB0.out.mono hB)) (Nat.le_trans hB HB0.out.size) hw hwn HX.out hpm); have hmf := hmf0; have HV : Hid (planB c ps = (decide (pn = tn) && ps.all (goodN c))) := by show _ = _; unfold planB goodN; rw [hpn, ht]
 rw [HV.out]; clear hpn hr hw ht
 by_cases he : pn = tn
 ·subst he; rw [decide_eq_true rfl]
  go_enter Tryz.func58, Tryz.ntmps58
  go_upto_region 1 with (fail); rw [← hW, ← hb2]; clear hW hb2; obtain ⟨q0, q1, q2, q3, q4, q5, q6, q7, q8, q9, ql⟩ := cx31 HX.out; go_wp2_with fail; refine HC.out.mono ?_; rintro e w1 ⟨rfl, hb⟩; go_wp2; go_ret
  exact ⟨ret_bool (by simp), HB0.out.trans (hb.mono HB0.out.size)⟩
 ·rw [decide_eq_false he]; have he2 : ¬ (pn : Int) = tn := by omega
  go_enter Tryz.func58, Tryz.ntmps58
  go_upto_region 1 with (fail); rw [← hW, ← hb2]; clear hW hb2; obtain ⟨q0, q1, q2, q3, q4, q5, q6, q7, q8, q9, ql⟩ := cx31 HX.out; go_wp2; go_ret
  exact ⟨ret_bool (by simp), HB0.out⟩
theorem isQ57 {pa : Option Addr} {pn pc : Nat} {ps : List Int} (hpn : ps.length = pn) (hr : RdG inI 1 w B pa ps) (hB0 : B ≤ w.heap.size) (hw : c.wg.length = wn) (ht : c.lt.length = tn) (hpm : pn ≤ 9223372036854775807) {b2 b3 : Nat} (hb2 : Blk w b2 31 #[.int .i64 c.riv.depth.lo, .int .i64 c.riv.depth.hi, .int .i64 c.riv.fall.lo, .int .i64 c.riv.fall.hi, .int .i64 c.riv.days, .slice fa fl fc, .slice la ll lc, .int .i64 c.draws, .slice wa wn wc, .slice ta tn tc]) (hb3 : Blk w b3 32 #[.slice pa pn pc]) (hv : okC c = true) : IsQ w 57 #[.pointer (some ⟨b2, 0, none⟩), .pointer (some ⟨b3, 0, none⟩)] (planB c ps) := by
 intro wq hB; have hx := hb2.below hB hb2.lt; have hy := hb3.below hB hb3.lt; obtain ⟨q0, q1, q2, q3, q4, q5, q6, q7, q8, q9, ql⟩ := cx31 hx; have p0 := hy.cell 0; have pl := hy.lt; simp at p0; have hwn : wn ≤ 1000 := by have := (okC_parts hv).2.2.1; omega
 have HPR := Lib.hid (hr.below (hB.mono hB0)); have HE : Hid (ps.length = pn ∧ c.wg.length = wn ∧ c.lt.length = tn ∧ B ≤ wq.heap.size) := ⟨hpn, hw, ht, Nat.le_trans hB0 hB.size⟩; clear hB hb2 hb3 hx hy hv hr hpn hw ht hB0
 go_enter Tryz.func57, Tryz.ntmps57
 go_wp2_with fail; refine (isPlan_any (fa := fa) (fl := fl) (fc := fc) (la := la) (ll := ll) (lc := lc) (wa := wa) (wc := wc) (ta := ta) (tc := tc) (pc := pc) HE.out.1 HPR.out HE.out.2.2.2 HE.out.2.1 HE.out.2.2.1 hwn hpm).mono ?_
 rintro e w' ⟨rfl, hb⟩; go_wp2; go_ret
 exact ⟨rfl, hb⟩
theorem isQ65 {pa : Option Addr} {pn pc : Nat} {ps : List Int} (hpn : ps.length = pn) (hr : RdG inI 1 w B pa ps) (hB0 : B ≤ w.heap.size) (hw : c.wg.length = wn) (ht : c.lt.length = tn) (hpm : pn ≤ 9223372036854775807) {b2 b3 : Nat} (hb2 : Blk w b2 31 #[.int .i64 c.riv.depth.lo, .int .i64 c.riv.depth.hi, .int .i64 c.riv.fall.lo, .int .i64 c.riv.fall.hi, .int .i64 c.riv.days, .slice fa fl fc, .slice la ll lc, .int .i64 c.draws, .slice wa wn wc, .slice ta tn tc]) (hb3 : Blk w b3 32 #[.slice pa pn pc]) (hv : okC c = true) : IsQ w 65 #[.pointer (some ⟨b2, 0, none⟩), .pointer (some ⟨b3, 0, none⟩)] (planB c ps) := by
 intro wq hB; have hx := hb2.below hB hb2.lt; have hy := hb3.below hB hb3.lt; obtain ⟨q0, q1, q2, q3, q4, q5, q6, q7, q8, q9, ql⟩ := cx31 hx; have p0 := hy.cell 0; have pl := hy.lt; simp at p0; have hwn : wn ≤ 1000 := by have := (okC_parts hv).2.2.1; omega
 have HPR := Lib.hid (hr.below (hB.mono hB0)); have HE : Hid (ps.length = pn ∧ c.wg.length = wn ∧ c.lt.length = tn ∧ B ≤ wq.heap.size) := ⟨hpn, hw, ht, Nat.le_trans hB0 hB.size⟩; clear hB hb2 hb3 hx hy hv hr hpn hw ht hB0
 go_enter Tryz.func65, Tryz.ntmps65
 go_wp2_with fail; refine (isPlan_any (fa := fa) (fl := fl) (fc := fc) (la := la) (ll := ll) (lc := lc) (wa := wa) (wc := wc) (ta := ta) (tc := tc) (pc := pc) HE.out.1 HPR.out HE.out.2.2.2 HE.out.2.1 HE.out.2.2.1 hwn hpm).mono ?_
 rintro e w' ⟨rfl, hb⟩; go_wp2; go_ret
 exact ⟨rfl, hb⟩
end
end Go.Proofs.YtgmfhngcehkibaaGreat
