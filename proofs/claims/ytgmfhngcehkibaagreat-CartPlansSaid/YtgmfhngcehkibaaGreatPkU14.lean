import Derived.Test.YtgmfhngcehkibaaGreatPkU13
set_option maxRecDepth 100000
set_option maxHeartbeats 6400000
namespace Go.Proofs.YtgmfhngcehkibaaGreat
open Go.RowKit Go.Hav Go.Shelf Go.Sq
attribute [local go_sem] Oper.semAt_some
theorem all_no {α : Type} {P : α → Bool} {l : List α} {x : α} (hm : x ∈ l) (h : P x = false) : l.all P = false := by rw [List.all_eq_false]; exact ⟨x, hm, by simp [h]⟩
theorem take_all {α : Type} {P : α → Bool} {l : List α} {k : Nat} {c : α} (hc : l[k]? = some c) (h : (l.take k).all P = true) (hP : P c = true) : (l.take (k + 1)).all P = true := by
 rw [List.take_add_one, hc]; simp [h, hP]
section
variable {fa la : Option Addr} {fl fc ll lc : Nat} {r : IRiv} {w : World}
theorem rriver_any (w : World) (hP : RvIn w w.heap.size fa fl la ll r) : Calls Tryz.prog 84 #[(.agg #[.int .i64 r.depth.lo, .int .i64 r.depth.hi, .int .i64 r.fall.lo, .int .i64 r.fall.hi, .int .i64 r.days, .slice fa fl fc, .slice la ll lc])] w fun e w' => e = .returned (.bool (okR r)) ∧ Below w.heap.size w w' := by
 have HP := Lib.hid hP; have HEF := Lib.hid hP.efl; have HEL := Lib.hid hP.ell; have m1 := hP.mfl; have m2 := hP.mll; clear hP; obtain ⟨W, hW⟩ : ∃ W, W = w.alloc (.cells #[.int .i64 r.depth.lo, .int .i64 r.depth.hi, .int .i64 r.fall.lo, .int .i64 r.fall.hi, .int .i64 r.days, .slice fa fl fc, .slice la ll lc] 27) := ⟨_, rfl⟩; have HK : Hid (Blk W w.heap.size 27 #[.int .i64 r.depth.lo, .int .i64 r.depth.hi, .int .i64 r.fall.lo, .int .i64 r.fall.hi, .int .i64 r.days, .slice fa fl fc, .slice la ll lc]) := by rw [hW]; exact Blk.new w 27 _
 have HB0 : Hid (Below w.heap.size w W) := by rw [hW]; exact (Below.refl _ _).alloc (Nat.le_refl _) _
 have hsW : W.heap.size = w.heap.size + 1 := by rw [hW]; simp
 have HBX : Hid (Below W.heap.size W W) := Below.refl _ _; have HKR := HK; have q0 := HK.out.cell 0; have q1 := HK.out.cell 1; have q2 := HK.out.cell 2; have q3 := HK.out.cell 3; have q4 := HK.out.cell 4; have q5 := HK.out.cell 5; have q6 := HK.out.cell 6; have ql := HK.out.lt; simp at q0 q1 q2 q3 q4 q5 q6; have HOK : Hid (okR r = (headB r && r.fr.all (frB r.days) && r.lk.all (lkB r.days))) := rfl; have HHD : Hid (headB r = (spB r.depth 0 60 4 && spB r.fall 0 5 2 && inB r.days 1 10 && decide (r.fr.length ≤ 3) && decide (r.lk.length ≤ 5))) := rfl
 go_enter Tryz.func84, Tryz.ntmps84
 go_wp2_with fail; rw [← hW]
 refine (rspan_any r.depth 0 60 4 (by omega) (by omega) W).mono ?_
 cases h1 : spB r.depth 0 60 4
 ·have HN : Hid (okR r = false) := by show _ = _; rw [HOK.out, HHD.out, h1]; rfl
  clear h1; rintro e w1 ⟨rfl, hb⟩; have HBZ : Hid (Below w.heap.size w w1) := HB0.out.trans (hb.mono (by omega))
  clear hb; go_wp2; go_ret
  exact ⟨ret_bool HN.out.symm, HBZ.out⟩
 rintro e w1 ⟨rfl, hb⟩; have HBX1 : Hid (Below W.heap.size W w1) := hb; have HK1 : Hid (Blk w1 w.heap.size 27 #[.int .i64 r.depth.lo, .int .i64 r.depth.hi, .int .i64 r.fall.lo, .int .i64 r.fall.hi, .int .i64 r.days, .slice fa fl fc, .slice la ll lc]) := HK.out.below hb HK.out.lt; clear hb q0 q1 q2 q3 q4 q5 q6 ql hW; have q0 := HK1.out.cell 0; have q1 := HK1.out.cell 1; have q2 := HK1.out.cell 2; have q3 := HK1.out.cell 3; have q4 := HK1.out.cell 4; have q5 := HK1.out.cell 5; have q6 := HK1.out.cell 6; have ql := HK1.out.lt; simp at q0 q1 q2 q3 q4 q5 q6; go_wp2_with fail; refine (rspan_any r.fall 0 5 2 (by omega) (by omega) w1).mono ?_
 cases h2 : spB r.fall 0 5 2
 ·have HN : Hid (okR r = false) := by show _ = _; rw [HOK.out, HHD.out, h1, h2]; rfl
  clear h2; rintro e w2 ⟨rfl, hb⟩; have HBZ : Hid (Below w.heap.size w w2) := HB0.out.trans ((HBX1.out.trans (hb.mono HBX1.out.size)).mono (by omega))
  clear hb; go_wp2; go_ret
  exact ⟨ret_bool HN.out.symm, HBZ.out⟩
 rintro e w2 ⟨rfl, hb⟩; have HBX2 : Hid (Below W.heap.size W w2) := HBX1.out.trans (hb.mono HBX1.out.size); have HK2 : Hid (Blk w2 w.heap.size 27 #[.int .i64 r.depth.lo, .int .i64 r.depth.hi, .int .i64 r.fall.lo, .int .i64 r.fall.hi, .int .i64 r.days, .slice fa fl fc, .slice la ll lc]) := HK1.out.below hb HK1.out.lt; clear hb q0 q1 q2 q3 q4 q5 q6 ql HK1 HBX1; have q0 := HK2.out.cell 0; have q1 := HK2.out.cell 1; have q2 := HK2.out.cell 2; have q3 := HK2.out.cell 3; have q4 := HK2.out.cell 4; have q5 := HK2.out.cell 5; have q6 := HK2.out.cell 6; have ql := HK2.out.lt; simp at q0 q1 q2 q3 q4 q5 q6; have HBW2 : Hid (Below w.heap.size w w2) := HB0.out.trans (HBX2.out.mono (by omega))
 go_wp2_with fail; refine (rin_any r.days 1 10 w2).mono ?_
 cases h3 : inB r.days 1 10
 ·have HN : Hid (okR r = false) := by show _ = _; rw [HOK.out, HHD.out, h1, h2, h3]; rfl
  clear h3; rintro e w' ⟨rfl, rfl⟩; go_wp2; go_ret
  exact ⟨ret_bool HN.out.symm, HBW2.out⟩
 rintro e w3 ⟨rfl, hw3⟩; obtain rfl : w2 = w3 := hw3.symm; clear hw3
 by_cases hfl : fl ≤ 3
 case neg =>
  have HN : Hid (okR r = false) := by show _ = _; rw [HOK.out, HHD.out]; simp; intros; have := HEF.out; omega
  have hd : decide ((3 : Int) < fl) = true := by simp; omega
  go_wp2; go_ret
  exact ⟨ret_bool HN.out.symm, HBW2.out⟩
 have hd : decide ((3 : Int) < fl) = false := by simp; omega
 by_cases hll : ll ≤ 5
 case neg =>
  have HN : Hid (okR r = false) := by show _ = _; rw [HOK.out, HHD.out]; simp; intros; have := HEL.out; omega
  have hd5 : decide ((5 : Int) < ll) = true := by simp; omega
  go_wp2; go_ret
  exact ⟨ret_bool HN.out.symm, HBW2.out⟩
 have hd5 : decide ((5 : Int) < ll) = false := by simp; omega
 have HHT : Hid (headB r = true) := by show _ = _; rw [HHD.out, h1, h2, h3]; simp; have := HEF.out; have := HEL.out; omega
 obtain ⟨d1, d2⟩ := inB_iff.1 h3; clear h1 h2 h3; go_wp2; clear q0 q1 q2 q3 q4 q5 q6 hd hd5
 go_loopw [3] (fun i wr => ∃ k : Nat, k ≤ fl ∧ i = .int .i64 k ∧ Hid ((r.fr.take k).all (frB r.days) = true) ∧ Hid (Below W.heap.size W wr)) (fun i _ => fl - (intOf i).toNat)
 case atStart => exact ⟨0, Nat.zero_le _, rfl, by show _ = _; simp, HBX2⟩
 case round =>
  obtain ⟨k, hk, rfl, HT, HBX⟩ := hrel; have HKR : Hid (Blk wr w.heap.size 27 #[.int .i64 r.depth.lo, .int .i64 r.depth.hi, .int .i64 r.fall.lo, .int .i64 r.fall.hi, .int .i64 r.days, .slice fa fl fc, .slice la ll lc]) := HK.out.below HBX.out (by omega)
  have hsz : w.heap.size < wr.heap.size := HKR.out.lt; have xb0 : wr.cell? ⟨w.heap.size, 0, none⟩ = some (.int .i64 r.depth.lo) := HKR.out.cell 0; have xb1 : wr.cell? ⟨w.heap.size, 1, none⟩ = some (.int .i64 r.depth.hi) := HKR.out.cell 1; have xb2 : wr.cell? ⟨w.heap.size, 2, none⟩ = some (.int .i64 r.fall.lo) := HKR.out.cell 2; have xb3 : wr.cell? ⟨w.heap.size, 3, none⟩ = some (.int .i64 r.fall.hi) := HKR.out.cell 3; have xb4 : wr.cell? ⟨w.heap.size, 4, none⟩ = some (.int .i64 r.days) := HKR.out.cell 4; have xb5 : wr.cell? ⟨w.heap.size, 5, none⟩ = some (.slice fa fl fc) := HKR.out.cell 5; have xb6 : wr.cell? ⟨w.heap.size, 6, none⟩ = some (.slice la ll lc) := HKR.out.cell 6; have HBR : Hid (Below w.heap.size w wr) := HB0.out.trans (HBX.out.mono (by omega))
  by_cases hlt : k < fl
  ·obtain ⟨c, hc⟩ : ∃ c, r.fr[k]? = some c := ⟨r.fr[k]'(by have := HEF.out; omega), by simp⟩
   obtain ⟨b, off, hA, hbl, H0, H1, H2, H3⟩ := rd_frI ((HP.out.grow HBR.out).hfr) k c hc; subst hA; have HC := Lib.hid hc; have HM := Lib.hid (List.mem_of_getElem? hc); obtain ⟨⟨c0, c1⟩, ⟨c2, c3⟩⟩ := c; simp only at H0 H1 H2 H3; clear hc; have HF : Hid (frB r.days ⟨⟨c0, c1⟩, ⟨c2, c3⟩⟩ = (spB ⟨c0, c1⟩ 1 r.days 3 && spB ⟨c2, c3⟩ 1 20 3)) := rfl; go_upto_region 7 with (fail); obtain ⟨W7, hW7⟩ : ∃ W7, W7 = wr.alloc (.cells #[.int .i64 c0, .int .i64 c1, .int .i64 c2, .int .i64 c3] 59) := ⟨_, rfl⟩; have HX7 : Hid (Blk W7 wr.heap.size 59 #[.int .i64 c0, .int .i64 c1, .int .i64 c2, .int .i64 c3]) := by rw [hW7]; exact Blk.new wr 59 _
   have HB7 : Hid (Below wr.heap.size wr W7) := by rw [hW7]; exact (Below.refl _ _).alloc (Nat.le_refl _) _
   rw [← hW7]; have y0 := HX7.out.cell 0; have y1 := HX7.out.cell 1; have y2 := HX7.out.cell 2; have y3 := HX7.out.cell 3; have yl := HX7.out.lt; simp at y0 y1 y2 y3; have xb4' : W7.cell? ⟨w.heap.size, 4, none⟩ = some (.int .i64 r.days) := (HKR.out.below HB7.out hsz).cell 4; have hs7 : w.heap.size < W7.heap.size := by have := HB7.out.size; omega
   clear hW7 H0 H1 H2 H3; go_wp2_with fail; refine (rspan_any ⟨c0, c1⟩ 1 r.days 3 (by omega) (by omega) W7).mono ?_
   cases g1 : spB ⟨c0, c1⟩ 1 r.days 3
   ·have HN : Hid (okR r = false) := by
     show _ = _; rw [HOK.out, all_no HM.out (by rw [HF.out, g1]; rfl)]; simp
    clear g1; rintro e w5 ⟨rfl, hb⟩; have HBZ : Hid (Below w.heap.size w w5) := HBR.out.trans ((HB7.out.trans (hb.mono HB7.out.size)).mono (by omega))
    clear hb; go_wp2; go_ret
    exact ⟨ret_bool HN.out.symm, HBZ.out⟩
   rintro e w5 ⟨rfl, hb⟩; have HB8 : Hid (Below wr.heap.size wr w5) := HB7.out.trans (hb.mono HB7.out.size); have HX8 : Hid (Blk w5 wr.heap.size 59 #[.int .i64 c0, .int .i64 c1, .int .i64 c2, .int .i64 c3]) := HX7.out.below hb HX7.out.lt; clear hb y0 y1 y2 y3 yl; have y2 := HX8.out.cell 2; have y3 := HX8.out.cell 3; have yl := HX8.out.lt; simp at y2 y3; go_wp2_with fail; refine (rspan_any ⟨c2, c3⟩ 1 20 3 (by omega) (by omega) w5).mono ?_
   cases g2 : spB ⟨c2, c3⟩ 1 20 3
   ·have HN : Hid (okR r = false) := by
     show _ = _; rw [HOK.out, all_no HM.out (by rw [HF.out, g1, g2]; rfl)]; simp
    clear g2; rintro e w6 ⟨rfl, hb⟩; have HBZ : Hid (Below w.heap.size w w6) := HBR.out.trans ((HB8.out.trans (hb.mono HB8.out.size)).mono (by omega))
    clear hb; go_wp2; go_ret
    exact ⟨ret_bool HN.out.symm, HBZ.out⟩
   rintro e w6 ⟨rfl, hb⟩; have HN := Lib.hid (take_all HC.out HT.out (by rw [HF.out, g1, g2]; rfl))
   have HB9 : Hid (Below W.heap.size W w6) := HBX.out.trans ((HB8.out.trans (hb.mono HB8.out.size)).mono HBX.out.size); clear hb g1 g2; go_wp2; go_roundw
   case rel => exact ⟨k + 1, by omega, by go_num, HN, HB9⟩
   case measure => simp [intOf]; omega
  ·obtain rfl : fl = k := by omega
   have HFR : Hid (r.fr.all (frB r.days) = true) := by have h := HT.out; rwa [← HEF.out, List.take_length] at h
   have HBXa := HBX; go_wp2; clear xb0 xb1 xb2 xb3 xb4 xb5 xb6 HKR HBR HBX hsz HT
   go_loopw [5] (fun i wq => ∃ k : Nat, k ≤ ll ∧ i = .int .i64 k ∧ Hid ((r.lk.take k).all (lkB r.days) = true) ∧ Hid (Below W.heap.size W wq)) (fun i _ => ll - (intOf i).toNat)
   case atStart => exact ⟨0, Nat.zero_le _, rfl, by show _ = _; simp, HBXa⟩
   case round =>
    obtain ⟨k, hk, rfl, HT, HBX⟩ := hrel; have HKR : Hid (Blk wr w.heap.size 27 #[.int .i64 r.depth.lo, .int .i64 r.depth.hi, .int .i64 r.fall.lo, .int .i64 r.fall.hi, .int .i64 r.days, .slice fa fl fc, .slice la ll lc]) := HK.out.below HBX.out (by omega)
    have hsz : w.heap.size < wr.heap.size := HKR.out.lt; have xb0 : wr.cell? ⟨w.heap.size, 0, none⟩ = some (.int .i64 r.depth.lo) := HKR.out.cell 0; have xb1 : wr.cell? ⟨w.heap.size, 1, none⟩ = some (.int .i64 r.depth.hi) := HKR.out.cell 1; have xb2 : wr.cell? ⟨w.heap.size, 2, none⟩ = some (.int .i64 r.fall.lo) := HKR.out.cell 2; have xb3 : wr.cell? ⟨w.heap.size, 3, none⟩ = some (.int .i64 r.fall.hi) := HKR.out.cell 3; have xb4 : wr.cell? ⟨w.heap.size, 4, none⟩ = some (.int .i64 r.days) := HKR.out.cell 4; have xb5 : wr.cell? ⟨w.heap.size, 5, none⟩ = some (.slice fa fl fc) := HKR.out.cell 5; have xb6 : wr.cell? ⟨w.heap.size, 6, none⟩ = some (.slice la ll lc) := HKR.out.cell 6; have HBR : Hid (Below w.heap.size w wr) := HB0.out.trans (HBX.out.mono (by omega))
    by_cases hlt : k < ll
    ·obtain ⟨c, hc⟩ : ∃ c, r.lk[k]? = some c := ⟨r.lk[k]'(by have := HEL.out; omega), by simp⟩
     obtain ⟨b, off, hA, hbl, H0, H1, H2⟩ := rd_lkI ((HP.out.grow HBR.out).hlk) k c hc; subst hA; have HC := Lib.hid hc; have HM := Lib.hid (List.mem_of_getElem? hc); obtain ⟨cd, ⟨c0, c1⟩⟩ := c; simp only at H0 H1 H2; clear hc; have HF : Hid (lkB r.days ⟨cd, ⟨c0, c1⟩⟩ = (inB cd 0 r.days && spB ⟨c0, c1⟩ 0 200 200)) := rfl; go_wp2
     cases g1 : inB cd 0 r.days
     ·have HN : Hid (okR r = false) := by
       show _ = _; rw [HOK.out, all_no HM.out (by rw [HF.out, g1]; rfl)]; simp
      have HD : Hid (∀ wv, Calls Tryz.prog 107 #[.agg #[.int .i64 r.depth.lo, .int .i64 r.depth.hi, .int .i64 r.fall.lo, .int .i64 r.fall.hi, .int .i64 r.days, .slice fa fl fc, .slice (some ⟨b, off, none⟩) ll lc], .int .i64 cd] wv fun e w' => e = .returned (.bool false) ∧ Below wv.heap.size wv w') := fun wv => by
       have h := rday_any (fa := fa) (la := some ⟨b, off, none⟩) (fl := fl) (fc := fc) (ll := ll) (lc := lc) (r := r) cd wv; rw [show isDayB r cd = inB cd 0 r.days from rfl, g1] at h
       exact h
      clear g1
      refine wp_region_havoc [(0,false),(1,false),(2,false),(3,false),(4,false),(5,false),(6,false),(7,false),(8,false),(9,false),(10,false),(11,false),(12,false),(13,false),(14,false),(15,false),(16,false),(17,false),(18,false)] [] (fun _ _ => False) (by kernel_rfl) (by kernel_rfl) (fun _ _ _ _ h => h.elim) ?_
      (apply hav_same (by exact ho rfl) (by kernel_rfl); (focus (intro wv hgv _; have hcv := cvB hgv; (try go_simp); try rfl; done)); simp only [Act.put, qA9, qB9, qC9])
      iterate 6 (apply hav_same (by exact ho rfl) (by kernel_rfl); (focus (intro wv hgv _; have hcv := cvB hgv; (try go_simp); try rfl; done)); simp only [Act.put, qA9, qB9, qC9])
      (apply hav_call (by exact ho rfl) (by kernel_rfl); (focus (intro wv; go_simp; try exact ⟨rfl, rfl⟩; done)); (focus (intro wv hgv _; exact HD.out wv; done)); simp only [Act.put, qA9, qB9, qC9])
      iterate 2 (apply hav_same (by exact ho rfl) (by kernel_rfl); (focus (intro wv hgv _; have hcv := cvB hgv; (try go_simp); try rfl; done)); simp only [Act.put, qA9, qB9, qC9])
      iterate 8 (refine hav_skip (by exact ho rfl) (by kernel_rfl) ?_; simp only [Act.put, qA9, qB9, qC9])
      (apply hav_same (by exact ho rfl) (by kernel_rfl); (focus (intro wv hgv _; have hcv := cvB hgv; (try go_simp); try rfl; done)); simp only [Act.put, qA9, qB9, qC9])
      refine hav_end (fun w5 hgw5 _ => ?_); simp only [List.filterMap]; have hcw5 : ∀ b o, b < _ → w5.cell? ⟨b, o, none⟩ = _ := fun b o hb => Below.cell hgw5 (p := ⟨b, o, none⟩) hb; have hfw5 : ∀ b o, b < _ → w5.frozen? ⟨b, o, none⟩ = _ := fun b o hb => Below.frozen hgw5 (p := ⟨b, o, none⟩) hb; have hzw5 := Below.size hgw5; (try simp at hzw5)
      have HBZ : Hid (Below w.heap.size w w5) := HBR.out.trans (hgw5.mono (by omega))
      clear hgw5 hcw5 hfw5; go_wp2; go_ret
      exact ⟨ret_bool HN.out.symm, HBZ.out⟩
     ·have HD : Hid (∀ wv, Calls Tryz.prog 107 #[.agg #[.int .i64 r.depth.lo, .int .i64 r.depth.hi, .int .i64 r.fall.lo, .int .i64 r.fall.hi, .int .i64 r.days, .slice fa fl fc, .slice (some ⟨b, off, none⟩) ll lc], .int .i64 cd] wv fun e w' => e = .returned (.bool true) ∧ Below wv.heap.size wv w') := fun wv => by
       have h := rday_any (fa := fa) (la := some ⟨b, off, none⟩) (fl := fl) (fc := fc) (ll := ll) (lc := lc) (r := r) cd wv; rw [show isDayB r cd = inB cd 0 r.days from rfl, g1] at h
       exact h
      rw [g1] at HF; clear g1; obtain ⟨y, hy⟩ : ∃ y, spB ⟨c0, c1⟩ 0 200 200 = y := ⟨_, rfl⟩
      have HS2 : Hid (∀ wv, Calls Tryz.prog 105 #[.agg #[.int .i64 c0, .int .i64 c1], .int .i64 0, .int .i64 200, .int .i64 200] wv fun e w' => e = .returned (.bool y) ∧ Below wv.heap.size wv w') := fun wv => by
       have h := rspan_any ⟨c0, c1⟩ 0 200 200 (by omega) (by omega) wv
       rw [hy] at h; exact h
      rw [hy] at HF; clear hy
      refine wp_region_havoc [(0,false),(1,false),(2,false),(3,false),(4,false),(5,false),(6,false),(7,false),(8,false),(9,false),(10,false),(11,false),(12,false),(13,false),(14,false),(15,false),(16,false),(17,false),(18,false)] [] (fun _ _ => False) (by kernel_rfl) (by kernel_rfl) (fun _ _ _ _ h => h.elim) ?_
      (apply hav_same (by exact ho rfl) (by kernel_rfl); (focus (intro wv hgv _; have hcv := cvB hgv; (try go_simp); try rfl; done)); simp only [Act.put, qA9, qB9, qC9])
      iterate 6 (apply hav_same (by exact ho rfl) (by kernel_rfl); (focus (intro wv hgv _; have hcv := cvB hgv; (try go_simp); try rfl; done)); simp only [Act.put, qA9, qB9, qC9])
      (apply hav_call (by exact ho rfl) (by kernel_rfl); (focus (intro wv; go_simp; try exact ⟨rfl, rfl⟩; done)); (focus (intro wv hgv _; exact HD.out wv; done)); simp only [Act.put, qA9, qB9, qC9])
      iterate 8 (apply hav_same (by exact ho rfl) (by kernel_rfl); (focus (intro wv hgv _; have hcv := cvB hgv; (try go_simp); try rfl; done)); simp only [Act.put, qA9, qB9, qC9])
      (apply hav_call (by exact ho rfl) (by kernel_rfl); (focus (intro wv; go_simp; try exact ⟨rfl, rfl⟩; done)); (focus (intro wv hgv _; exact HS2.out wv; done)); simp only [Act.put, qA9, qB9, qC9])
      iterate 2 (apply hav_same (by exact ho rfl) (by kernel_rfl); (focus (intro wv hgv _; have hcv := cvB hgv; (try go_simp); try rfl; done)); simp only [Act.put, qA9, qB9, qC9])
      refine hav_end (fun w5 hgw5 _ => ?_); simp only [List.filterMap]; have hcw5 : ∀ b o, b < _ → w5.cell? ⟨b, o, none⟩ = _ := fun b o hb => Below.cell hgw5 (p := ⟨b, o, none⟩) hb; have hfw5 : ∀ b o, b < _ → w5.frozen? ⟨b, o, none⟩ = _ := fun b o hb => Below.frozen hgw5 (p := ⟨b, o, none⟩) hb; have hzw5 := Below.size hgw5; (try simp at hzw5)
      have HBZ : Hid (Below W.heap.size W w5) := HBX.out.trans (hgw5.mono HBX.out.size); clear hgw5 hcw5 hfw5; cases y
      ·have HN : Hid (okR r = false) := by
        show _ = _; rw [HOK.out, all_no HM.out (by rw [HF.out]; rfl)]; simp
       go_wp2; go_ret
       exact ⟨ret_bool HN.out.symm, HB0.out.trans (HBZ.out.mono (by omega))⟩
      ·have HN := Lib.hid (take_all HC.out HT.out (by rw [HF.out]; rfl))
       go_wp2; go_roundw
       case rel => exact ⟨k + 1, by omega, by go_num, HN, HBZ⟩
       case measure => simp [intOf]; omega
    ·obtain rfl : ll = k := by omega
     have HN : Hid (okR r = true) := by
      have h := HT.out; rw [← HEL.out, List.take_length] at h; show _ = _; rw [HOK.out, HHT.out, HFR.out, h]; rfl
     go_wp2; go_ret
     exact ⟨ret_bool HN.out.symm, HBR.out⟩
end
theorem Tryz.infoE3 : (Tryz.prog.info? 3).map (fun i => (i.zero, i.size, i.bytes)) = some (some (.int .i64 0), 1, 8) := by kernel_rfl
theorem Tryz.infoE47 : (Tryz.prog.info? 32).map (fun i => (i.zero, i.size, i.bytes)) = some (some (.slice none 0 0), 1, 24) := by kernel_rfl
def SpR (w : World) (A : Option Addr) (l : List NSp) : Prop := ∀ (k : Nat) (s : NSp), l[k]? = some s → ∃ b off cur, A = some ⟨b, off, none⟩ ∧ Blk w b 23 cur ∧ cur[off + k * 2]? = some (nV s.lo) ∧ cur[off + k * 2 + 1]? = some (nV s.hi)
theorem SpR.below {w w' : World} {A : Option Addr} {l : List NSp} (h : SpR w A l) (hb : Below w.heap.size w w') : SpR w' A l := fun k s hs => by
 obtain ⟨b, off, cur, h1, h2, h3⟩ := h k s hs; exact ⟨b, off, cur, h1, h2.below hb h2.lt, h3⟩
theorem SpR.kt {w w' : World} {A : Option Addr} {l : List NSp} {B : Nat} {t : TypeId} (h : SpR w A l) (hk : KT B t w w') (hne : 23 ≠ t) : SpR w' A l := fun k s hs => by
 obtain ⟨b, off, cur, h1, h2, h3⟩ := h k s hs; exact ⟨b, off, cur, h1, hk.2 _ _ _ hne h2, h3⟩
theorem SpR.at_ {w : World} {A : Option Addr} {l : List NSp} (h : SpR w A l) {k : Nat} {s : NSp} (hs : l[k]? = some s) : ∃ b off, A = some ⟨b, off, none⟩ ∧ b < w.heap.size ∧ w.cell? ⟨b, off + k * 2, none⟩ = some (.int .i64 s.lo) ∧ w.cell? ⟨b, off + k * 2 + 1, none⟩ = some (.int .i64 s.hi) := by
 obtain ⟨b, off, cur, h1, h2, h3, h4⟩ := h k s hs; exact ⟨b, off, h1, h2.lt, by rw [h2.cell]; exact h3, by rw [h2.cell]; exact h4⟩
def SmallS (l : List NSp) : Prop := ∀ s ∈ l, s.lo ≤ s.hi ∧ s.hi ≤ 60 ∧ s.hi ≤ s.lo + 4
theorem listsP_len : ∀ {l : List NSp}, SmallS l → (listsP l).length ≤ 5 ^ l.length
 | [], _ => by simp [listsP]
 | s :: l, h => by
  have ih := listsP_len (l := l) fun x hx => h x (by simp [hx])
  have hs := h s (by simp)
  rw [listsP, List.length_cons, Nat.pow_succ, Nat.mul_comm]
  have key : ∀ m : List Nat, (m.flatMap fun k => (listsP l).map ((s.lo + k) :: ·)).length ≤ m.length * 5 ^ l.length := by
   intro m
   induction m with
   | nil => simp
   | cons x m ihm =>
    rw [List.flatMap_cons, List.length_append, List.length_cons, Nat.succ_mul, List.length_map]
    omega
  refine Nat.le_trans (key _) ?_; rw [List.length_range]; exact Nat.mul_le_mul (by omega) (Nat.le_refl _)
def preN (s : NSp) (l : List NSp) (beg : List Nat) (j : Nat) : List (List Nat) := (List.range j).flatMap fun k => (listsP l).map ((beg ++ [s.lo + k]) ++ ·)
theorem preN_zero {s : NSp} {l : List NSp} {beg : List Nat} : preN s l beg 0 = [] := rfl
theorem preN_next {s : NSp} {l : List NSp} {beg : List Nat} {j : Nat} : preN s l beg (j + 1) = preN s l beg j ++ (listsP l).map ((beg ++ [s.lo + j]) ++ ·) := by
 unfold preN; rw [List.range_succ, List.flatMap_append]
 simp
theorem preN_all {s : NSp} {l : List NSp} {beg : List Nat} : preN s l beg (s.hi + 1 - s.lo) = (listsP (s :: l)).map (beg ++ ·) := by
 unfold preN; rw [listsP, List.map_flatMap]
 congr 1
 funext k
 rw [List.map_map]
 congr 1
 funext x
 simp
def ListsR (B : Nat) (l : List NSp) (beg : List Nat) (Ls : List (List Nat)) (w : World) (e : Ending) (w' : World) : Prop :=
 ∃ v' N xs, e = .returned v' ∧ w'.ownsRow B 32 1 v' N xs ∧ Rows nV 3 w' xs (Ls ++ (listsP l).map (beg ++ ·)) ∧ xs.length = N ∧ KT B 32 w w'
section
variable {sA bA : Option Addr} {sl sc n bc : Nat} {sps : List NSp}
theorem lists_zero (B : Nat) (beg : List Nat) (N : Nat) (v : Value) (xs : List Value) (Ls : List (List Nat)) (w : World) (hB : B ≤ w.heap.size) (hn : beg.length = n) (hbc : n ≤ bc) (hk : n = sl) (hR : RowN nV 3 w bA beg) (hO : w.ownsRow B 32 1 v N xs) (hX : Rows nV 3 w xs Ls) (hN : N + 1 ≤ 400000) :
  Calls Tryz.prog 139 #[.slice sA sl sc, .slice bA n bc, v] w (ListsR B [] beg Ls w) := by
 have HR := Lib.hid hR; have HX := Lib.hid hX; have HO := Lib.hid hO; have HN := Lib.hid hn; clear hR hX hO hn; subst hk; obtain ⟨i0, hi, hz0, hz1, hz2⟩ := info_parts Tryz.infoE47; have HI := Lib.hid hi; have HI0 := Lib.hid hz0; have HI1 := Lib.hid hz1; have HI2 := Lib.hid hz2; clear hi hz0 hz1 hz2; have HBA : Hid (Below w.heap.size w (w.alloc (.cells #[.slice bA n bc] 32))) := (Below.refl _ _).alloc (Nat.le_refl _) _; have HOWN := Lib.hid (own_below HO.out HBA.out); have hB1 : B ≤ (w.alloc (.cells #[.slice bA n bc] 32)).heap.size := by simp; omega
 go_enter Tryz.func139, Tryz.ntmps139
 go_wp2_with (at_builtin; refine wpList_append_own _ rfl _ _ 66 rfl B 32 i0 _ 1 24 Tryz.underlying66 HI.out HI0.out HI1.out HI2.out rfl (by decide) _ _ _ rfl HOWN.out ⟨w.heap.size, 0, none⟩ 1 1 [.slice bA n bc] rfl rfl (news_block (Blk.new w 32 _)) (by simp [Value.oneCell']) (by unfold maxLen; omega) (by omega) hB1 ?_)
 intro v' w5 hown5 hgrow5 _; have HO5 := Lib.hid hown5; have HG5 := Lib.hid (KT.own hB1 HOWN.out hgrow5); clear hown5 hgrow5; go_wp2; go_ret
 have hk : KT B 32 w w5 := (KT.below hB HBA.out).trans HG5.out; refine ⟨v', N + 1, xs ++ [.slice bA n bc], rfl, HO5.out, ?_, by have := HO5.out.1; omega, hk⟩
 have h := (HX.out.kt hk (by decide)).snoc (c := bc) (by rw [HN.out]; exact hbc) (HR.out.kt hk (by decide))
 rw [HN.out] at h
 simpa [listsP] using h
theorem lists_any (hs : SmallS sps) (hsl : sps.length = sl) (h8 : sl ≤ 8) (B : Nat) : ∀ (k : Nat) (beg : List Nat) (bA : Option Addr) (n bc N : Nat) (v : Value) (xs : List Value) (Ls : List (List Nat)) (w : World), B ≤ w.heap.size → SpR w sA sps →
  beg.length = n → n ≤ bc → n + k = sl → RowN nV 3 w bA beg → w.ownsRow B 32 1 v N xs → Rows nV 3 w xs Ls → xs.length = N → N + 5 ^ k ≤ 400000 →
  Calls Tryz.prog 139 #[.slice sA sl sc, .slice bA n bc, v] w (ListsR B (sps.drop n) beg Ls w) := by
 intro k
 induction k with
 | zero =>
  intro beg bA n bc N v xs Ls w hB hP hn hbc hk hR hO hX _ hN; rw [List.drop_of_length_le (by omega)]
  exact lists_zero B beg N v xs Ls w hB hn hbc (by omega) hR hO hX (by simpa using hN)
 | succ k ih =>
  intro beg bA n bc N v xs Ls w hB hP hn hbc hk hR hO hX hxl hN; have HIH := Lib.hid ih; have HP := Lib.hid hP; have HR := Lib.hid hR; have HX := Lib.hid hX; have HO := Lib.hid hO; have HN := Lib.hid hn; have HXL := Lib.hid hxl; have HNB := Lib.hid hN; have HK := Lib.hid hk; have HSL := Lib.hid hsl; have hlt : n < sl := by omega
  obtain ⟨⟨lo, hi⟩, hof⟩ : ∃ v, sps[n]? = some v := ⟨_, List.getElem?_eq_getElem (by omega)⟩
  obtain ⟨hb1, hb2, hb3⟩ := hs _ (List.mem_of_getElem? hof); simp only at hb1 hb2 hb3; have HOF := Lib.hid hof
  have HDR : Hid (sps.drop n = ⟨lo, hi⟩ :: sps.drop (n + 1)) := by
   show _ = _; rw [List.drop_eq_getElem_cons (by omega)]
   congr 1
   have := List.getElem?_eq_getElem (show n < sps.length by omega)
   rw [hof] at this
   injection this with this
   exact this.symm
  have HSM : Hid (SmallS (sps.drop (n + 1)) ∧ (sps.drop (n + 1)).length = k) := ⟨fun s hx => hs s (List.mem_of_mem_drop hx), by rw [List.length_drop]; omega⟩
  obtain ⟨m, hm⟩ : ∃ m, hi + 1 - lo = m := ⟨_, rfl⟩; have hm5 : m ≤ 5 := by omega
  have hml : lo + m = hi + 1 := by omega
  have HM := Lib.hid hm; have hne : ((n : Int) == sl) = false := by simp; omega
  obtain ⟨b0, o0, rfl, hb0, H0, H1⟩ := HP.out.at_ hof; simp only at H0 H1; clear hP hR hX hO hn hs ih hxl hN hof hm hk hsl; obtain ⟨i3, hi3, hz0, hz1, hz2⟩ := info_parts Tryz.infoE3; have HJ := Lib.hid hi3; have HJ0 := Lib.hid hz0; have HJ1 := Lib.hid hz1; have HJ2 := Lib.hid hz2; clear hi3 hz0 hz1 hz2
  go_enter Tryz.func139, Tryz.ntmps139
  go_wp2
  go_loopw [2, 8] (fun o i wr => ∃ (j N' : Nat) (xs' : List Value) (ov : Value), ov = o ∧ j ≤ m ∧ i = .int .i64 ((lo + j : Nat) : Int) ∧ wr.ownsRow B 32 1 ov N' xs' ∧ Rows nV 3 wr xs' (Ls ++ preN ⟨lo, hi⟩ (sps.drop (n + 1)) beg j) ∧ xs'.length = N' ∧ N' ≤ N + j * 5 ^ k ∧ KT B 32 w wr) (fun _ i _ => m - ((intOf i).toNat - lo))
  case atStart => exact ⟨0, N, xs, _, rfl, Nat.zero_le _, by simp, HO.out, by rw [preN_zero, List.append_nil]; exact HX.out, HXL.out, by simp, KT.refl⟩
  case round =>
   obtain ⟨j, N', xs', ov, hov, hj, rfl, hown, hrows, hxl, hnj, hkt⟩ := hrel; subst hov; have HOW := Lib.hid hown; have HRW := Lib.hid hrows; have HXL2 := Lib.hid hxl; have HNJ := Lib.hid hnj; have HKT := Lib.hid hkt; clear hown hrows hxl hnj hkt H0 H1 hb0; have hBr : B ≤ wr.heap.size := Nat.le_trans hB HKT.out.size; have HRB := Lib.hid (HR.out.kt HKT.out (by decide))
   have HPR := Lib.hid (HP.out.kt HKT.out (by decide))
   obtain ⟨b1, o1, e1, hb0, H0, H1⟩ := HPR.out.at_ HOF.out
   injection e1 with e1
   injection e1 with e1 e2
   subst e1 e2; simp only at H0 H1
   by_cases hlt2 : j < m
   ·have hle : lo + j ≤ hi := by omega
    obtain ⟨q, hq⟩ : ∃ q, lo + j = q := ⟨_, rfl⟩; have HQ := Lib.hid hq; have hq0 : q ≤ 60 := by omega
    rw [hq] at hle ⊢; clear hq; go_upto_region 7 with (fail); obtain ⟨w1, hw1⟩ : ∃ w1, w1 = wr.alloc (.cells #[] 3) := ⟨_, rfl⟩; have hB1 : Below wr.heap.size wr w1 := by rw [hw1]; exact (Below.refl _ _).alloc (Nat.le_refl _) _
    have ho1 : w1.ownsRow wr.heap.size 3 1 (.slice (some ⟨wr.heap.size, 0, none⟩) 0 0) 0 [] := by rw [hw1]; exact own_base (ownsRow_empty rfl 3 1) (Nat.le_refl _)
    obtain ⟨v1, w2, hrun1, ⟨g1, c1, rfl⟩, hown1, hG1⟩ := append_empty (P := Tryz.prog) (B := wr.heap.size) (t := 3) (u := nV q) (n := n) (c := bc) (f := fun x => [nV x]) 32 32 i3 _ 8 Tryz.underlying32 HJ.out HJ0.out HJ1.out HJ2.out rfl (fun _ => rfl) (fun x u hu => by simp at hu; subst hu; rfl) HN.out (HRB.out.below hB1).rd (by omega) (by omega) hB1.size ho1
    obtain ⟨w3, hw3⟩ : ∃ w3, w3 = w2.alloc (.cells #[nV q] 3) := ⟨_, rfl⟩; have hs2 : wr.heap.size ≤ w2.heap.size := Nat.le_trans hB1.size hG1.1.size; have hB3 : Below w2.heap.size w2 w3 := by rw [hw3]; exact (Below.refl _ _).alloc (Nat.le_refl _) _
    have hk3 : Blk w3 w2.heap.size 3 #[nV q] := by rw [hw3]; exact Blk.new w2 3 _
    have hs3 : wr.heap.size ≤ w3.heap.size := Nat.le_trans hs2 hB3.size; obtain ⟨v4, w4, hrun2, hown4, hG4⟩ := append_next (P := Tryz.prog) (B := wr.heap.size) (t := 3) (u := nV q) (n := n) 32 32 i3 _ 8 Tryz.underlying32 HJ.out HJ0.out HJ1.out HJ2.out rfl (by rfl) (by omega) (by omega) hs3 (own_below hown1 hB3) hk3
    have HB4 : Hid (Below wr.heap.size wr w4) := ((hB1.trans hG1.1).trans (hB3.mono hs2)).trans hG4.1; obtain ⟨A8, c8, hc8, rfl, hr8, -⟩ := RowN.of_own (L := beg ++ [q]) (e := nV) (by rw [List.flatMap_append]; exact hown4) (by rw [List.length_append, HN.out]; rfl)
    rw [hw1] at hrun1; rw [hw3] at hrun2; rw [show nV q = Value.int .i64 q from rfl] at hrun2
    have HR8 := Lib.hid hr8; clear hown1 hown4 hG1 hG4 hB1 hB3 hk3 hs2 hs3 ho1 hw1 hw3 hr8; have HG2 := HB4
    have HPRE : Hid (Ls ++ preN ⟨lo, hi⟩ (sps.drop (n + 1)) beg (j + 1) = Ls ++ preN ⟨lo, hi⟩ (sps.drop (n + 1)) beg j ++ (listsP (sps.drop (n + 1))).map ((beg ++ [q]) ++ ·)) := by
     show _ = _; rw [preN_next, List.append_assoc]
     congr 2
     rw [show (NSp.mk lo hi).lo + j = q from HQ.out]
    have HLEN : Hid (N' + 5 ^ k ≤ 400000 ∧ (Ls ++ preN ⟨lo, hi⟩ (sps.drop (n + 1)) beg (j + 1)).length ≤ N + (j + 1) * 5 ^ k) := by
     have h1 := HNJ.out; have h2 := HNB.out; have h3 : (j + 1) * 5 ^ k ≤ 5 * 5 ^ k := Nat.mul_le_mul (by omega) (Nat.le_refl _)
     rw [Nat.pow_succ, Nat.mul_comm] at h2; have h4 : (j + 1) * 5 ^ k = j * 5 ^ k + 5 ^ k := Nat.succ_mul _ _; refine ⟨by omega, ?_⟩
     have h5 := HRW.out.1; have h6 := HXL2.out; have h7 := listsP_len HSM.out.1; rw [HSM.out.2] at h7; rw [HPRE.out, List.length_append, List.length_map]
     omega
    have hr1 := hrun1; clear hrun1
    go_wp2_with (at_builtin; first | refine wpList_append_run rfl _ _ 32 rfl rfl rfl hr1 ?_ | refine wpList_append_run rfl _ _ 32 rfl rfl rfl hrun2 ?_)
    refine (HIH.out (beg ++ [q]) A8 (n + 1) c8 N' _ xs' (Ls ++ preN ⟨lo, hi⟩ (sps.drop (n + 1)) beg j) w4 (Nat.le_trans hBr HG2.out.size) (HPR.out.below HG2.out) (by rw [List.length_append, HN.out]; rfl) hc8 (by have := HK.out; omega) HR8.out (own_below HOW.out HG2.out) (HRW.out.below HG2.out) HXL2.out HLEN.out.1).mono ?_
    rintro e w3 ⟨v3, N3, xs3, rfl, hown3, hrows3, hxl3, hkt3⟩; rw [← HPRE.out] at hrows3; have HO3 := Lib.hid hown3; have HR3 := Lib.hid hrows3; have HX3 := Lib.hid hxl3; have HK3 := Lib.hid ((HKT.out.trans (KT.below hBr HG2.out)).trans hkt3)
    have HN3 : Hid (N3 ≤ N + (j + 1) * 5 ^ k) := by
     have h1 := HLEN.out.2; have h2 := HR3.out.1; rw [HX3.out] at h2; show _ ≤ _
     omega
    clear hown3 hrows3 hxl3 hkt3; have hq1 : q + 1 = lo + (j + 1) := by have := HQ.out; omega
    have HQ1 := Lib.hid hq1; clear hq1; go_wp2; go_roundw
    case rel => exact ⟨j + 1, N3, xs3, _, rfl, by omega, by rw [← HQ1.out]; go_num, HO3.out, HR3.out, HX3.out, HN3.out, HK3.out⟩
    case measure => have := HQ.out; simp [intOf]; omega
   ·have hgt : ¬ lo + j ≤ hi := by omega
    obtain rfl : m = j := by omega
    have HALL : Hid (preN ⟨lo, hi⟩ (sps.drop (n + 1)) beg m = (listsP (sps.drop n)).map (beg ++ ·)) := by
     show _ = _; rw [HDR.out, ← preN_all]; show _ = preN _ _ _ (hi + 1 - lo); rw [HM.out]
    have hdd : decide (((lo + m : Nat) : Int) ≤ (hi : Int)) = false := by simp; omega
    go_wp2; go_ret
    exact ⟨_, N', xs', rfl, HOW.out, by rw [← HALL.out]; exact HRW.out, HXL2.out, HKT.out⟩
end
section
variable {dA rA : Option Addr} {n dc rc : Nat} {t : Tr}
theorem in_any (ht : t.Small n) (day : Nat) (hday : day ≤ 10) (w : World) (hT : TrIn w t dA rA) :
  Calls Tryz.prog 35 #[.agg #[.int .i64 t.d, .int .i64 t.by_, .slice dA n dc, .slice rA n rc], .int .i64 day] w fun e w' => e = .returned (.int .i64 (t.at_ day)) ∧ Below w.heap.size w w' := by
 have HT := Lib.hid hT; have HS := Lib.hid ht; have hn := ht.n3; have hd60 := ht.d; have hb60 := ht.by_; have HAT : Hid (t.at_ day = atF t.d t.by_ n t.dsF t.rsF day) := by show _ = _; rw [Tr.at_, ht.ds]
 clear hT ht; obtain ⟨W, hW⟩ : ∃ W, W = w.alloc (.cells #[.int .i64 t.d, .int .i64 t.by_, .slice dA n dc, .slice rA n rc] 57) := ⟨_, rfl⟩; have HX : Hid (Blk W w.heap.size 57 #[.int .i64 t.d, .int .i64 t.by_, .slice dA n dc, .slice rA n rc]) := by rw [hW]; exact Blk.new w 57 _
 have HBW : Hid (Below w.heap.size w W) := by rw [hW]; exact (Below.refl _ _).alloc (Nat.le_refl _) _
 have HTW : Hid (TrIn W t dA rA) := HT.out.below HBW.out
 go_enter Tryz.func35, Tryz.ntmps35
 go_wp2_with fail; rw [← hW]
 clear hW; have x0 := HX.out.cell 0; have x1 := HX.out.cell 1; have x2 := HX.out.cell 2; have x3 := HX.out.cell 3; have xl := HX.out.lt; simp at x0 x1 x2 x3; go_wp2
 go_loopw [5, 6] (fun x i wr => ∃ (k v : Nat), k ≤ day ∧ i = .int .i64 ((k + 1 : Nat) : Int) ∧ x = .int .i64 v ∧ Hid (atF t.d t.by_ n t.dsF t.rsF k = v) ∧ v ≤ 2000 ∧ wr = W) (fun _ i _ => day + 1 - (intOf i).toNat)
 case atStart => exact ⟨0, t.d, Nat.zero_le _, rfl, rfl, rfl, by omega, rfl⟩
 case round =>
  obtain ⟨k, v, hk, rfl, rfl, HV, hv, rfl⟩ := hrel
  by_cases hlt : k + 1 ≤ day
  ·obtain ⟨q, hq⟩ : ∃ q : Nat, v - t.by_ = q := ⟨_, rfl⟩
   have hmx : ∀ w, (Builtin.max_ #[3, 3] 3 #[.int .i64 0, .int .i64 ((v : Int) - t.by_)]).run Tryz.prog w = .ok (.int .i64 q) w := fun w => by rw [max_run]; congr 2; omega
   have HQ := Lib.hid hq; have hq2 : q ≤ 2000 := by omega
   clear hq; go_wp2; obtain ⟨wo, rfl⟩ : ∃ wo : World, wo = wr := ⟨_, rfl⟩
   go_loopw [5, 7] (fun x i wr => ∃ (j s : Nat), j ≤ n ∧ i = .int .i64 j ∧ x = .int .i64 s ∧ Hid (q + riseN t.dsF t.rsF (k + 1) j = s) ∧ s ≤ 2000 + 60 * j ∧ wr = wo) (fun _ i _ => n - (intOf i).toNat)
   case atStart => exact ⟨0, q, Nat.zero_le _, rfl, rfl, rfl, by omega, rfl⟩
   case round =>
    obtain ⟨j, s, hj, rfl, rfl, HSU, hs, rfl⟩ := hrel
    by_cases hlt2 : j < n
    ·obtain ⟨x, hx⟩ : ∃ x, t.ds[j]? = some x := ⟨_, List.getElem?_eq_getElem (by rw [HS.out.ds]; exact hlt2)⟩
     obtain ⟨y, hy⟩ : ∃ y, t.rs[j]? = some y := ⟨_, List.getElem?_eq_getElem (by rw [HS.out.rs]; exact hlt2)⟩
     have hx60 := HS.out.hd x (List.mem_of_getElem? hx); have hy60 := HS.out.hr y (List.mem_of_getElem? hy); have HDX : Hid (t.dsF j = x ∧ t.rsF j = y) := ⟨by unfold Tr.dsF; rw [List.getD_eq_getElem?_getD, hx]; rfl, by unfold Tr.rsF; rw [List.getD_eq_getElem?_getD, hy]; rfl⟩
     obtain ⟨b1, o1, rfl, hb1, H1⟩ := HTW.out.ds.at_ hx; obtain ⟨b2, o2, rfl, hb2, H2⟩ := HTW.out.rs.at_ hy; clear hx hy
     by_cases he : x = k + 1
     ·have HN : Hid (q + riseN t.dsF t.rsF (k + 1) (j + 1) = s + y) := by
       show _ = _; rw [riseN, HDX.out.1, HDX.out.2, if_pos he, ← HSU.out]; omega
      have hd : ((x : Int) == ((k + 1 : Nat) : Int)) = true := by simp; omega
      have hd2 : ((x : Int) == (k : Int) + 1) = true := by simp; omega
      clear he; go_wp2; go_roundw
      case rel => exact ⟨j + 1, s + y, by omega, by go_num, by go_num, HN, by omega, trivial⟩
      case measure => simp [intOf]; omega
     ·have HN : Hid (q + riseN t.dsF t.rsF (k + 1) (j + 1) = s) := by
       show _ = _; rw [riseN, HDX.out.1, if_neg he, ← HSU.out]; rfl
      have hd : ((x : Int) == ((k + 1 : Nat) : Int)) = false := by simp; omega
      have hd2 : ((x : Int) == (k : Int) + 1) = false := by simp; omega
      clear he; go_wp2; go_roundw
      case rel => exact ⟨j + 1, s, by omega, by go_num, rfl, HN, by omega, trivial⟩
      case measure => simp [intOf]; omega
    ·obtain rfl : n = j := by omega
     have HN : Hid (atF t.d t.by_ n t.dsF t.rsF (k + 1) = s) := by
      show _ = _; rw [atF, HV.out, HQ.out, HSU.out]
     have hs2 : s ≤ 2000 := by have h := atF_bd HS.out (k + 1); rw [HN.out] at h; omega
     go_wp2; go_roundw
     case rel => exact ⟨k + 1, s, by omega, by go_num, rfl, HN, hs2, trivial⟩
     case measure => simp [intOf]; omega
  ·obtain rfl : day = k := by omega
   have HE : Hid (t.at_ day = v) := by show _ = _; rw [HAT.out, HV.out]
   go_wp2; go_ret
   exact ⟨ret_int (by rw [HE.out]), HBW.out⟩
end
theorem rightN_no {r : Riv} {set : Nat} {t : Tr} {k : Nat} (h : okP r set t k = false) (hk : k < r.lk.length) : rightP r set t = false := by
 cases hr : rightP r set t
 ·rfl
 ·have := (rightN_iff _).1 hr k hk; rw [h] at this; cases this
section
variable {fa la dA rA : Option Addr} {fl fc ll lc n dc rc : Nat} {r : IRiv} {t : Tr}
theorem right_any (hv : okR r = true) (ht : t.Small n) {s : Nat} (hs : s < 32) (w : World) (hP : RvIn w w.heap.size fa fl la ll r) (hT : TrIn w t dA rA) :
  Calls Tryz.prog 140 #[(.agg #[.int .i64 r.depth.lo, .int .i64 r.depth.hi, .int .i64 r.fall.lo, .int .i64 r.fall.hi, .int .i64 r.days, .slice fa fl fc, .slice la ll lc]), .agg #[.int .i64 t.d, .int .i64 t.by_, .slice dA n dc, .slice rA n rc], .int .i64 s] w fun e w' => e = .returned (.bool (rightP r.nat s t)) ∧ Below w.heap.size w w' := by
 have HP := Lib.hid hP; have HT := Lib.hid hT; have HS := Lib.hid ht; have HEL := Lib.hid hP.ell; have HV := Lib.hid hv; have hll : ll ≤ 5 := by have := (okR_parts hv).1.2.2.2.2; have := HEL.out; omega
 obtain ⟨W, hW⟩ : ∃ W, W = (w.alloc (.cells #[.int .i64 r.depth.lo, .int .i64 r.depth.hi, .int .i64 r.fall.lo, .int .i64 r.fall.hi, .int .i64 r.days, .slice fa fl fc, .slice la ll lc] 27)).alloc (.cells #[.int .i64 t.d, .int .i64 t.by_, .slice dA n dc, .slice rA n rc] 57) := ⟨_, rfl⟩; have HX : Hid (Blk W w.heap.size 27 #[.int .i64 r.depth.lo, .int .i64 r.depth.hi, .int .i64 r.fall.lo, .int .i64 r.fall.hi, .int .i64 r.days, .slice fa fl fc, .slice la ll lc]) := by rw [hW]; exact (Blk.new w 27 _).alloc _
 have HX4 : Hid (Blk W (w.heap.size + 1) 57 #[.int .i64 t.d, .int .i64 t.by_, .slice dA n dc, .slice rA n rc]) := by rw [hW]; exact Blk.new_ (by simp) 57 _
 have HBW : Hid (Below w.heap.size w W) := by rw [hW]; exact ((Below.refl _ _).alloc (Nat.le_refl _) _).alloc (by simp) _
 clear hP hT ht hv
 go_enter Tryz.func140, Tryz.ntmps140
 go_wp2_with fail; rw [← hW]
 clear hW; go_wp2
 go_loopw [7] (fun i wr => ∃ (k : Nat), k ≤ ll ∧ i = .int .i64 k ∧ Hid (rightN r.nat s t k = true) ∧ Hid (Below W.heap.size W wr)) (fun i _ => ll - (intOf i).toNat)
 case atStart => exact ⟨0, Nat.zero_le _, rfl, rfl, Below.refl _ _⟩
 case round =>
  obtain ⟨k, hk, rfl, HR, HBX⟩ := hrel; have HKR : Hid (Blk wr w.heap.size 27 #[.int .i64 r.depth.lo, .int .i64 r.depth.hi, .int .i64 r.fall.lo, .int .i64 r.fall.hi, .int .i64 r.days, .slice fa fl fc, .slice la ll lc]) := HX.out.below HBX.out HX.out.lt; have HTR : Hid (Blk wr (w.heap.size + 1) 57 #[.int .i64 t.d, .int .i64 t.by_, .slice dA n dc, .slice rA n rc]) := HX4.out.below HBX.out HX4.out.lt; have hsz : w.heap.size < wr.heap.size := HKR.out.lt; have hsz4 : w.heap.size + 1 < wr.heap.size := HTR.out.lt; have xb0 : wr.cell? ⟨w.heap.size, 0, none⟩ = some (.int .i64 r.depth.lo) := HKR.out.cell 0; have xb1 : wr.cell? ⟨w.heap.size, 1, none⟩ = some (.int .i64 r.depth.hi) := HKR.out.cell 1; have xb2 : wr.cell? ⟨w.heap.size, 2, none⟩ = some (.int .i64 r.fall.lo) := HKR.out.cell 2; have xb3 : wr.cell? ⟨w.heap.size, 3, none⟩ = some (.int .i64 r.fall.hi) := HKR.out.cell 3; have xb4 : wr.cell? ⟨w.heap.size, 4, none⟩ = some (.int .i64 r.days) := HKR.out.cell 4; have xb5 : wr.cell? ⟨w.heap.size, 5, none⟩ = some (.slice fa fl fc) := HKR.out.cell 5; have xb6 : wr.cell? ⟨w.heap.size, 6, none⟩ = some (.slice la ll lc) := HKR.out.cell 6; have HBR : Hid (Below w.heap.size w wr) := HBW.out.trans (HBX.out.mono HBW.out.size)
  by_cases hlt : k < ll
  ·obtain ⟨c, hc⟩ : ∃ c, r.lk[k]? = some c := ⟨r.lk[k]'(by have := HEL.out; omega), by simp⟩
   obtain ⟨b, off, hA, hbl, H0, H1, H2⟩ := rd_lkI ((HP.out.grow HBR.out).hlk) k c hc; subst hA; have hlk := List.all_eq_true.1 (okR_parts HV.out).2.2 c (List.mem_of_getElem? hc); unfold lkB at hlk; rw [Bool.and_eq_true] at hlk; obtain ⟨g1, g2⟩ := hlk; have g1 := inB_iff.1 g1; obtain ⟨g3, g4, g5, _⟩ := spB_iff.1 g2; have gd := inB_iff.1 (okR_parts HV.out).1.2.2.1; have hcn : r.nat.lk[k]? = some c.nat := by show (r.lk.map (·.nat))[k]? = _; rw [List.getElem?_map, hc]; rfl
   have HOK : Hid (okP r.nat s t k = !(s.testBit k && !inB (t.at_ c.day.toNat) c.dep.lo c.dep.hi)) := by
    show _ = _; unfold okP; rw [hcn]; show (!(s.testBit k && !inB (t.at_ c.day.toNat) ((c.dep.lo.toNat : Nat) : Int) ((c.dep.hi.toNat : Nat) : Int))) = _; rw [show ((c.dep.lo.toNat : Nat) : Int) = c.dep.lo by omega, show ((c.dep.hi.toNat : Nat) : Int) = c.dep.hi by omega]
   have HKL : Hid (k < r.nat.lk.length) := (List.getElem?_eq_some_iff.1 hcn).1; obtain ⟨cd, ⟨c0, c1⟩⟩ := c; simp only at H0 H1 H2 HOK g1 g3 g4 g5; obtain ⟨d, hd⟩ : ∃ d : Nat, cd = d := ⟨cd.toNat, by omega⟩
   subst hd; rw [Int.toNat_natCast] at HOK; have hd10 : d ≤ 10 := by omega
   clear hc hcn g1 g2 g3 g4 g5 gd
   have HH : Hid (∀ wv : World, Calls Tryz.prog 97 #[.int .i64 s, .int .i64 k] wv fun e w' => e = .returned (.bool (s.testBit k)) ∧ Below wv.heap.size wv w') := fun wv => (rhas_any s k (by omega) (by omega) wv).mono (by rintro e w' ⟨rfl, rfl⟩; exact ⟨rfl, Below.refl _ _⟩)
   go_upto_region 5 with (fail); obtain ⟨W7, hW7⟩ : ∃ W7, W7 = wr.alloc (.cells #[.int .i64 d, .int .i64 c0, .int .i64 c1] 61) := ⟨_, rfl⟩; have HX7 : Hid (Blk W7 wr.heap.size 61 #[.int .i64 d, .int .i64 c0, .int .i64 c1]) := by rw [hW7]; exact Blk.new wr 61 _
   have HB7 : Hid (Below wr.heap.size wr W7) := by rw [hW7]; exact (Below.refl _ _).alloc (Nat.le_refl _) _
   rw [← hW7]; have y0 := HX7.out.cell 0; have y1 := HX7.out.cell 1; have y2 := HX7.out.cell 2; have yl := HX7.out.lt; simp at y0 y1 y2; have HT7 := HTR.out.below HB7.out hsz4; have z0 := HT7.cell 0; have z1 := HT7.cell 1; have z2 := HT7.cell 2; have z3 := HT7.cell 3; have zl := HT7.lt; simp at z0 z1 z2 z3; have HB7W : Hid (Below w.heap.size w W7) := HBR.out.trans (HB7.out.mono (by omega))
   clear hW7 H0 H1 H2 HT7
   cases hbit : s.testBit k
   ·have HN : Hid (rightN r.nat s t (k + 1) = true) := by show _ = _; rw [rightN, HR.out, HOK.out, hbit]; rfl
    rw [hbit] at HH; clear hbit
    refine wp_region_havoc [(0,false),(1,false),(2,false),(3,false),(4,false),(5,false),(6,false),(7,false),(8,false),(9,false),(10,false),(11,false),(12,false),(13,false),(14,false),(15,false),(16,false)] [] (fun _ _ => False) (by kernel_rfl) (by kernel_rfl) (fun _ _ _ _ h => h.elim) ?_
    iterate 2 (apply hav_same (by exact ho rfl) (by kernel_rfl); (focus (intro wv hgv _; have hcv := cvB hgv; (try go_simp); try rfl; done)); simp only [Act.put, qA9, qB9, qC9])
    (apply hav_call (by exact ho rfl) (by kernel_rfl); (focus (intro wv; go_simp; try exact ⟨rfl, rfl⟩; done)); (focus (intro wv hgv _; exact HH.out wv; done)); simp only [Act.put, qA9, qB9, qC9])
    (apply hav_same (by exact ho rfl) (by kernel_rfl); (focus (intro wv hgv _; have hcv := cvB hgv; (try go_simp); try rfl; done)); simp only [Act.put, qA9, qB9, qC9])
    iterate 12 (refine hav_skip (by exact ho rfl) (by kernel_rfl) ?_; simp only [Act.put, qA9, qB9, qC9])
    (apply hav_same (by exact ho rfl) (by kernel_rfl); (focus (intro wv hgv _; have hcv := cvB hgv; (try go_simp); try rfl; done)); simp only [Act.put, qA9, qB9, qC9])
    refine hav_end (fun w5 hgw5 _ => ?_); simp only [List.filterMap]; have hcw5 : ∀ b o, b < _ → w5.cell? ⟨b, o, none⟩ = _ := fun b o hb => Below.cell hgw5 (p := ⟨b, o, none⟩) hb; have hfw5 : ∀ b o, b < _ → w5.frozen? ⟨b, o, none⟩ = _ := fun b o hb => Below.frozen hgw5 (p := ⟨b, o, none⟩) hb; have hzw5 := Below.size hgw5; (try simp at hzw5)
    have HBZ : Hid (Below W.heap.size W w5) := HBX.out.trans ((HB7.out.trans (hgw5.mono HB7.out.size)).mono HBX.out.size); clear hgw5 hcw5 hfw5; go_wp2; go_roundw
    case rel => exact ⟨k + 1, by omega, by go_num, HN, HBZ⟩
    case measure => simp [intOf]; omega
   ·rw [hbit] at HH HOK; obtain ⟨y, hy⟩ : ∃ y, inB (t.at_ d) c0 c1 = y := ⟨_, rfl⟩; rw [hy] at HOK
    have HIN : Hid (∀ wv : World, Calls Tryz.prog 106 #[.int .i64 (t.at_ d), .int .i64 c0, .int .i64 c1] wv fun e w' => e = .returned (.bool y) ∧ Below wv.heap.size wv w') := fun wv => (rin_any _ _ _ wv).mono (by rintro e w' ⟨rfl, rfl⟩; exact ⟨by rw [hy], Below.refl _ _⟩)
    have HAT : Hid (∀ wv : World, Below w.heap.size w wv → Calls Tryz.prog 35 #[.agg #[.int .i64 t.d, .int .i64 t.by_, .slice dA n dc, .slice rA n rc], .int .i64 d] wv fun e w' => e = .returned (.int .i64 (t.at_ d)) ∧ Below wv.heap.size wv w') := fun wv hb => in_any HS.out d hd10 wv (HT.out.below hb)
    clear hbit hy
    refine wp_region_havoc [(0,false),(1,false),(2,false),(3,false),(4,false),(5,false),(6,false),(7,false),(8,false),(9,false),(10,false),(11,false),(12,false),(13,false),(14,false),(15,false),(16,false)] [] (fun _ _ => False) (by kernel_rfl) (by kernel_rfl) (fun _ _ _ _ h => h.elim) ?_
    iterate 2 (apply hav_same (by exact ho rfl) (by kernel_rfl); (focus (intro wv hgv _; have hcv := cvB hgv; (try go_simp); try rfl; done)); simp only [Act.put, qA9, qB9, qC9])
    (apply hav_call (by exact ho rfl) (by kernel_rfl); (focus (intro wv; go_simp; try exact ⟨rfl, rfl⟩; done)); (focus (intro wv hgv _; exact HH.out wv; done)); simp only [Act.put, qA9, qB9, qC9])
    iterate 4 (apply hav_same (by exact ho rfl) (by kernel_rfl); (focus (intro wv hgv _; have hcv := cvB hgv; (try go_simp); try rfl; done)); simp only [Act.put, qA9, qB9, qC9])
    (apply hav_call (by exact ho rfl) (by kernel_rfl); (focus (intro wv; go_simp; try exact ⟨rfl, rfl⟩; done)); (focus (intro wv hgv _; exact HAT.out wv (HB7W.out.trans (hgv.mono HB7W.out.size)); done)); simp only [Act.put, qA9, qB9, qC9])
    iterate 6 (apply hav_same (by exact ho rfl) (by kernel_rfl); (focus (intro wv hgv _; have hcv := cvB hgv; (try go_simp); try rfl; done)); simp only [Act.put, qA9, qB9, qC9])
    (apply hav_call (by exact ho rfl) (by kernel_rfl); (focus (intro wv; go_simp; try exact ⟨rfl, rfl⟩; done)); (focus (intro wv hgv _; exact HIN.out wv; done)); simp only [Act.put, qA9, qB9, qC9])
    iterate 2 (apply hav_same (by exact ho rfl) (by kernel_rfl); (focus (intro wv hgv _; have hcv := cvB hgv; (try go_simp); try rfl; done)); simp only [Act.put, qA9, qB9, qC9])
    refine hav_end (fun w5 hgw5 _ => ?_); simp only [List.filterMap]; have hcw5 : ∀ b o, b < _ → w5.cell? ⟨b, o, none⟩ = _ := fun b o hb => Below.cell hgw5 (p := ⟨b, o, none⟩) hb; have hfw5 : ∀ b o, b < _ → w5.frozen? ⟨b, o, none⟩ = _ := fun b o hb => Below.frozen hgw5 (p := ⟨b, o, none⟩) hb; have hzw5 := Below.size hgw5; (try simp at hzw5)
    have HBZ : Hid (Below W.heap.size W w5) := HBX.out.trans ((HB7.out.trans (hgw5.mono HB7.out.size)).mono HBX.out.size); clear hgw5 hcw5 hfw5; cases y
    ·have HN : Hid (rightP r.nat s t = false) := rightN_no (by rw [HOK.out]; rfl) HKL.out
     go_wp2; go_ret
     exact ⟨ret_bool HN.out.symm, HBW.out.trans (HBZ.out.mono HBW.out.size)⟩
    ·have HN : Hid (rightN r.nat s t (k + 1) = true) := by show _ = _; rw [rightN, HR.out, HOK.out]; rfl
     go_wp2; go_roundw
     case rel => exact ⟨k + 1, by omega, by go_num, HN, HBZ⟩
     case measure => simp [intOf]; omega
  ·obtain rfl : ll = k := by omega
   have HN : Hid (rightP r.nat s t = true) := by
    show _ = _; unfold rightP; rw [show r.nat.lk.length = ll by rw [← HEL.out]; show (r.lk.map (·.nat)).length = _; rw [List.length_map]]
    exact HR.out
   go_wp2; go_ret
   exact ⟨ret_bool HN.out.symm, HBR.out⟩
end
end Go.Proofs.YtgmfhngcehkibaaGreat
namespace Go.Proofs.YtgmfhngcehkibaaGreat
open Go.RowKit Go.Hav Go.Shelf Go.Sq
def spC (s : NSp) : List Value := [nV s.lo, nV s.hi]
theorem spC_len (s : NSp) : (spC s).length = 2 := rfl
theorem SpR.of_own {w : World} {B m : Nat} {v : Value} {l : List NSp} (h : w.ownsRow B 23 2 v m (l.flatMap spC)) (hl : l.length = m) : ∃ A c, v = .slice A m c ∧ SpR w A l := by
 rcases h.2 with ⟨rfl, hn⟩ | ⟨g, cap, cur, rfl, hg, hh, hnc, _, _, ht⟩
 ·refine ⟨none, 0, by rw [← hn], ?_⟩
  rw [List.eq_nil_of_length_eq_zero (by rw [hl, hn] : l.length = 0)]
  exact fun k s hs => by simp at hs
 ·refine ⟨_, _, rfl, fun k s hs => ⟨g, 0, cur, rfl, hh, ?_, ?_⟩⟩
  ·have hk : k < l.length := (List.getElem?_eq_some_iff.1 hs).1; have : (l.flatMap spC)[k * 2 + 0]? = some (nV s.lo) := by rw [flat_get spC 2 spC_len l k 0 (by omega), hs]; rfl
   rw [← ht, List.getElem?_take, if_pos (by omega), Array.getElem?_toList] at this
   rw [Nat.zero_add]; exact this
  ·have hk : k < l.length := (List.getElem?_eq_some_iff.1 hs).1; have : (l.flatMap spC)[k * 2 + 1]? = some (nV s.hi) := by rw [flat_get spC 2 spC_len l k 1 (by omega), hs]; rfl
   rw [← ht, List.getElem?_take, if_pos (by omega), Array.getElem?_toList] at this
   rw [Nat.zero_add]; exact this
theorem RowN.part {w : World} {b off m : Nat} {x y : List Nat} (h : RowN nV 3 w (some ⟨b, off, none⟩) x) (hy : ∀ k v, y[k]? = some v → x[m + k]? = some v) : RowN nV 3 w (some ⟨b, off + m, none⟩) y := fun k v hv => by
 obtain ⟨b', off', cur, e, h1, h2⟩ := h _ _ (hy k v hv)
 injection e with e
 injection e with e1 e2
 subst e1 e2; exact ⟨_, _, cur, rfl, h1, by rw [Nat.add_assoc]; exact h2⟩
def TRows (w : World) (n : Nat) (xs : List Value) (Ts : List Tr) : Prop :=
 xs.length = Ts.length * 4 ∧ ∀ (j : Nat) (t : Tr), Ts[j]? = some t → ∃ dA dc rA rc, TrIn w t dA rA ∧ xs[j * 4]? = some (nV t.d) ∧ xs[j * 4 + 1]? = some (nV t.by_) ∧ xs[j * 4 + 2]? = some (.slice dA n dc) ∧ xs[j * 4 + 3]? = some (.slice rA n rc)
theorem TRows.nil {w : World} {n : Nat} : TRows w n [] [] := ⟨rfl, fun j t h => by simp at h⟩
theorem TRows.below {w w' : World} {n : Nat} {xs : List Value} {Ts : List Tr} (h : TRows w n xs Ts) (hb : Below w.heap.size w w') : TRows w' n xs Ts := ⟨h.1, fun j t ht => by
 obtain ⟨dA, dc, rA, rc, h1, h2⟩ := h.2 j t ht
 exact ⟨dA, dc, rA, rc, h1.below hb, h2⟩⟩
theorem TRows.kt {w w' : World} {n : Nat} {xs : List Value} {Ts : List Tr} {B : Nat} {ty : TypeId} (h : TRows w n xs Ts) (hk : KT B ty w w') (hne : 3 ≠ ty) : TRows w' n xs Ts := ⟨h.1, fun j t ht => by
 obtain ⟨dA, dc, rA, rc, h1, h2⟩ := h.2 j t ht
 exact ⟨dA, dc, rA, rc, h1.kt hk hne, h2⟩⟩
theorem TRows.snoc {w : World} {n : Nat} {xs : List Value} {Ts : List Tr} (h : TRows w n xs Ts) {t : Tr} {dA rA : Option Addr} {dc rc : Nat} (ht : TrIn w t dA rA) : TRows w n (xs ++ [nV t.d, nV t.by_, .slice dA n dc, .slice rA n rc]) (Ts ++ [t]) := by
 refine ⟨by simp [h.1]; omega, fun j u hu => ?_⟩
 rcases Nat.lt_or_ge j Ts.length with hj | hj
 ·rw [List.getElem?_append_left hj] at hu; obtain ⟨dA', dc', rA', rc', h1, h2, h3, h4, h5⟩ := h.2 j u hu; have hl := h.1; exact ⟨dA', dc', rA', rc', h1, by rw [List.getElem?_append_left (by omega)]; exact h2, by rw [List.getElem?_append_left (by omega)]; exact h3, by rw [List.getElem?_append_left (by omega)]; exact h4, by rw [List.getElem?_append_left (by omega)]; exact h5⟩
 ·rw [List.getElem?_append_right hj] at hu
  have hj0 : j = Ts.length := by
   rcases Nat.eq_zero_or_pos (j - Ts.length) with h | h
   ·omega
   ·rw [List.getElem?_eq_none (by simp; omega)] at hu
    cases hu
  subst hj0; rw [Nat.sub_self] at hu; obtain rfl : t = u := by simpa using hu
  have hl := h.1; refine ⟨dA, dc, rA, rc, ht, ?_, ?_, ?_, ?_⟩
  ·rw [List.getElem?_append_right (by omega), hl, Nat.sub_self]; rfl
  ·rw [List.getElem?_append_right (by omega), hl, Nat.add_sub_cancel_left]; rfl
  ·rw [List.getElem?_append_right (by omega), hl, Nat.add_sub_cancel_left]; rfl
  ·rw [List.getElem?_append_right (by omega), hl, Nat.add_sub_cancel_left]; rfl
def TrsIn (w : World) (n : Nat) (A : Option Addr) (Ts : List Tr) : Prop :=
 ∀ (j : Nat) (t : Tr), Ts[j]? = some t → ∃ b off dA dc rA rc, A = some ⟨b, off, none⟩ ∧ b < w.heap.size ∧ TrIn w t dA rA ∧ w.cell? ⟨b, off + j * 4, none⟩ = some (.int .i64 t.d) ∧ w.cell? ⟨b, off + j * 4 + 1, none⟩ = some (.int .i64 t.by_) ∧
  w.cell? ⟨b, off + j * 4 + 2, none⟩ = some (.slice dA n dc) ∧ w.cell? ⟨b, off + j * 4 + 3, none⟩ = some (.slice rA n rc)
theorem TrsIn.below {w w' : World} {n : Nat} {A : Option Addr} {Ts : List Tr} (h : TrsIn w n A Ts) (hb : Below w.heap.size w w') : TrsIn w' n A Ts := fun j t ht => by
 obtain ⟨b, off, dA, dc, rA, rc, h1, h2, h3, h4, h5, h6, h7⟩ := h j t ht
 have hc : ∀ o, w'.cell? ⟨b, o, none⟩ = w.cell? ⟨b, o, none⟩ := fun o => Below.cell hb (p := ⟨b, o, none⟩) h2
 exact ⟨b, off, dA, dc, rA, rc, h1, Nat.lt_of_lt_of_le h2 hb.size, h3.below hb, by rw [hc]; exact h4, by rw [hc]; exact h5, by rw [hc]; exact h6, by rw [hc]; exact h7⟩
theorem TrsIn.of_own {w : World} {B N n : Nat} {v : Value} {xs : List Value} {Ts : List Tr} (h : w.ownsRow B 57 4 v N xs) (hT : TRows w n xs Ts) : N = Ts.length ∧ ∃ A c, v = .slice A N c ∧ TrsIn w n A Ts := by
 have hN : N = Ts.length := by have h1 := h.1; have h2 := hT.1; omega
 refine ⟨hN, ?_⟩; rcases h.2 with ⟨rfl, hn⟩ | ⟨g, cap, cur, rfl, hg, hh, hnc, _, _, ht⟩
 ·refine ⟨none, 0, by rw [← hn], ?_⟩
  rw [List.eq_nil_of_length_eq_zero (by rw [← hN, hn] : Ts.length = 0)]
  exact fun k s hs => by simp at hs
 ·refine ⟨_, _, rfl, fun j t hj => ?_⟩
  obtain ⟨dA, dc, rA, rc, h1, h2, h3, h4, h5⟩ := hT.2 j t hj; have hb : Blk w g 57 cur := hh
  have key : ∀ (i : Nat) (u : Value), xs[i]? = some u → w.cell? ⟨g, 0 + i, none⟩ = some u := fun i u hu => by
   have hi : i < N * 4 := by
    rcases Nat.lt_or_ge i (N * 4) with hi | hi
    ·exact hi
    ·rw [← ht, List.getElem?_take, if_neg (by omega)] at hu; cases hu
   rw [← ht, List.getElem?_take, if_pos hi, Array.getElem?_toList] at hu; rw [Nat.zero_add, hb.cell]; exact hu
  exact ⟨g, 0, dA, dc, rA, rc, rfl, hb.lt, h1, key _ _ h2, key _ _ h3, key _ _ h4, key _ _ h5⟩
section
variable {r : IRiv} (hv : okR r = true)
include hv
theorem spans_small : SmallS (spansP r.nat) := by
 have g := good_of hv; obtain ⟨⟨h1, h2, h3, h4, h5⟩, h6, h7⟩ := okR_parts hv; obtain ⟨a1, a2, a3, a4⟩ := spB_iff.1 h1; obtain ⟨b1, b2, b3, b4⟩ := spB_iff.1 h2; have gd := inB_iff.1 h3; intro s hs; simp only [spansP, List.mem_cons, List.mem_append, List.mem_map] at hs; rcases hs with rfl | rfl | ⟨f, hf, rfl⟩ | ⟨f, hf, rfl⟩
 ·simp only [IRiv.nat, ISp.nat]; omega
 ·simp only [IRiv.nat, ISp.nat]; omega
 ·simp only [IRiv.nat, List.mem_map] at hf; obtain ⟨c, hc, rfl⟩ := hf; have := List.all_eq_true.1 h6 c hc; unfold frB at this; rw [Bool.and_eq_true] at this; obtain ⟨d1, d2, d3, d4⟩ := spB_iff.1 this.1; simp only [IFr.nat, ISp.nat]
  omega
 ·simp only [IRiv.nat, List.mem_map] at hf; obtain ⟨c, hc, rfl⟩ := hf; have := List.all_eq_true.1 h6 c hc; unfold frB at this; rw [Bool.and_eq_true] at this; obtain ⟨d1, d2, d3, d4⟩ := spB_iff.1 this.2; simp only [IFr.nat, ISp.nat]
  omega
theorem fr_le3 : r.nat.fr.length ≤ 3 := by
 have := (okR_parts hv).1.2.2.2.1; simp only [IRiv.nat, List.length_map]; exact this
omit hv in
theorem spans_len : (spansP r.nat).length = 2 + (r.nat.fr.length + r.nat.fr.length) := by simp [spansP]; omega
theorem list_bd {x : List Nat} (hx : x ∈ listsP (spansP r.nat)) : x.length = 2 + (r.nat.fr.length + r.nat.fr.length) ∧ ∀ y ∈ x, y ≤ 60 := by
 obtain ⟨h1, h2⟩ := (mem_listsP _ _).1 hx
 refine ⟨by rw [h1, spans_len], fun y hy => ?_⟩
 obtain ⟨i, hi⟩ := List.getElem?_of_mem hy; have hil : i < (spansP r.nat).length := by rw [← h1]; exact (List.getElem?_eq_some_iff.1 hi).1
 have h3 := h2 i _ (List.getElem?_eq_getElem hil); have h4 := spans_small hv _ (List.getElem_mem hil); rw [List.getD_eq_getElem?_getD, hi] at h3; simp only [Option.getD_some] at h3
 omega
theorem trOf_small {x : List Nat} (hx : x ∈ listsP (spansP r.nat)) : (trOf r.nat.fr.length x).Small r.nat.fr.length := by
 obtain ⟨h1, h2⟩ := list_bd hv hx
 have key : ∀ i, x.getD i 0 ≤ 60 := fun i => by
  rw [List.getD_eq_getElem?_getD]
  cases hi : x[i]? with
  | none => simp
  | some y => exact h2 y (List.mem_of_getElem? hi)
 exact ⟨key 0, key 1, fr_le3 hv, by simp [trOf]; omega, by simp [trOf]; omega, fun y hy => h2 y (List.mem_of_mem_drop (List.mem_of_mem_take hy)), fun y hy => h2 y (List.mem_of_mem_drop hy)⟩
theorem truth_small {s : Nat} {t : Tr} (ht : t ∈ truthsP r.nat s) : t.Small r.nat.fr.length := by
 unfold truthsP at ht; obtain ⟨h1, _⟩ := List.mem_filter.1 ht; obtain ⟨x, hx, rfl⟩ := List.mem_map.1 h1; exact trOf_small hv hx
theorem lists_len : (listsP (spansP r.nat)).length ≤ 390625 := by
 have h := listsP_len (spans_small hv); have h2 := Nat.pow_le_pow_right (n := 5) (by omega) (show (spansP r.nat).length ≤ 8 by rw [spans_len]; have := fr_le3 hv; omega)
 omega
end
def filT (R : Riv) (s j : Nat) : List Tr := (((listsP (spansP R)).take j).map (trOf R.fr.length)).filter (rightP R s)
theorem filT_next {R : Riv} {s j : Nat} {x : List Nat} (h : (listsP (spansP R))[j]? = some x) : filT R s (j + 1) = filT R s j ++ if rightP R s (trOf R.fr.length x) = true then [trOf R.fr.length x] else [] := by
 unfold filT; rw [List.take_add_one, h, List.map_append, List.filter_append]
 congr 1
 simp only [Option.toList_some, List.map_cons, List.map_nil, List.filter_cons, List.filter_nil]
theorem filT_all {R : Riv} {s j : Nat} (h : (listsP (spansP R)).length ≤ j) : filT R s j = truthsP R s := by
 unfold filT truthsP; rw [List.take_of_length_le h]
theorem filT_len {R : Riv} {s j : Nat} : (filT R s j).length ≤ j := by
 unfold filT; refine Nat.le_trans (List.length_filter_le _ _) ?_; rw [List.length_map, List.length_take]
 omega
theorem days_next {R : Riv} {k : Nat} {f : NFr} (h : R.fr[k]? = some f) : (R.fr.take (k + 1)).map (·.days) = (R.fr.take k).map (·.days) ++ [f.days] := by rw [List.take_add_one, h, List.map_append]; rfl
theorem rises_next {R : Riv} {k : Nat} {f : NFr} (h : R.fr[k]? = some f) : (R.fr.take (k + 1)).map (·.rise) = (R.fr.take k).map (·.rise) ++ [f.rise] := by rw [List.take_add_one, h, List.map_append]; rfl
end Go.Proofs.YtgmfhngcehkibaaGreat
namespace Go.Hav
open Go.RowKit
section
variable {P : Program} {ops : Array Oper}
def NewAt (V : Nat → Value) (ob : Obj) (B : Nat) (v : Value) (w : World) : Prop := ∃ g, v = V g ∧ B ≤ g ∧ w.heap[g]? = some ob
theorem hav_new {Qp : List PanicEntry → World → Prop} {w0 : World} {Cont : Act → (World → Prop) → Prop} {i : Nat} {rest : List (Nat × Bool)} {a : Act} {F : World → Prop} {o : Oper} (V : Nat → Value) (ob : Obj) (ho : ops[i]? = some o)
  (hw : Region.wanted o (yielded ops a.tmps) = true) (h1 : ∀ w, Grow w0 w → F w → (execOp a.eval o).run P w = .ok (.value (V w.heap.size)) (w.alloc ob))
  (h2 : ∀ v, wpHav P ops Qp w0 Cont rest (a.put o.dst v) (fun w => F w ∧ NewAt V ob w0.heap.size v w)) : wpHav P ops Qp w0 Cont ((i, true) :: rest) a F :=
 hav_ghost (NewAt V ob w0.heap.size) ho
  (fun v w w' ⟨g, h1, h2, h3⟩ hg => ⟨g, h1, h2, (hg.block g (Array.getElem?_eq_some_iff.1 h3).1).trans h3⟩)
  (fun w hg hF K hK => by
   unfold stepOf HavG.stepOf Oper.wp; rw [if_pos hw, h1 w hg hF]
   exact hK _ _ ((Below.refl _ _).alloc (Nat.le_refl _) _) ⟨w.heap.size, rfl, hg.size, heap_alloc_new w _⟩) h2
end
end Go.Hav
