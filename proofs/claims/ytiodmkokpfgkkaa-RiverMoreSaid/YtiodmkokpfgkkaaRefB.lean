/- The walk of the reference's River: is a river valid? No condition. -/
import Derived.Test.YtiodmkokpfgkkaaRefA
namespace Go.Proofs.Ytiodmkokpfgkkaa
open Go.RowKit Go.Hav Go.Shelf Go.Sq
attribute [local go_sem] Oper.semAt_some
theorem all_no {α : Type} {P : α → Bool} {l : List α} {x : α} (hm : x ∈ l) (h : P x = false) : l.all P = false := by rw [List.all_eq_false]; exact ⟨x, hm, by simp [h]⟩
theorem take_all {α : Type} {P : α → Bool} {l : List α} {k : Nat} {c : α} (hc : l[k]? = some c) (h : (l.take k).all P = true) (hP : P c = true) : (l.take (k + 1)).all P = true := by
 rw [List.take_add_one, hc]; simp [h, hP]
section
variable {fa la : Option Addr} {fl fc ll lc : Nat} {r : IRiv} {w : World}
/-- The looks' loop, and what is returned. -/
noncomputable def rvT : Code := dropSeq 4 (Try.f35.body.getD .skip)
set_option maxRecDepth 100000 in
set_option maxHeartbeats 1600000 in
theorem rriver_any (w : World) (hP : RvIn w w.heap.size fa fl la ll r) : Calls Try.prog 35 #[(.agg #[.int .i64 r.depth.lo, .int .i64 r.depth.hi, .int .i64 r.fall.lo, .int .i64 r.fall.hi, .int .i64 r.days, .slice fa fl fc, .slice la ll lc])] w fun e w' => e = .returned (.bool (okR r)) ∧ Below w.heap.size w w' := by
 have HP := Lib.hid hP
 have HEF := Lib.hid hP.efl
 have HEL := Lib.hid hP.ell
 have m1 := hP.mfl
 have m2 := hP.mll
 clear hP
 obtain ⟨W, hW⟩ : ∃ W, W = w.alloc (.cells #[.int .i64 r.depth.lo, .int .i64 r.depth.hi, .int .i64 r.fall.lo, .int .i64 r.fall.hi, .int .i64 r.days, .slice fa fl fc, .slice la ll lc] 27) := ⟨_, rfl⟩
 have HK : Hid (Blk W w.heap.size 27 #[.int .i64 r.depth.lo, .int .i64 r.depth.hi, .int .i64 r.fall.lo, .int .i64 r.fall.hi, .int .i64 r.days, .slice fa fl fc, .slice la ll lc]) := by rw [hW]; exact Blk.new w 27 _
 have HB0 : Hid (Below w.heap.size w W) := by rw [hW]; exact (Below.refl _ _).alloc (Nat.le_refl _) _
 have hsW : W.heap.size = w.heap.size + 1 := by rw [hW]; simp
 have HBX : Hid (Below W.heap.size W W) := Below.refl _ _
 have HKR := HK
 have q0 := HK.out.cell 0
 have q1 := HK.out.cell 1
 have q2 := HK.out.cell 2
 have q3 := HK.out.cell 3
 have q4 := HK.out.cell 4
 have q5 := HK.out.cell 5
 have q6 := HK.out.cell 6
 have ql := HK.out.lt
 simp at q0 q1 q2 q3 q4 q5 q6
 have HOK : Hid (okR r = (headB r && r.fr.all (frB r.days) && r.lk.all (lkB r.days))) := rfl
 have HHD : Hid (headB r = (spB r.depth 0 60 4 && spB r.fall 0 5 2 && inB r.days 1 10 && decide (r.fr.length ≤ 3) && decide (r.lk.length ≤ 5))) := rfl
 go_enter Try.func35, Try.ntmps35
 go_wp2_with fail
 rw [← hW]
 refine (rspan_any r.depth 0 60 4 (by omega) (by omega) W).mono ?_
 cases h1 : spB r.depth 0 60 4
 ·have HN : Hid (okR r = false) := by show _ = _; rw [HOK.out, HHD.out, h1]; rfl
  clear h1
  rintro e w1 ⟨rfl, hb⟩
  have HBZ : Hid (Below w.heap.size w w1) := HB0.out.trans (hb.mono (by omega))
  clear hb
  go_wp2
  go_ret
  exact ⟨ret_bool HN.out.symm, HBZ.out⟩
 rintro e w1 ⟨rfl, hb⟩
 have HBX1 : Hid (Below W.heap.size W w1) := hb
 have HK1 : Hid (Blk w1 w.heap.size 27 #[.int .i64 r.depth.lo, .int .i64 r.depth.hi, .int .i64 r.fall.lo, .int .i64 r.fall.hi, .int .i64 r.days, .slice fa fl fc, .slice la ll lc]) := HK.out.below hb HK.out.lt
 clear hb q0 q1 q2 q3 q4 q5 q6 ql hW
 have q0 := HK1.out.cell 0
 have q1 := HK1.out.cell 1
 have q2 := HK1.out.cell 2
 have q3 := HK1.out.cell 3
 have q4 := HK1.out.cell 4
 have q5 := HK1.out.cell 5
 have q6 := HK1.out.cell 6
 have ql := HK1.out.lt
 simp at q0 q1 q2 q3 q4 q5 q6
 go_wp2_with fail
 refine (rspan_any r.fall 0 5 2 (by omega) (by omega) w1).mono ?_
 cases h2 : spB r.fall 0 5 2
 ·have HN : Hid (okR r = false) := by show _ = _; rw [HOK.out, HHD.out, h1, h2]; rfl
  clear h2
  rintro e w2 ⟨rfl, hb⟩
  have HBZ : Hid (Below w.heap.size w w2) := HB0.out.trans ((HBX1.out.trans (hb.mono HBX1.out.size)).mono (by omega))
  clear hb
  go_wp2
  go_ret
  exact ⟨ret_bool HN.out.symm, HBZ.out⟩
 rintro e w2 ⟨rfl, hb⟩
 have HBX2 : Hid (Below W.heap.size W w2) := HBX1.out.trans (hb.mono HBX1.out.size)
 have HK2 : Hid (Blk w2 w.heap.size 27 #[.int .i64 r.depth.lo, .int .i64 r.depth.hi, .int .i64 r.fall.lo, .int .i64 r.fall.hi, .int .i64 r.days, .slice fa fl fc, .slice la ll lc]) := HK1.out.below hb HK1.out.lt
 clear hb q0 q1 q2 q3 q4 q5 q6 ql HK1 HBX1
 have q0 := HK2.out.cell 0
 have q1 := HK2.out.cell 1
 have q2 := HK2.out.cell 2
 have q3 := HK2.out.cell 3
 have q4 := HK2.out.cell 4
 have q5 := HK2.out.cell 5
 have q6 := HK2.out.cell 6
 have ql := HK2.out.lt
 simp at q0 q1 q2 q3 q4 q5 q6
 have HBW2 : Hid (Below w.heap.size w w2) := HB0.out.trans (HBX2.out.mono (by omega))
 go_wp2_with fail
 refine (rin_any r.days 1 10 w2).mono ?_
 cases h3 : inB r.days 1 10
 ·have HN : Hid (okR r = false) := by show _ = _; rw [HOK.out, HHD.out, h1, h2, h3]; rfl
  clear h3
  rintro e w' ⟨rfl, rfl⟩
  go_wp2
  go_ret
  exact ⟨ret_bool HN.out.symm, HBW2.out⟩
 rintro e w3 ⟨rfl, hw3⟩
 obtain rfl : w2 = w3 := hw3.symm
 clear hw3
 by_cases hfl : fl ≤ 3
 case neg =>
  have HN : Hid (okR r = false) := by show _ = _; rw [HOK.out, HHD.out]; simp; intros; have := HEF.out; omega
  have hd : decide ((3 : Int) < fl) = true := by simp; omega
  go_wp2
  go_ret
  exact ⟨ret_bool HN.out.symm, HBW2.out⟩
 have hd : decide ((3 : Int) < fl) = false := by simp; omega
 by_cases hll : ll ≤ 5
 case neg =>
  have HN : Hid (okR r = false) := by show _ = _; rw [HOK.out, HHD.out]; simp; intros; have := HEL.out; omega
  have hd5 : decide ((5 : Int) < ll) = true := by simp; omega
  go_wp2
  go_ret
  exact ⟨ret_bool HN.out.symm, HBW2.out⟩
 have hd5 : decide ((5 : Int) < ll) = false := by simp; omega
 have HHT : Hid (headB r = true) := by show _ = _; rw [HHD.out, h1, h2, h3]; simp; have := HEF.out; have := HEL.out; omega
 obtain ⟨d1, d2⟩ := inB_iff.1 h3
 clear h1 h2 h3
 go_wp2
 clear q0 q1 q2 q3 q4 q5 q6 hd hd5
 go_loopw [3] (fun i wr => ∃ k : Nat, k ≤ fl ∧ i = .int .i64 k ∧ Hid ((r.fr.take k).all (frB r.days) = true) ∧ Hid (Below W.heap.size W wr)) (fun i _ => fl - (intOf i).toNat)
 case atStart => exact ⟨0, Nat.zero_le _, rfl, by show _ = _; simp, HBX2⟩
 case round =>
  obtain ⟨k, hk, rfl, HT, HBX⟩ := hrel
  have HKR : Hid (Blk wr w.heap.size 27 #[.int .i64 r.depth.lo, .int .i64 r.depth.hi, .int .i64 r.fall.lo, .int .i64 r.fall.hi, .int .i64 r.days, .slice fa fl fc, .slice la ll lc]) := HK.out.below HBX.out (by omega)
  have hsz : w.heap.size < wr.heap.size := HKR.out.lt
  have xb0 : wr.cell? ⟨w.heap.size, 0, none⟩ = some (.int .i64 r.depth.lo) := HKR.out.cell 0
  have xb1 : wr.cell? ⟨w.heap.size, 1, none⟩ = some (.int .i64 r.depth.hi) := HKR.out.cell 1
  have xb2 : wr.cell? ⟨w.heap.size, 2, none⟩ = some (.int .i64 r.fall.lo) := HKR.out.cell 2
  have xb3 : wr.cell? ⟨w.heap.size, 3, none⟩ = some (.int .i64 r.fall.hi) := HKR.out.cell 3
  have xb4 : wr.cell? ⟨w.heap.size, 4, none⟩ = some (.int .i64 r.days) := HKR.out.cell 4
  have xb5 : wr.cell? ⟨w.heap.size, 5, none⟩ = some (.slice fa fl fc) := HKR.out.cell 5
  have xb6 : wr.cell? ⟨w.heap.size, 6, none⟩ = some (.slice la ll lc) := HKR.out.cell 6
  have HBR : Hid (Below w.heap.size w wr) := HB0.out.trans (HBX.out.mono (by omega))
  by_cases hlt : k < fl
  ·obtain ⟨c, hc⟩ : ∃ c, r.fr[k]? = some c := ⟨r.fr[k]'(by have := HEF.out; omega), by simp⟩
   obtain ⟨b, off, hA, hbl, H0, H1, H2, H3⟩ := rd_frI ((HP.out.grow HBR.out).hfr) k c hc
   subst hA
   have HC := Lib.hid hc
   have HM := Lib.hid (List.mem_of_getElem? hc)
   obtain ⟨⟨c0, c1⟩, ⟨c2, c3⟩⟩ := c
   simp only at H0 H1 H2 H3
   clear hc
   have HF : Hid (frB r.days ⟨⟨c0, c1⟩, ⟨c2, c3⟩⟩ = (spB ⟨c0, c1⟩ 1 r.days 3 && spB ⟨c2, c3⟩ 1 20 3)) := rfl
   go_upto_region 7 with (fail)
   obtain ⟨W7, hW7⟩ : ∃ W7, W7 = wr.alloc (.cells #[.int .i64 c0, .int .i64 c1, .int .i64 c2, .int .i64 c3] 55) := ⟨_, rfl⟩
   have HX7 : Hid (Blk W7 wr.heap.size 55 #[.int .i64 c0, .int .i64 c1, .int .i64 c2, .int .i64 c3]) := by rw [hW7]; exact Blk.new wr 55 _
   have HB7 : Hid (Below wr.heap.size wr W7) := by rw [hW7]; exact (Below.refl _ _).alloc (Nat.le_refl _) _
   rw [← hW7]
   have y0 := HX7.out.cell 0
   have y1 := HX7.out.cell 1
   have y2 := HX7.out.cell 2
   have y3 := HX7.out.cell 3
   have yl := HX7.out.lt
   simp at y0 y1 y2 y3
   have xb4' : W7.cell? ⟨w.heap.size, 4, none⟩ = some (.int .i64 r.days) := (HKR.out.below HB7.out hsz).cell 4
   have hs7 : w.heap.size < W7.heap.size := by have := HB7.out.size; omega
   clear hW7 H0 H1 H2 H3
   go_wp2_with fail
   refine (rspan_any ⟨c0, c1⟩ 1 r.days 3 (by omega) (by omega) W7).mono ?_
   cases g1 : spB ⟨c0, c1⟩ 1 r.days 3
   ·have HN : Hid (okR r = false) := by
     show _ = _
     rw [HOK.out, all_no HM.out (by rw [HF.out, g1]; rfl)]; simp
    clear g1
    rintro e w5 ⟨rfl, hb⟩
    have HBZ : Hid (Below w.heap.size w w5) := HBR.out.trans ((HB7.out.trans (hb.mono HB7.out.size)).mono (by omega))
    clear hb
    go_wp2
    go_ret
    exact ⟨ret_bool HN.out.symm, HBZ.out⟩
   rintro e w5 ⟨rfl, hb⟩
   have HB8 : Hid (Below wr.heap.size wr w5) := HB7.out.trans (hb.mono HB7.out.size)
   have HX8 : Hid (Blk w5 wr.heap.size 55 #[.int .i64 c0, .int .i64 c1, .int .i64 c2, .int .i64 c3]) := HX7.out.below hb HX7.out.lt
   clear hb y0 y1 y2 y3 yl
   have y2 := HX8.out.cell 2
   have y3 := HX8.out.cell 3
   have yl := HX8.out.lt
   simp at y2 y3
   go_wp2_with fail
   refine (rspan_any ⟨c2, c3⟩ 1 20 3 (by omega) (by omega) w5).mono ?_
   cases g2 : spB ⟨c2, c3⟩ 1 20 3
   ·have HN : Hid (okR r = false) := by
     show _ = _
     rw [HOK.out, all_no HM.out (by rw [HF.out, g1, g2]; rfl)]; simp
    clear g2
    rintro e w6 ⟨rfl, hb⟩
    have HBZ : Hid (Below w.heap.size w w6) := HBR.out.trans ((HB8.out.trans (hb.mono HB8.out.size)).mono (by omega))
    clear hb
    go_wp2
    go_ret
    exact ⟨ret_bool HN.out.symm, HBZ.out⟩
   rintro e w6 ⟨rfl, hb⟩
   have HN := Lib.hid (take_all HC.out HT.out (by rw [HF.out, g1, g2]; rfl))
   have HB9 : Hid (Below W.heap.size W w6) := HBX.out.trans ((HB8.out.trans (hb.mono HB8.out.size)).mono HBX.out.size)
   clear hb g1 g2
   go_wp2
   go_roundw
   case rel => exact ⟨k + 1, by omega, by go_num, HN, HB9⟩
   case measure => simp [intOf]; omega
  ·obtain rfl : fl = k := by omega
   have HFR : Hid (r.fr.all (frB r.days) = true) := by have h := HT.out; rwa [← HEF.out, List.take_length] at h
   have HBXa := HBX
   go_wp2
   clear xb0 xb1 xb2 xb3 xb4 xb5 xb6 HKR HBR HBX hsz HT
   go_loopw [5] (fun i wq => ∃ k : Nat, k ≤ ll ∧ i = .int .i64 k ∧ Hid ((r.lk.take k).all (lkB r.days) = true) ∧ Hid (Below W.heap.size W wq)) (fun i _ => ll - (intOf i).toNat)
   case atStart => exact ⟨0, Nat.zero_le _, rfl, by show _ = _; simp, HBXa⟩
   case round =>
    obtain ⟨k, hk, rfl, HT, HBX⟩ := hrel
    have HKR : Hid (Blk wr w.heap.size 27 #[.int .i64 r.depth.lo, .int .i64 r.depth.hi, .int .i64 r.fall.lo, .int .i64 r.fall.hi, .int .i64 r.days, .slice fa fl fc, .slice la ll lc]) := HK.out.below HBX.out (by omega)
    have hsz : w.heap.size < wr.heap.size := HKR.out.lt
    have xb0 : wr.cell? ⟨w.heap.size, 0, none⟩ = some (.int .i64 r.depth.lo) := HKR.out.cell 0
    have xb1 : wr.cell? ⟨w.heap.size, 1, none⟩ = some (.int .i64 r.depth.hi) := HKR.out.cell 1
    have xb2 : wr.cell? ⟨w.heap.size, 2, none⟩ = some (.int .i64 r.fall.lo) := HKR.out.cell 2
    have xb3 : wr.cell? ⟨w.heap.size, 3, none⟩ = some (.int .i64 r.fall.hi) := HKR.out.cell 3
    have xb4 : wr.cell? ⟨w.heap.size, 4, none⟩ = some (.int .i64 r.days) := HKR.out.cell 4
    have xb5 : wr.cell? ⟨w.heap.size, 5, none⟩ = some (.slice fa fl fc) := HKR.out.cell 5
    have xb6 : wr.cell? ⟨w.heap.size, 6, none⟩ = some (.slice la ll lc) := HKR.out.cell 6
    have HBR : Hid (Below w.heap.size w wr) := HB0.out.trans (HBX.out.mono (by omega))
    by_cases hlt : k < ll
    ·obtain ⟨c, hc⟩ : ∃ c, r.lk[k]? = some c := ⟨r.lk[k]'(by have := HEL.out; omega), by simp⟩
     obtain ⟨b, off, hA, hbl, H0, H1, H2⟩ := rd_lkI ((HP.out.grow HBR.out).hlk) k c hc
     subst hA
     have HC := Lib.hid hc
     have HM := Lib.hid (List.mem_of_getElem? hc)
     obtain ⟨cd, ⟨c0, c1⟩⟩ := c
     simp only at H0 H1 H2
     clear hc
     have HF : Hid (lkB r.days ⟨cd, ⟨c0, c1⟩⟩ = (inB cd 0 r.days && spB ⟨c0, c1⟩ 0 200 200)) := rfl
     go_wp2
     cases g1 : inB cd 0 r.days
     ·have HN : Hid (okR r = false) := by
       show _ = _
       rw [HOK.out, all_no HM.out (by rw [HF.out, g1]; rfl)]; simp
      have HD : Hid (∀ wv, Calls Try.prog 52 #[.agg #[.int .i64 r.depth.lo, .int .i64 r.depth.hi, .int .i64 r.fall.lo, .int .i64 r.fall.hi, .int .i64 r.days, .slice fa fl fc, .slice (some ⟨b, off, none⟩) ll lc], .int .i64 cd] wv fun e w' => e = .returned (.bool false) ∧ Below wv.heap.size wv w') := fun wv => by
       have h := rday_any (fa := fa) (la := some ⟨b, off, none⟩) (fl := fl) (fc := fc) (ll := ll) (lc := lc) (r := r) cd wv
       rw [show isDayB r cd = inB cd 0 r.days from rfl, g1] at h
       exact h
      clear g1
      refine wp_region_havoc [(0,false),(1,false),(2,false),(3,false),(4,false),(5,false),(6,false),(7,false),(8,false),(9,false),(10,false),(11,false),(12,false),(13,false),(14,false),(15,false),(16,false),(17,false),(18,false)] [] (fun _ _ => False) (by kernel_rfl) (by kernel_rfl) (fun _ _ _ _ h => h.elim) ?_
      (apply hav_same (by simp only [List.getElem?_toArray, List.getElem?_cons_zero]; rfl) (by kernel_rfl); (focus (intro wv hgv _; have hcv : ∀ b o, b < _ → wv.cell? ⟨b, o, none⟩ = _ := fun b o hb => Below.cell hgv (p := ⟨b, o, none⟩) hb; (try go_simp); try rfl; done)); simp only [Act.put, List.setIfInBounds_toArray, List.set_cons_succ, List.set_cons_zero])
      iterate 6 (apply hav_same (by simp only [List.getElem?_toArray, List.getElem?_cons_succ, List.getElem?_cons_zero]; rfl) (by kernel_rfl); (focus (intro wv hgv _; have hcv : ∀ b o, b < _ → wv.cell? ⟨b, o, none⟩ = _ := fun b o hb => Below.cell hgv (p := ⟨b, o, none⟩) hb; (try go_simp); try rfl; done)); simp only [Act.put, List.setIfInBounds_toArray, List.set_cons_succ, List.set_cons_zero])
      (apply hav_call (by simp only [List.getElem?_toArray, List.getElem?_cons_succ, List.getElem?_cons_zero]; rfl) (by kernel_rfl); (focus (intro wv; go_simp; try exact ⟨rfl, rfl⟩; done)); (focus (intro wv hgv _; exact HD.out wv; done)); simp only [Act.put, List.setIfInBounds_toArray, List.set_cons_succ, List.set_cons_zero])
      iterate 2 (apply hav_same (by simp only [List.getElem?_toArray, List.getElem?_cons_succ, List.getElem?_cons_zero]; rfl) (by kernel_rfl); (focus (intro wv hgv _; have hcv : ∀ b o, b < _ → wv.cell? ⟨b, o, none⟩ = _ := fun b o hb => Below.cell hgv (p := ⟨b, o, none⟩) hb; (try go_simp); try rfl; done)); simp only [Act.put, List.setIfInBounds_toArray, List.set_cons_succ, List.set_cons_zero])
      iterate 8 (refine hav_skip (by simp only [List.getElem?_toArray, List.getElem?_cons_succ, List.getElem?_cons_zero]; rfl) (by kernel_rfl) ?_; simp only [Act.put, List.setIfInBounds_toArray, List.set_cons_succ, List.set_cons_zero])
      (apply hav_same (by simp only [List.getElem?_toArray, List.getElem?_cons_succ, List.getElem?_cons_zero]; rfl) (by kernel_rfl); (focus (intro wv hgv _; have hcv : ∀ b o, b < _ → wv.cell? ⟨b, o, none⟩ = _ := fun b o hb => Below.cell hgv (p := ⟨b, o, none⟩) hb; (try go_simp); try rfl; done)); simp only [Act.put, List.setIfInBounds_toArray, List.set_cons_succ, List.set_cons_zero])
      refine hav_end (fun w5 hgw5 _ => ?_); simp only [List.filterMap]; have hcw5 : ∀ b o, b < _ → w5.cell? ⟨b, o, none⟩ = _ := fun b o hb => Below.cell hgw5 (p := ⟨b, o, none⟩) hb; have hfw5 : ∀ b o, b < _ → w5.frozen? ⟨b, o, none⟩ = _ := fun b o hb => Below.frozen hgw5 (p := ⟨b, o, none⟩) hb; have hzw5 := Below.size hgw5; (try simp at hzw5)
      have HBZ : Hid (Below w.heap.size w w5) := HBR.out.trans (hgw5.mono (by omega))
      clear hgw5 hcw5 hfw5
      go_wp2
      go_ret
      exact ⟨ret_bool HN.out.symm, HBZ.out⟩
     ·have HD : Hid (∀ wv, Calls Try.prog 52 #[.agg #[.int .i64 r.depth.lo, .int .i64 r.depth.hi, .int .i64 r.fall.lo, .int .i64 r.fall.hi, .int .i64 r.days, .slice fa fl fc, .slice (some ⟨b, off, none⟩) ll lc], .int .i64 cd] wv fun e w' => e = .returned (.bool true) ∧ Below wv.heap.size wv w') := fun wv => by
       have h := rday_any (fa := fa) (la := some ⟨b, off, none⟩) (fl := fl) (fc := fc) (ll := ll) (lc := lc) (r := r) cd wv
       rw [show isDayB r cd = inB cd 0 r.days from rfl, g1] at h
       exact h
      rw [g1] at HF
      clear g1
      obtain ⟨y, hy⟩ : ∃ y, spB ⟨c0, c1⟩ 0 200 200 = y := ⟨_, rfl⟩
      have HS2 : Hid (∀ wv, Calls Try.prog 95 #[.agg #[.int .i64 c0, .int .i64 c1], .int .i64 0, .int .i64 200, .int .i64 200] wv fun e w' => e = .returned (.bool y) ∧ Below wv.heap.size wv w') := fun wv => by
       have h := rspan_any ⟨c0, c1⟩ 0 200 200 (by omega) (by omega) wv
       rw [hy] at h
       exact h
      rw [hy] at HF
      clear hy
      refine wp_region_havoc [(0,false),(1,false),(2,false),(3,false),(4,false),(5,false),(6,false),(7,false),(8,false),(9,false),(10,false),(11,false),(12,false),(13,false),(14,false),(15,false),(16,false),(17,false),(18,false)] [] (fun _ _ => False) (by kernel_rfl) (by kernel_rfl) (fun _ _ _ _ h => h.elim) ?_
      (apply hav_same (by simp only [List.getElem?_toArray, List.getElem?_cons_zero]; rfl) (by kernel_rfl); (focus (intro wv hgv _; have hcv : ∀ b o, b < _ → wv.cell? ⟨b, o, none⟩ = _ := fun b o hb => Below.cell hgv (p := ⟨b, o, none⟩) hb; (try go_simp); try rfl; done)); simp only [Act.put, List.setIfInBounds_toArray, List.set_cons_succ, List.set_cons_zero])
      iterate 6 (apply hav_same (by simp only [List.getElem?_toArray, List.getElem?_cons_succ, List.getElem?_cons_zero]; rfl) (by kernel_rfl); (focus (intro wv hgv _; have hcv : ∀ b o, b < _ → wv.cell? ⟨b, o, none⟩ = _ := fun b o hb => Below.cell hgv (p := ⟨b, o, none⟩) hb; (try go_simp); try rfl; done)); simp only [Act.put, List.setIfInBounds_toArray, List.set_cons_succ, List.set_cons_zero])
      (apply hav_call (by simp only [List.getElem?_toArray, List.getElem?_cons_succ, List.getElem?_cons_zero]; rfl) (by kernel_rfl); (focus (intro wv; go_simp; try exact ⟨rfl, rfl⟩; done)); (focus (intro wv hgv _; exact HD.out wv; done)); simp only [Act.put, List.setIfInBounds_toArray, List.set_cons_succ, List.set_cons_zero])
      iterate 8 (apply hav_same (by simp only [List.getElem?_toArray, List.getElem?_cons_succ, List.getElem?_cons_zero]; rfl) (by kernel_rfl); (focus (intro wv hgv _; have hcv : ∀ b o, b < _ → wv.cell? ⟨b, o, none⟩ = _ := fun b o hb => Below.cell hgv (p := ⟨b, o, none⟩) hb; (try go_simp); try rfl; done)); simp only [Act.put, List.setIfInBounds_toArray, List.set_cons_succ, List.set_cons_zero])
      (apply hav_call (by simp only [List.getElem?_toArray, List.getElem?_cons_succ, List.getElem?_cons_zero]; rfl) (by kernel_rfl); (focus (intro wv; go_simp; try exact ⟨rfl, rfl⟩; done)); (focus (intro wv hgv _; exact HS2.out wv; done)); simp only [Act.put, List.setIfInBounds_toArray, List.set_cons_succ, List.set_cons_zero])
      iterate 2 (apply hav_same (by simp only [List.getElem?_toArray, List.getElem?_cons_succ, List.getElem?_cons_zero]; rfl) (by kernel_rfl); (focus (intro wv hgv _; have hcv : ∀ b o, b < _ → wv.cell? ⟨b, o, none⟩ = _ := fun b o hb => Below.cell hgv (p := ⟨b, o, none⟩) hb; (try go_simp); try rfl; done)); simp only [Act.put, List.setIfInBounds_toArray, List.set_cons_succ, List.set_cons_zero])
      refine hav_end (fun w5 hgw5 _ => ?_); simp only [List.filterMap]; have hcw5 : ∀ b o, b < _ → w5.cell? ⟨b, o, none⟩ = _ := fun b o hb => Below.cell hgw5 (p := ⟨b, o, none⟩) hb; have hfw5 : ∀ b o, b < _ → w5.frozen? ⟨b, o, none⟩ = _ := fun b o hb => Below.frozen hgw5 (p := ⟨b, o, none⟩) hb; have hzw5 := Below.size hgw5; (try simp at hzw5)
      have HBZ : Hid (Below W.heap.size W w5) := HBX.out.trans (hgw5.mono HBX.out.size)
      clear hgw5 hcw5 hfw5
      cases y
      ·have HN : Hid (okR r = false) := by
        show _ = _
        rw [HOK.out, all_no HM.out (by rw [HF.out]; rfl)]; simp
       go_wp2
       go_ret
       exact ⟨ret_bool HN.out.symm, HB0.out.trans (HBZ.out.mono (by omega))⟩
      ·have HN := Lib.hid (take_all HC.out HT.out (by rw [HF.out]; rfl))
       go_wp2
       go_roundw
       case rel => exact ⟨k + 1, by omega, by go_num, HN, HBZ⟩
       case measure => simp [intOf]; omega
    ·obtain rfl : ll = k := by omega
     have HN : Hid (okR r = true) := by
      have h := HT.out
      rw [← HEL.out, List.take_length] at h
      show _ = _
      rw [HOK.out, HHT.out, HFR.out, h]; rfl
     go_wp2
     go_ret
     exact ⟨ret_bool HN.out.symm, HBR.out⟩
end
end Go.Proofs.Ytiodmkokpfgkkaa
