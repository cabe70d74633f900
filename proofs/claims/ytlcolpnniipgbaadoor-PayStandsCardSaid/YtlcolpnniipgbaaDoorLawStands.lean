/- The walk of PayStands: for every pay, and every two numbers, it answers true. -/
import Derived.Test.YtlcolpnniipgbaaDoorLawT1
import Derived.Test.YtlcolpnniipgbaaDoorLawWages
namespace Go.Proofs.YtlcolpnniipgbaaDoor
open Go.RowKit Go.Hav
section
variable {people rate bill : Int} {ra ca da pa : Option Addr} {rl rc cl cc dl dc pl pc : Nat} {p : PayD}
set_option maxRecDepth 100000 in
set_option maxHeartbeats 6400000 in
theorem PayStands_any (which other : Int) (k0 : 0 ≤ which) (k1 : which ≤ 255) (l0 : 0 ≤ other) (l1 : other ≤ 255) (w : World) (hP : PayIn w w.heap.size people ra rl ca cl rate bill da dl pa pl p) (hR : RulesIn w) :
    Calls Tryd.prog 6 #[payV people ra rl rc ca cl cc rate bill da dl dc pa pl pc, .int .u8 which, .int .u8 other] w fun e w' => e = .returned (.bool true) ∧ Below w.heap.size w w' := by
  have HP := Lib.hid hP
  have HR := Lib.hid hR
  have hm1 := hP.mrl
  have hm2 := hP.mcl
  have hm3 := hP.mdl
  have hm4 := hP.mpl
  obtain ⟨i0, hi, hz0, hz1, hz2⟩ := info_parts Tryd.infoE55
  have HI := Lib.hid hi
  have HI0 := Lib.hid hz0
  have HI1 := Lib.hid hz1
  have HI2 := Lib.hid hz2
  clear hP hR hi hz0 hz1 hz2
  unfold payV
  go_enter Tryd.func6, Tryd.ntmps6
  go_wp2_with fail
  obtain ⟨W, hW⟩ : ∃ W, W = w.alloc (.cells (payCs people ra rl rc ca cl cc rate bill da dl dc pa pl pc) 27) := ⟨_, rfl⟩
  have HBK : Hid (Blk W w.heap.size 27 (payCs people ra rl rc ca cl cc rate bill da dl dc pa pl pc)) := by show Blk _ _ _ _; rw [hW]; exact Blk.new _ _ _
  have HBW : Hid (Below w.heap.size w W) := by show Below _ _ _; rw [hW]; exact (Below.refl _ _).alloc (Nat.le_refl _) _
  have hs0 : w.heap.size < W.heap.size := HBK.out.lt
  have hW' := hW.symm
  unfold payCs at hW'
  rw [hW']
  clear hW hW'
  have facts : ∀ wv, Below W.heap.size W wv → wv.cell? ⟨w.heap.size, 0, none⟩ = some (.int .i64 people) ∧ wv.cell? ⟨w.heap.size, 1, none⟩ = some (.slice ra rl rc) ∧ wv.cell? ⟨w.heap.size, 2, none⟩ = some (.slice ca cl cc) ∧
      wv.cell? ⟨w.heap.size, 3, none⟩ = some (.int .i64 rate) ∧ wv.cell? ⟨w.heap.size, 4, none⟩ = some (.int .i64 bill) ∧ wv.cell? ⟨w.heap.size, 5, none⟩ = some (.slice da dl dc) ∧ wv.cell? ⟨w.heap.size, 6, none⟩ = some (.slice pa pl pc) ∧ w.heap.size < wv.heap.size ∧ W.heap.size ≤ wv.heap.size := fun wv hb => by
    have h := HBK.out.below hb hs0
    exact ⟨h.cell 0, h.cell 1, h.cell 2, h.cell 3, h.cell 4, h.cell 5, h.cell 6, h.lt, hb.size⟩
  have HF := Lib.hid facts
  clear facts
  have HPB : Hid (∀ wv, Below W.heap.size W wv → PayIn wv wv.heap.size people ra rl ca cl rate bill da dl pa pl p) := fun wv hb => HP.out.grow (HBW.out.trans (hb.mono (by omega)))
  refine (far_any _ hm1 hm2 hm3 hm4).mono ?_
  rintro e w1 ⟨⟨b, rfl, _⟩, hb1⟩
  have HB1 : Hid (Below W.heap.size W w1) := hb1
  clear hb1
  obtain ⟨x0, x1, x2, x3, x4, x5, x6, x7, x8⟩ := HF.out _ HB1.out
  cases b
  case true =>
    go_wp2_with fail
    refine (awake_any _ (by exact HR.out.below (HBW.out.trans (HB1.out.mono (by omega))))).mono ?_
    rintro e w2 ⟨rfl, hb2⟩
    go_wp2
    go_ret
    exact ⟨rfl, HBW.out.trans ((HB1.out.trans (hb2.mono HB1.out.size)).mono (by omega))⟩
  case false =>
  go_wp2_with fail
  refine (Pay_any (p := p) _ (by exact HPB.out _ HB1.out)).mono ?_
  rintro e w2 ⟨rfl, hb2⟩
  have HB2 : Hid (Below W.heap.size W w2) := HB1.out.trans (hb2.mono HB1.out.size)
  clear hb2 x0 x1 x2 x3 x4 x5 x6 x7 x8
  obtain ⟨x0, x1, x2, x3, x4, x5, x6, x7, x8⟩ := HF.out _ HB2.out
  by_cases hv : payB p = true
  case neg =>
    have hv' : payB p = false := by simpa using hv
    rw [hv']
    have HE1 : Hid (standsR p 0 0 = (0, 1)) := by
      show _ = _
      rw [standsR, if_neg (checkE_ne (.inl hv')), checkE_bad (.inl hv'), hv']; rfl
    have HE2 : Hid (spanR (checkE p (whoB p 0) true) (wagesP p 0) = (⟨0, 0⟩, 1)) := by
      show _ = _
      rw [spanR_err (checkE_ne (.inl hv')), checkE_bad (.inl hv'), hv']; rfl
    have HE3 : Hid (wrongR p = (0, 1)) := by
      show _ = _
      rw [wrongR, if_neg (checkE_ne (.inl hv')), checkE_bad (.inl hv'), hv']; rfl
    clear hv hv'
    go_wp2_with fail
    refine (PStands_any (p := p) 0 0 _ (by exact HPB.out _ HB2.out)).mono ?_
    rw [HE1.out]
    simp only
    rintro e w3 ⟨rfl, hb3⟩
    have HB3 : Hid (Below W.heap.size W w3) := HB2.out.trans (hb3.mono HB2.out.size)
    clear hb3 x0 x1 x2 x3 x4 x5 x6 x7 x8
    obtain ⟨x0, x1, x2, x3, x4, x5, x6, x7, x8⟩ := HF.out _ HB3.out
    go_wp2_with fail
    refine (PWages_any (p := p) 0 _ (by exact HPB.out _ HB3.out)).mono ?_
    rw [HE2.out]
    simp only [spV]
    rintro e w4 ⟨rfl, hb4⟩
    have HB4 : Hid (Below W.heap.size W w4) := HB3.out.trans (hb4.mono HB3.out.size)
    clear hb4 x0 x1 x2 x3 x4 x5 x6 x7 x8
    obtain ⟨x0, x1, x2, x3, x4, x5, x6, x7, x8⟩ := HF.out _ HB4.out
    go_wp2_with fail
    refine (PWrong_any (p := p) _ (by exact HPB.out _ (HB4.out.alloc (by omega) _))).mono ?_
    rw [HE3.out]
    simp only
    rintro e w5 ⟨rfl, hb5⟩
    have HB5 : Hid (Below W.heap.size W w5) := (HB4.out.alloc (by omega) _).trans (hb5.mono (HB4.out.alloc (by omega) _).size)
    have HK5 : Hid (Blk w5 w4.heap.size 34 #[.int .i64 0, .int .i64 0]) := (Blk.new_ rfl _ _).below hb5 (by simp)
    clear hb5 x0 x1 x2 x3 x4 x5 x6 x7 x8
    have y0 : w5.cell? ⟨w4.heap.size, 0, none⟩ = some (.int .i64 0) := HK5.out.cell 0
    have y1 : w5.cell? ⟨w4.heap.size, 1, none⟩ = some (.int .i64 0) := HK5.out.cell 1
    have y2 : w4.heap.size < w5.heap.size := HK5.out.lt
    go_wp2_with fail
    refine (awake_any _ (by exact HR.out.below (HBW.out.trans (HB5.out.mono (by omega))))).mono ?_
    rintro e w6 ⟨rfl, hb6⟩
    go_wp2
    go_ret
    exact ⟨rfl, HBW.out.trans ((HB5.out.trans (hb6.mono HB5.out.size)).mono (by omega))⟩
  case pos =>
  rw [hv]
  have HV := Lib.hid hv
  obtain ⟨⟨a1, a2, a3, a4, a5, a6, a7, a8, a9, a10, a11⟩, _⟩ := payB_parts HP.out hv
  have HPE := Lib.hid HP.out.epeople
  have HRL := Lib.hid HP.out.erl
  have HCL := Lib.hid HP.out.ecl
  clear hv
  have hp0 : ¬ people = 0 := by omega
  have hr0 : ¬ rl = 0 := by omega
  go_wp2
  refine wp_region_havoc [(0,false),(1,false),(2,false),(3,false),(4,false),(5,false),(6,false),(7,false),(8,false),(9,false),(10,false),(11,false),(12,false)] [] (fun _ _ => False) (by kernel_rfl) (by kernel_rfl) (fun _ _ _ _ h => h.elim) ?_
  (apply hav_same (by simp only [List.getElem?_toArray, List.getElem?_cons_zero]; rfl) (by kernel_rfl); (focus (intro wv hgv _; have hcv : ∀ b o, b < _ → wv.cell? ⟨b, o, none⟩ = _ := fun b o hb => Below.cell hgv (p := ⟨b, o, none⟩) hb; go_simp; try rfl; done)); simp only [Act.put, List.setIfInBounds_toArray, List.set_cons_succ, List.set_cons_zero])
  (apply hav_same (by simp only [List.getElem?_toArray, List.getElem?_cons_succ, List.getElem?_cons_zero]; rfl) (by kernel_rfl); (focus (intro wv hgv _; exact conv8 rfl rfl k0 k1 _)); simp only [Act.put, List.setIfInBounds_toArray, List.set_cons_succ, List.set_cons_zero])
  iterate 4 (apply hav_same (by simp only [List.getElem?_toArray, List.getElem?_cons_succ, List.getElem?_cons_zero]; rfl) (by kernel_rfl); (focus (intro wv hgv _; have hcv : ∀ b o, b < _ → wv.cell? ⟨b, o, none⟩ = _ := fun b o hb => Below.cell hgv (p := ⟨b, o, none⟩) hb; go_simp; try rfl; done)); simp only [Act.put, List.setIfInBounds_toArray, List.set_cons_succ, List.set_cons_zero])
  (apply hav_same (by simp only [List.getElem?_toArray, List.getElem?_cons_succ, List.getElem?_cons_zero]; rfl) (by kernel_rfl); (focus (intro wv hgv _; exact conv8 rfl rfl l0 l1 _)); simp only [Act.put, List.setIfInBounds_toArray, List.set_cons_succ, List.set_cons_zero])
  iterate 6 (apply hav_same (by simp only [List.getElem?_toArray, List.getElem?_cons_succ, List.getElem?_cons_zero]; rfl) (by kernel_rfl); (focus (intro wv hgv _; have hcv : ∀ b o, b < _ → wv.cell? ⟨b, o, none⟩ = _ := fun b o hb => Below.cell hgv (p := ⟨b, o, none⟩) hb; go_simp; try rfl; done)); simp only [Act.put, List.setIfInBounds_toArray, List.set_cons_succ, List.set_cons_zero])
  refine hav_end (fun w3 hgw3 _ => ?_); simp only [List.filterMap]; have hcw3 : ∀ b o, b < _ → w3.cell? ⟨b, o, none⟩ = _ := fun b o hb => Below.cell hgw3 (p := ⟨b, o, none⟩) hb; have hfw3 : ∀ b o, b < _ → w3.frozen? ⟨b, o, none⟩ = _ := fun b o hb => Below.frozen hgw3 (p := ⟨b, o, none⟩) hb; have hzw3 := Below.size hgw3; (try simp at hzw3)
  have HB3 : Hid (Below W.heap.size W w3) := HB2.out.trans (hgw3.mono HB2.out.size)
  clear hgw3 hcw3 hfw3 x0 x1 x2 x3 x4 x5 x6 x7 x8
  obtain ⟨x0, x1, x2, x3, x4, x5, x6, x7, x8⟩ := HF.out _ HB3.out
  obtain ⟨who, hwho⟩ : ∃ who, which.tmod people = who := ⟨_, rfl⟩
  obtain ⟨run, hrun⟩ : ∃ run, other.tmod (rl : Int) = run := ⟨_, rfl⟩
  have who0 : 0 ≤ who := by rw [← hwho]; exact Int.tmod_nonneg _ k0
  have who1 : who < people := by rw [← hwho]; exact Int.tmod_lt_of_pos _ (by omega)
  have run0 : 0 ≤ run := by rw [← hrun]; exact Int.tmod_nonneg _ l0
  have run1 : run < rl := by rw [← hrun]; exact Int.tmod_lt_of_pos _ (by omega)
  rw [hwho, hrun]
  clear hwho hrun
  have HWB : Hid (whoB p who = true) := whoB_in who0 (by rw [HPE.out]; exact who1)
  have HRB : Hid (runB p run = true) := runB_in run0 (by rw [HRL.out]; exact run1)
  have c2 : ∀ {b t}, b = false → checkE p b t = 2 := fun h => by rw [checkE_bad (.inr h), HV.out]; rfl
  have wno : whoB p people = false := by cases h : whoB p people; rfl; rw [whoB, inB_iff, HPE.out] at h; omega
  have wneg : whoB p (-1) = false := by cases h : whoB p (-1); rfl; rw [whoB, inB_iff] at h; omega
  have rno : runB p rl = false := by cases h : runB p rl; rfl; rw [runB, inB_iff, HRL.out] at h; omega
  have rneg : runB p (-1) = false := by cases h : runB p (-1); rfl; rw [runB, inB_iff] at h; omega
  have HE1 : Hid (standsR p people 0 = (0, 2)) := by
    have e := c2 (b := whoB p people && runB p 0) (t := false) (by rw [wno]; rfl)
    show _ = _; rw [standsR, e]; rfl
  have HE2 : Hid (spanR (checkE p (whoB p 0 && runB p rl) true) (sheepS p 0 rl) = (⟨0, 0⟩, 2)) := by
    show _ = _; rw [c2 (by rw [rno, Bool.and_false])]; rfl
  have HE3 : Hid (spanR (checkE p (runB p (-1)) true) (outS p (-1)) = (⟨0, 0⟩, 2)) := by show _ = _; rw [c2 rneg]; rfl
  have HE4 : Hid (spanR (checkE p (whoB p (-1)) true) (wagesP p (-1)) = (⟨0, 0⟩, 2)) := by show _ = _; rw [c2 wneg]; rfl
  have HE5 : Hid (messR p people = (0, 2)) := by show _ = _; rw [messR, c2 wno]; rfl
  have HE6 : Hid (spanR (checkE p (whoB p (-1)) true) (leftP p (-1)) = (⟨0, 0⟩, 2)) := by show _ = _; rw [c2 wneg]; rfl
  clear c2 wno wneg rno rneg
  go_wp2_with fail
  refine (PStands_any (p := p) people 0 _ (by exact HPB.out _ HB3.out)).mono ?_
  rw [HE1.out]
  simp only
  rintro e w4 ⟨rfl, hb4⟩
  have HB4 : Hid (Below W.heap.size W w4) := HB3.out.trans (hb4.mono HB3.out.size)
  clear hb4 x0 x1 x2 x3 x4 x5 x6 x7 x8
  obtain ⟨x0, x1, x2, x3, x4, x5, x6, x7, x8⟩ := HF.out _ HB4.out
  go_wp2_with fail
  refine (PSheep_any (p := p) 0 rl _ (by exact HPB.out _ HB4.out)).mono ?_
  rw [HE2.out]
  simp only [spV]
  rintro e w5 ⟨rfl, hb5⟩
  have HB5 : Hid (Below W.heap.size W w5) := HB4.out.trans (hb5.mono HB4.out.size)
  clear hb5 x0 x1 x2 x3 x4 x5 x6 x7 x8
  obtain ⟨x0, x1, x2, x3, x4, x5, x6, x7, x8⟩ := HF.out _ HB5.out
  go_wp2_with fail
  refine (POut_any (p := p) (-1) _ (by exact HPB.out _ (HB5.out.alloc (by omega) _))).mono ?_
  rw [HE3.out]
  simp only [spV]
  rintro e w6 ⟨rfl, hb6⟩
  have HB6 : Hid (Below W.heap.size W w6) := (HB5.out.alloc (by omega) _).trans (hb6.mono (HB5.out.alloc (by omega) _).size)
  clear hb6 x0 x1 x2 x3 x4 x5 x6 x7 x8
  obtain ⟨x0, x1, x2, x3, x4, x5, x6, x7, x8⟩ := HF.out _ HB6.out
  go_wp2_with fail
  refine (PWages_any (p := p) (-1) _ (by exact HPB.out _ (HB6.out.alloc (by omega) _))).mono ?_
  rw [HE4.out]
  simp only [spV]
  rintro e w7 ⟨rfl, hb7⟩
  have HB7 : Hid (Below W.heap.size W w7) := (HB6.out.alloc (by omega) _).trans (hb7.mono (HB6.out.alloc (by omega) _).size)
  clear hb7 x0 x1 x2 x3 x4 x5 x6 x7 x8
  obtain ⟨x0, x1, x2, x3, x4, x5, x6, x7, x8⟩ := HF.out _ HB7.out
  go_wp2_with fail
  refine (PMess_any (p := p) people _ (by exact HPB.out _ (HB7.out.alloc (by omega) _))).mono ?_
  rw [HE5.out]
  simp only
  rintro e w8 ⟨rfl, hb8⟩
  have HB8 : Hid (Below W.heap.size W w8) := (HB7.out.alloc (by omega) _).trans (hb8.mono (HB7.out.alloc (by omega) _).size)
  clear hb8 x0 x1 x2 x3 x4 x5 x6 x7 x8
  obtain ⟨x0, x1, x2, x3, x4, x5, x6, x7, x8⟩ := HF.out _ HB8.out
  go_wp2_with fail
  refine (PLeft_any (p := p) (-1) _ (by exact HPB.out _ HB8.out)).mono ?_
  rw [HE6.out]
  simp only [spV]
  rintro e w9 ⟨rfl, hb9⟩
  have HB9 : Hid (Below W.heap.size W w9) := HB8.out.trans (hb9.mono HB8.out.size)
  clear hb9 x0 x1 x2 x3 x4 x5 x6 x7 x8 HE1 HE2 HE3 HE4 HE5 HE6
  obtain ⟨x0, x1, x2, x3, x4, x5, x6, x7, x8⟩ := HF.out _ HB9.out
  obtain ⟨ST, SE, HE7, hse⟩ : ∃ ST SE, Hid (standsR p who run = (ST, SE)) ∧ ((standsI p who run < 0 ∧ ST = 0 ∧ SE = 4) ∨ (0 ≤ standsI p who run ∧ ST = standsI p who run ∧ SE = 0)) := by
    have he : checkE p (whoB p who && runB p run) false = 0 := by
      rw [checkE_fine HV.out (by rw [HWB.out, HRB.out]; rfl)]; simp
    by_cases hs : standsI p who run < 0
    · exact ⟨0, 4, by show _ = _; rw [standsR, if_pos he, if_pos hs], .inl ⟨hs, rfl, rfl⟩⟩
    · exact ⟨_, 0, by show _ = _; rw [standsR, if_pos he, if_neg hs], .inr ⟨by omega, rfl, rfl⟩⟩
  go_wp2_with fail
  refine (PStands_any (p := p) who run _ (by exact HPB.out _ (HB9.out.alloc (by omega) _))).mono ?_
  rw [HE7.out]
  simp only
  rintro e wa ⟨rfl, hba⟩
  have HBa : Hid (Below W.heap.size W wa) := (HB9.out.alloc (by omega) _).trans (hba.mono (HB9.out.alloc (by omega) _).size)
  clear hba x0 x1 x2 x3 x4 x5 x6 x7 x8
  obtain ⟨x0, x1, x2, x3, x4, x5, x6, x7, x8⟩ := HF.out _ HBa.out
  go_wp2_with fail
  refine (last_any (p := p) who run _ (by exact HPB.out _ HBa.out)).mono ?_
  rintro e wb ⟨rfl, hbb⟩
  have HBb : Hid (Below W.heap.size W wb) := HBa.out.trans (hbb.mono HBa.out.size)
  clear hbb x0 x1 x2 x3 x4 x5 x6 x7 x8
  obtain ⟨x0, x1, x2, x3, x4, x5, x6, x7, x8⟩ := HF.out _ HBb.out
  obtain ⟨SI, HSI⟩ : ∃ SI, Hid (standsI p who run = SI) := ⟨_, rfl⟩
  rw [HSI.out] at hse ⊢
  obtain ⟨sA, sB⟩ : -1 ≤ SI ∧ SI < cl := by have := standsF_lt p.calls who run p.calls.length; have h2 := HSI.out; have h3 := HCL.out; unfold standsI at h2; omega
  rcases hse with ⟨hs, rfl, rfl⟩ | ⟨hs, rfl, rfl⟩
  all_goals (
    go_wp2_with fail
    refine (copied_any (p := p) _ (by exact HPB.out _ HBb.out) (by omega) (by omega) (by omega) (by omega)).mono ?_
    simp only [payV]
    rintro e wc ⟨⟨g1, c1, g2, c2, g3, c3, g4, c4, rfl, HO⟩, hbc⟩
    have HBc : Hid (Below W.heap.size W wc) := HBb.out.trans (hbc.mono HBb.out.size)
    have HOc := Lib.hid HO
    have hwc : W.heap.size ≤ wc.heap.size := HBc.out.size
    clear hbc x0 x1 x2 x3 x4 x5 x6 x7 x8 HO
    obtain ⟨x0, x1, x2, x3, x4, x5, x6, x7, x8⟩ := HF.out _ HBc.out
    go_wp2
    obtain ⟨X, hX⟩ : ∃ X, X = wc.alloc (.cells (payCs people (some ⟨g1, 0, none⟩) rl c1 none 0 0 rate bill (some ⟨g3, 0, none⟩) dl c3 (some ⟨g4, 0, none⟩) pl c4) 27) := ⟨_, rfl⟩
    have HXK : Hid (Blk X wc.heap.size 27 (payCs people (some ⟨g1, 0, none⟩) rl c1 none 0 0 rate bill (some ⟨g3, 0, none⟩) dl c3 (some ⟨g4, 0, none⟩) pl c4)) := by show Blk _ _ _ _; rw [hX]; exact Blk.new _ _ _
    have HXC : Hid (Below wc.heap.size wc X) := by show Below _ _ _; rw [hX]; exact (Below.refl _ _).alloc (Nat.le_refl _) _
    have HXW : Hid (Below W.heap.size W X) := HBc.out.trans (HXC.out.mono hwc)
    have hX' := hX.symm
    unfold payCs at hX'
    rw [hX']
    clear hX hX' x0 x1 x2 x3 x4 x5 x6 x7 x8
    go_loopw [200] (fun i wr => ∃ (k : Nat) (A : Option Addr) (l c : Nat), i = .int .i64 k ∧ k ≤ cl ∧ Hid (Blk wr wc.heap.size 27 (payCs people (some ⟨g1, 0, none⟩) rl c1 A l c rate bill (some ⟨g3, 0, none⟩) dl c3 (some ⟨g4, 0, none⟩) pl c4)) ∧ Hid (l = (keptL p k).length) ∧ Hid (wr.ownsRow (wc.heap.size + 1) 55 5 (.slice A l c) l ((keptL p k).flatMap caF)) ∧ Hid (Below wc.heap.size X wr)) (fun i _ => cl - (intOf i).toNat)
    case atStart => exact ⟨0, none, 0, 0, rfl, Nat.zero_le _, HXK.out, rfl, World.ownsRow_nil _ _ _ _, Below.refl _ _⟩
    case round =>
      obtain ⟨k, A, l, c, rfl, hk, HXB, HL, HOX, HBR⟩ := hrel
      have HBR' : Hid (Below W.heap.size W wr) := HXW.out.trans (HBR.out.mono hwc)
      obtain ⟨x0, x1, x2, x3, x4, x5, x6, x7, x8⟩ := HF.out _ HBR'.out
      have hxs : wc.heap.size < wr.heap.size := HXB.out.lt
      have hl12 : l ≤ 12 := by have := keptL_len p k; have := HL.out; omega
      by_cases hlt : k < cl
      · obtain ⟨d, hd⟩ : ∃ d, p.calls[k]? = some d := ⟨p.calls[k]'(by have := HCL.out; omega), by simp⟩
        obtain ⟨b, off, rfl, hbl, H0, H1, H2, H3, H4⟩ := (HPB.out _ HBR'.out).hcalls k d hd
        have HKL : Hid (keptL p (k + 1) = if standsI p d.who d.run = k then keptL p k ++ [d] else keptL p k) := by show _ = _; rw [keptL, hd]
        clear hd
        go_wp2_with fail
        refine (last_any (p := p) d.who d.run _ (by exact HPB.out _ (HBR'.out.alloc (by omega) _))).mono ?_
        rintro e w5 ⟨rfl, hb5⟩
        have HB5 : Hid (Below wc.heap.size X w5) := (HBR.out.alloc (by omega) _).trans (hb5.mono (by simp; omega))
        have HD5 : Hid (Blk w5 wr.heap.size 55 #[.int .i64 d.who, .int .i64 d.run, .int .i64 d.sh.lo, .int .i64 d.sh.hi, .bool d.struck]) := (Blk.new_ rfl _ _).below hb5 (by simp)
        have HX5 : Hid (Blk w5 wc.heap.size 27 (payCs people (some ⟨g1, 0, none⟩) rl c1 A l c rate bill (some ⟨g3, 0, none⟩) dl c3 (some ⟨g4, 0, none⟩) pl c4)) := (HXB.out.alloc _).below hb5 (by simp; omega)
        have HO5 := Lib.hid (own_below (HOX.out.alloc _) hb5)
        clear hb5 H0 H1 H2 H3 H4 hbl x0 x1 x2 x3 x4 x5 x6 x7 x8
        have hw5 : wr.heap.size < w5.heap.size := HD5.out.lt
        by_cases hst : standsI p d.who d.run = k
        · rw [if_pos hst] at HKL
          have y0 := HD5.out.cell 0
          have y1 := HD5.out.cell 1
          have y2 := HD5.out.cell 2
          have y3 := HD5.out.cell 3
          have y4 := HD5.out.cell 4
          have z2 := HX5.out.cell 2
          have q2 := HX5.out.frozen 2
          simp [payCs] at y0 y1 y2 y3 y4 z2
          have hw5' : wc.heap.size < w5.heap.size := by omega
          go_wp2_with (go_loud (at_builtin; refine wpList_append_own _ rfl _ _ 23 rfl (wc.heap.size + 1) 55 i0 _ 5 40 Tryd.underlying23 HI.out HI0.out HI1.out HI2.out rfl (by decide) _ _ _ rfl (HO5.out.alloc _) ⟨w5.heap.size, 0, none⟩ 1 1 (caF d) rfl rfl (news5 w5 _ d) (by simp [caF, Value.oneCell']) (by unfold maxLen; omega) (by omega) (by simp; omega) ?_))
          intro v' w6 hown6 hgrow6 hv6
          obtain ⟨A', c', rfl⟩ : ∃ A' c', v' = .slice A' (l + 1) c' := by
            rcases hown6.2 with ⟨h, _⟩ | ⟨g, c', _, h, _⟩
            · exact absurd h hv6
            · exact ⟨_, c', h⟩
          have HO6 := Lib.hid hown6
          have hne : ∀ k', Value.ownBlock (.slice A l c) = some k' → wc.heap.size + 1 ≤ k' := fun k' hk' => (HO5.out.lt k' hk').1
          have HX6 : Hid (Blk w6 wc.heap.size 27 (payCs people (some ⟨g1, 0, none⟩) rl c1 A l c rate bill (some ⟨g3, 0, none⟩) dl c3 (some ⟨g4, 0, none⟩) pl c4)) := (HX5.out.alloc _).grown hgrow6 (by intro e; have := hne _ e.symm; omega)
          have HB6 : Hid (Below wc.heap.size X w6) := Below.grown (HB5.out.alloc (by omega) _) hgrow6 (by simp; omega) (fun k' hk' => by have := hne k' hk'; omega)
          clear hown6 hgrow6 hv6 hne y0 y1 y2 y3 y4 z2 q2
          have hx6 : wc.heap.size < w6.heap.size := HX6.out.lt
          have z2 := HX6.out.cell 2
          have q2 := HX6.out.frozen 2
          simp [payCs] at z2
          go_wp2
          go_roundw
          case rel => exact ⟨k + 1, A', l + 1, c', by go_num, by omega, HX6.out.set_ 2 _, by (show _ = _; rw [HKL.out, List.length_append, ← HL.out]; rfl), by (show World.ownsRow _ _ _ _ _ _ _; rw [HKL.out, List.flatMap_append, List.flatMap_singleton]; exact ownsRow_setCell_below HO6.out (by simp) _), setK_below HB6.out (Nat.le_refl _) 2 _⟩
          case measure => simp [intOf]; omega
        · rw [if_neg hst] at HKL
          go_wp2
          go_roundw
          case rel => exact ⟨k + 1, A, l, c, by go_num, by omega, HX5.out, by show _ = _; rw [HKL.out]; exact HL.out, by show World.ownsRow _ _ _ _ _ _ _; rw [HKL.out]; exact HO5.out, HB5.out⟩
          case measure => simp [intOf]; omega
      · obtain rfl : cl = k := by omega
        have HKP : Hid (∀ wv, Below wr.heap.size wr wv → PayIn wv wv.heap.size people (some ⟨g1, 0, none⟩) rl A l rate bill (some ⟨g3, 0, none⟩) dl (some ⟨g4, 0, none⟩) pl (keptP p)) := fun wv hb => by
          have h := OwnPay.with_calls (HPB.out _ HBR'.out) HOc.out ((HXC.out.trans HBR.out).trans (hb.mono (by omega))) HL.out (by omega) (own_below HOX.out hb)
          unfold keptP
          rw [HCL.out]
          exact h
        obtain ⟨⟨⟨TL, TU⟩, TE⟩, HT⟩ : ∃ T, Hid (spanR (checkE p (whoB p who) true) (wagesP p who) = T) := ⟨_, rfl⟩
        have HT2 : Hid (spanR (checkE (keptP p) (whoB (keptP p) who) true) (wagesP (keptP p) who) = (⟨TL, TU⟩, TE)) := by show _ = _; rw [wages_kept HV.out]; exact HT.out
        obtain ⟨wo, rfl⟩ : ∃ wo : World, wo = wr := ⟨_, rfl⟩
        go_wp2_with fail
        refine (PWages_any (p := p) who _ (by exact HPB.out _ HBR'.out)).mono ?_
        rw [HT.out]
        simp only [spV]
        rintro e w5 ⟨rfl, hb5⟩
        have HB5 : Hid (Below wo.heap.size wo w5) := hb5
        have HX5 := Lib.hid (HXB.out.below hb5 hxs)
        clear hb5 x0 x1 x2 x3 x4 x5 x6 x7 x8
        have hw5 : wo.heap.size ≤ w5.heap.size := HB5.out.size
        have hx5 : wc.heap.size < w5.heap.size := HX5.out.lt
        have z0 := HX5.out.cell 0
        have z1 := HX5.out.cell 1
        have z2 := HX5.out.cell 2
        have z3 := HX5.out.cell 3
        have z4 := HX5.out.cell 4
        have z5 := HX5.out.cell 5
        have z6 := HX5.out.cell 6
        simp [payCs] at z0 z1 z2 z3 z4 z5 z6
        go_wp2_with fail
        refine (PWages_any (p := keptP p) who _ (by exact HKP.out _ (HB5.out.alloc (by omega) _))).mono ?_
        rw [HT2.out]
        simp only [spV]
        rintro e w6 ⟨rfl, hb6⟩
        have HB6 : Hid (Below wo.heap.size wo w6) := (HB5.out.alloc (by omega) _).trans (hb6.mono (by simp; omega))
        have HK6 : Hid (Blk w6 w5.heap.size 34 #[.int .i64 TL, .int .i64 TU]) := (Blk.new_ rfl _ _).below hb6 (by simp)
        clear hb6 z0 z1 z2 z3 z4 z5 z6
        have HB6' : Hid (Below W.heap.size W w6) := HBR'.out.trans (HB6.out.mono HBR'.out.size)
        obtain ⟨x0, x1, x2, x3, x4, x5, x6, x7, x8⟩ := HF.out _ HB6'.out
        have y0 := HK6.out.cell 0
        have y1 := HK6.out.cell 1
        have y2 := HK6.out.lt
        simp at y0 y1
        have HBV : Hid (Below W.heap.size W (w6.alloc (.cells #[.int .i64 TL, .int .i64 TU] 34))) := HB6'.out.alloc (by omega) _
        go_wp2_with fail
        first
          | (
            refine (awake_any _ (by exact HR.out.below (HBW.out.trans (HBV.out.mono (by omega))))).mono ?_
            rintro e wz ⟨rfl, hbz⟩
            go_wp2
            go_ret
            exact ⟨rfl, HBW.out.trans ((HBV.out.trans (hbz.mono HBV.out.size)).mono (by omega))⟩)
          | (
            obtain ⟨N, rfl⟩ : ∃ N : Nat, ST = N := ⟨ST.toNat, by omega⟩
            obtain ⟨cN, hcN⟩ : ∃ c, p.calls[N]? = some c := ⟨p.calls[N]'(by have := HCL.out; omega), by simp⟩
            refine (copied_any (p := p) _ (by exact HPB.out _ HBV.out) (by omega) (by omega) (by omega) (by omega)).mono ?_
            simp only [payV]
            rintro e wd ⟨⟨g1', c1', g2', c2', g3', c3', g4', c4', rfl, HOd⟩, hbd⟩
            have HBd : Hid (Below W.heap.size W wd) := HBV.out.trans (hbd.mono HBV.out.size)
            have hwd : W.heap.size ≤ wd.heap.size := HBd.out.size
            obtain ⟨v0, v1, v2, v3⟩ := HOd.call hcN
            have hvw : W.heap.size ≤ g2' := by have := HBV.out.size; omega
            have HBS : Hid (Below W.heap.size W (wd.setCell ⟨g2', N * 5 + 4, none⟩ (.bool true))) := setK_below HBd.out hvw _ _
            have hsz : W.heap.size ≤ (wd.setCell ⟨g2', N * 5 + 4, none⟩ (.bool true)).heap.size := HBS.out.size
            have HPS : Hid (PayIn ((wd.setCell ⟨g2', N * 5 + 4, none⟩ (.bool true)).alloc (.cells (payCs people (some ⟨g1', 0, none⟩) rl c1' (some ⟨g2', 0, none⟩) cl c2' rate bill (some ⟨g3', 0, none⟩) dl c3' (some ⟨g4', 0, none⟩) pl c4') 27)) ((wd.setCell ⟨g2', N * 5 + 4, none⟩ (.bool true)).alloc (.cells (payCs people (some ⟨g1', 0, none⟩) rl c1' (some ⟨g2', 0, none⟩) cl c2' rate bill (some ⟨g3', 0, none⟩) dl c3' (some ⟨g4', 0, none⟩) pl c4') 27)).heap.size people (some ⟨g1', 0, none⟩) rl (some ⟨g2', 0, none⟩) cl rate bill (some ⟨g3', 0, none⟩) dl (some ⟨g4', 0, none⟩) pl (struckP p N cN)) :=
              ((HOd.strike hcN).below ((Below.refl _ _).alloc (Nat.le_refl _) (.cells (payCs people (some ⟨g1', 0, none⟩) rl c1' (some ⟨g2', 0, none⟩) cl c2' rate bill (some ⟨g3', 0, none⟩) dl c3' (some ⟨g4', 0, none⟩) pl c4') 27))).payIn (people := people) (rl := rl) (cl := cl) (rate := rate) (bill := bill) (dl := dl) (pl := pl) (payB_struck HV.out hcN) HPE.out HRL.out (by show (p.calls.set N (strike cN)).length = cl; rw [List.length_set, HCL.out]) HP.out.erate HP.out.ebill HP.out.edl HP.out.epl
            have HBT : Hid (Below W.heap.size W ((wd.setCell ⟨g2', N * 5 + 4, none⟩ (.bool true)).alloc (.cells (payCs people (some ⟨g1', 0, none⟩) rl c1' (some ⟨g2', 0, none⟩) cl c2' rate bill (some ⟨g3', 0, none⟩) dl c3' (some ⟨g4', 0, none⟩) pl c4') 27))) := HBS.out.alloc hsz _
            unfold payCs at HPS HBT
            have HSS := Lib.hid (standsR_struck HV.out hcN (by rw [HWB.out, HRB.out]; rfl) HSI.out)
            clear hbd x0 x1 x2 x3 x4 x5 x6 x7 x8 HOd hcN y0 y1 y2
            go_wp2_with fail
            refine (PStands_any (p := struckP p N cN) who run _ (by exact HPS.out)).mono ?_
            rcases HSS.out with h | ⟨o, o0, o1, h⟩
            all_goals (
              rw [h]
              simp only
              rintro e we ⟨rfl, hbe⟩
              have HBe : Hid (Below W.heap.size W we) := HBT.out.trans (hbe.mono HBT.out.size)
              clear hbe h
              go_wp2_with fail
              refine (awake_any _ (by exact HR.out.below (HBW.out.trans (HBe.out.mono (by omega))))).mono ?_
              rintro e wz ⟨rfl, hbz⟩
              go_wp2
              go_ret
              exact ⟨rfl, HBW.out.trans ((HBe.out.trans (hbz.mono HBe.out.size)).mono (by omega))⟩)))
end
end Go.Proofs.YtlcolpnniipgbaaDoor
