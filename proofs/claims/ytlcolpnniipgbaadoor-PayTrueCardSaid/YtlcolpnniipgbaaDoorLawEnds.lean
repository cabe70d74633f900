/- The walk of PayEnds: for every pay, and every two numbers, it answers true. -/
import Derived.Test.YtlcolpnniipgbaaDoorLawE0
import Derived.Test.YtlcolpnniipgbaaDoorLawWages
namespace Go.Proofs.YtlcolpnniipgbaaDoor
open Go.RowKit Go.Hav
section
variable {people rate bill : Int} {ra ca da pa : Option Addr} {rl rc cl cc dl dc pl pc : Nat} {p : PayD}
theorem inside_is {n lo hi : Int} {b : Bool} (h : (decide (lo ≤ n) && decide (n ≤ hi)) = b) (w : World) : Calls Tryd.prog 32 #[.int .i64 n, .agg #[.int .i64 lo, .int .i64 hi]] w fun e w' => e = .returned (.bool b) ∧ Below w.heap.size w w' := by
  rw [← h]; exact inside_any n lo hi w
set_option maxRecDepth 100000 in
set_option maxHeartbeats 6400000 in
theorem PayEnds_any (which other : Int) (k0 : 0 ≤ which) (k1 : which ≤ 255) (l0 : 0 ≤ other) (l1 : other ≤ 255) (w : World) (hP : PayIn w w.heap.size people ra rl ca cl rate bill da dl pa pl p) (hR : RulesIn w) :
    Calls Tryd.prog 7 #[payV people ra rl rc ca cl cc rate bill da dl dc pa pl pc, .int .u8 which, .int .u8 other] w fun e w' => e = .returned (.bool true) ∧ Below w.heap.size w w' := by
  have HP := Lib.hid hP
  have HR := Lib.hid hR
  clear hP hR
  unfold payV
  go_enter Tryd.func7, Tryd.ntmps7
  go_wp2_with fail
  obtain ⟨W, hW⟩ : ∃ W, W = w.alloc (.cells (payCs people ra rl rc ca cl cc rate bill da dl dc pa pl pc) 27) := ⟨_, rfl⟩
  have HBK : Hid (Blk W w.heap.size 27 (payCs people ra rl rc ca cl cc rate bill da dl dc pa pl pc)) := by show Blk _ _ _ _; rw [hW]; exact Blk.new _ _ _
  have HBW : Hid (Below w.heap.size w W) := by show Below _ _ _; rw [hW]; exact (Below.refl _ _).alloc (Nat.le_refl _) _
  have hs0 : w.heap.size < W.heap.size := HBK.out.lt
  have hW' := hW.symm
  unfold payCs at hW'
  rw [hW']
  clear hW hW'
  have facts : ∀ wv, Below W.heap.size W wv → wv.cell? ⟨w.heap.size, 0, none⟩ = some (.int .i64 people) ∧ wv.cell? ⟨w.heap.size, 1, none⟩ = some (.slice ra rl rc) ∧ wv.cell? ⟨w.heap.size, 2, none⟩ = some (.slice ca cl cc) ∧
      wv.cell? ⟨w.heap.size, 3, none⟩ = some (.int .i64 rate) ∧ wv.cell? ⟨w.heap.size, 4, none⟩ = some (.int .i64 bill) ∧ wv.cell? ⟨w.heap.size, 5, none⟩ = some (.slice da dl dc) ∧ wv.cell? ⟨w.heap.size, 6, none⟩ = some (.slice pa pl pc) ∧ w.heap.size < wv.heap.size ∧ W.heap.size ≤ wv.heap.size := fun wv hb => by
    have h := HBK.out.below hb hs0
    exact ⟨h.cell 0, h.cell 1, h.cell 2, h.cell 3, h.cell 4, h.cell 5, h.cell 6, h.lt, hb.size⟩
  have HF := Lib.hid facts
  clear facts
  have HPB : Hid (∀ wv, Below W.heap.size W wv → PayIn wv wv.heap.size people ra rl ca cl rate bill da dl pa pl p) := fun wv hb => HP.out.grow (HBW.out.trans (hb.mono (by omega)))
  refine (fine_any (p := p) _ (by exact HP.out.grow HBW.out)).mono ?_
  rintro e w1 ⟨⟨b, rfl, hv⟩, hb1⟩
  have HB1 : Hid (Below W.heap.size W w1) := hb1
  clear hb1
  obtain ⟨x0, x1, x2, x3, x4, x5, x6, x7, x8⟩ := HF.out _ HB1.out
  cases b
  case false =>
    go_wp2_with fail
    refine (awake_any _ (by exact HR.out.below (HBW.out.trans (HB1.out.mono (by omega))))).mono ?_
    rintro e w2 ⟨rfl, hb2⟩
    go_wp2
    go_ret
    exact ⟨rfl, HBW.out.trans ((HB1.out.trans (hb2.mono HB1.out.size)).mono (by omega))⟩
  case true =>
  have hv := hv rfl
  have HV := Lib.hid hv
  obtain ⟨⟨a1, a2, a3, a4, a5, a6, a7, a8, a9, a10, a11⟩, _⟩ := payB_parts HP.out hv
  have HPE := Lib.hid HP.out.epeople
  have HRL := Lib.hid HP.out.erl
  have HCL := Lib.hid HP.out.ecl
  clear hv a10
  have hdl : dl ≤ 4 := by have := payB_rate HV.out; have := payB_people HV.out; have := HP.out.edl; omega
  have hp0 : ¬ people = 0 := by omega
  have hr0 : ¬ rl = 0 := by omega
  go_wp2
  refine wp_region_havoc [(0,false),(1,false),(2,false),(3,false),(4,false),(5,false),(6,false),(7,false),(8,false),(9,false),(10,false),(11,false),(12,false)] [] (fun _ _ => False) (by kernel_rfl) (by kernel_rfl) (fun _ _ _ _ h => h.elim) ?_
  (apply hav_same (by simp only [List.getElem?_toArray, List.getElem?_cons_zero]; rfl) (by kernel_rfl); (focus (intro wv hgv _; have hcv : ∀ b o, b < _ → wv.cell? ⟨b, o, none⟩ = _ := fun b o hb => Below.cell hgv (p := ⟨b, o, none⟩) hb; go_simp; try rfl; done)); simp only [Act.put, List.setIfInBounds_toArray, List.set_cons_succ, List.set_cons_zero])
  (apply hav_same (by simp only [List.getElem?_toArray, List.getElem?_cons_succ, List.getElem?_cons_zero]; rfl) (by kernel_rfl); (focus (intro wv hgv _; exact conv8 rfl rfl k0 k1 _)); simp only [Act.put, List.setIfInBounds_toArray, List.set_cons_succ, List.set_cons_zero])
  iterate 4 (apply hav_same (by simp only [List.getElem?_toArray, List.getElem?_cons_succ, List.getElem?_cons_zero]; rfl) (by kernel_rfl); (focus (intro wv hgv _; have hcv : ∀ b o, b < _ → wv.cell? ⟨b, o, none⟩ = _ := fun b o hb => Below.cell hgv (p := ⟨b, o, none⟩) hb; go_simp; try rfl; done)); simp only [Act.put, List.setIfInBounds_toArray, List.set_cons_succ, List.set_cons_zero])
  (apply hav_same (by simp only [List.getElem?_toArray, List.getElem?_cons_succ, List.getElem?_cons_zero]; rfl) (by kernel_rfl); (focus (intro wv hgv _; exact conv8 rfl rfl l0 l1 _)); simp only [Act.put, List.setIfInBounds_toArray, List.set_cons_succ, List.set_cons_zero])
  iterate 6 (apply hav_same (by simp only [List.getElem?_toArray, List.getElem?_cons_succ, List.getElem?_cons_zero]; rfl) (by kernel_rfl); (focus (intro wv hgv _; have hcv : ∀ b o, b < _ → wv.cell? ⟨b, o, none⟩ = _ := fun b o hb => Below.cell hgv (p := ⟨b, o, none⟩) hb; go_simp; try rfl; done)); simp only [Act.put, List.setIfInBounds_toArray, List.set_cons_succ, List.set_cons_zero])
  refine hav_end (fun w3 hgw3 _ => ?_); simp only [List.filterMap]; have hcw3 : ∀ b o, b < _ → w3.cell? ⟨b, o, none⟩ = _ := fun b o hb => Below.cell hgw3 (p := ⟨b, o, none⟩) hb; have hfw3 : ∀ b o, b < _ → w3.frozen? ⟨b, o, none⟩ = _ := fun b o hb => Below.frozen hgw3 (p := ⟨b, o, none⟩) hb; have hzw3 := Below.size hgw3; (try simp at hzw3)
  have HB3 : Hid (Below W.heap.size W w3) := HB1.out.trans (hgw3.mono HB1.out.size)
  clear hgw3 hcw3 hfw3 x0 x1 x2 x3 x4 x5 x6 x7 x8
  obtain ⟨x0, x1, x2, x3, x4, x5, x6, x7, x8⟩ := HF.out _ HB3.out
  obtain ⟨who, hwho⟩ : ∃ who, which.tmod people = who := ⟨_, rfl⟩
  obtain ⟨run', hrun⟩ : ∃ run, other.tmod (rl : Int) = run := ⟨_, rfl⟩
  have who0 : 0 ≤ who := by rw [← hwho]; exact Int.tmod_nonneg _ k0
  have who1 : who < people := by rw [← hwho]; exact Int.tmod_lt_of_pos _ (by omega)
  have run0 : 0 ≤ run' := by rw [← hrun]; exact Int.tmod_nonneg _ l0
  have run1 : run' < rl := by rw [← hrun]; exact Int.tmod_lt_of_pos _ (by omega)
  rw [hwho, hrun]
  clear hwho hrun
  obtain ⟨run, rfl⟩ : ∃ run : Nat, run' = run := ⟨run'.toNat, by omega⟩
  have run2 : run < rl := by omega
  clear run0
  have HWB : Hid (whoB p who = true) := whoB_in who0 (by rw [HPE.out]; exact who1)
  have HRB : Hid (runB p run = true) := runB_in (by omega) (by rw [HRL.out]; exact run1)
  by_cases ht : wrongI p = 0
  case neg =>
    have HE1 : Hid (spanR (checkE p (whoB p who && runB p run) true) (sheepS p who run) = (⟨0, 0⟩, 10)) := spanR_clash HV.out ht (by rw [HWB.out, HRB.out]; rfl) _
    have HE2 : Hid (spanR (checkE p (runB p run) true) (outS p run) = (⟨0, 0⟩, 10)) := spanR_clash HV.out ht HRB.out _
    have HE3 : Hid (wrongR p = (wrongI p, 0)) := by show _ = _; rw [wrongR, if_pos (by rw [checkE_fine HV.out rfl]; simp), if_neg ht]
    clear ht
    go_wp2_with fail
    refine (PSheep_any (p := p) who run _ (by exact HPB.out _ HB3.out)).mono ?_
    rw [HE1.out]
    simp only [spV]
    rintro e w4 ⟨rfl, hb4⟩
    have HB4 : Hid (Below W.heap.size W w4) := HB3.out.trans (hb4.mono HB3.out.size)
    clear hb4 x0 x1 x2 x3 x4 x5 x6 x7 x8
    obtain ⟨x0, x1, x2, x3, x4, x5, x6, x7, x8⟩ := HF.out _ HB4.out
    go_wp2_with fail
    refine (POut_any (p := p) run _ (by exact HPB.out _ (HB4.out.alloc (by omega) _))).mono ?_
    rw [HE2.out]
    simp only [spV]
    rintro e w5 ⟨rfl, hb5⟩
    have HB5 : Hid (Below W.heap.size W w5) := (HB4.out.alloc (by omega) _).trans (hb5.mono (HB4.out.alloc (by omega) _).size)
    have HK5 : Hid (Blk w5 w4.heap.size 34 #[.int .i64 0, .int .i64 0]) := (Blk.new_ rfl _ _).below hb5 (by simp)
    clear hb5 x0 x1 x2 x3 x4 x5 x6 x7 x8
    obtain ⟨x0, x1, x2, x3, x4, x5, x6, x7, x8⟩ := HF.out _ HB5.out
    have hq5 : w4.heap.size < w5.heap.size := HK5.out.lt
    go_wp2_with fail
    refine (PWrong_any (p := p) _ (by exact HPB.out _ (HB5.out.alloc (by omega) _))).mono ?_
    rw [HE3.out]
    simp only
    rintro e w6 ⟨rfl, hb6⟩
    have HB6 : Hid (Below W.heap.size W w6) := (HB5.out.alloc (by omega) _).trans (hb6.mono (HB5.out.alloc (by omega) _).size)
    have HK6 : Hid (Blk w6 w4.heap.size 34 #[.int .i64 0, .int .i64 0]) := (HK5.out.alloc _).below hb6 (HK5.out.alloc _).lt
    have HL6 : Hid (Blk w6 w5.heap.size 34 #[.int .i64 0, .int .i64 0]) := (Blk.new_ rfl _ _).below hb6 (by simp)
    clear hb6 x0 x1 x2 x3 x4 x5 x6 x7 x8
    have y0 := HK6.out.cell 0
    have y1 := HK6.out.cell 1
    have y2 := HL6.out.cell 0
    have y3 := HL6.out.cell 1
    simp at y0 y1 y2 y3
    have y4 := HK6.out.lt
    have y5 := HL6.out.lt
    go_wp2_with fail
    refine (awake_any _ (by exact HR.out.below (HBW.out.trans (HB6.out.mono (by omega))))).mono ?_
    rintro e w7 ⟨rfl, hb7⟩
    go_wp2
    go_ret
    exact ⟨rfl, HBW.out.trans ((HB6.out.trans (hb7.mono HB6.out.size)).mono (by omega))⟩
  case pos =>
  have HT := Lib.hid ht
  clear ht
  obtain ⟨⟨SL, SU⟩, HSG⟩ : ∃ s, Hid (sheepS p who run = s) := ⟨_, rfl⟩
  obtain ⟨⟨OL, OU⟩, HOG⟩ : ∃ s, Hid (outS p run = s) := ⟨_, rfl⟩
  obtain ⟨⟨RL, RU⟩, HRG⟩ : ∃ s, Hid (p.runs[run]? = some s) := ⟨p.runs[run]'(by rw [HRL.out]; exact run2), by show _ = _; simp⟩
  have HRS : Hid (runS p run = ⟨RL, RU⟩) := runS_some (by rw [Int.toNat_natCast]; exact HRG.out)
  have HE1 : Hid (spanR (checkE p (whoB p who && runB p run) true) (sheepS p who run) = (⟨SL, SU⟩, 0)) := by show _ = _; rw [spanR_ok HV.out HT.out (by rw [HWB.out, HRB.out]; rfl), HSG.out]
  have HE2 : Hid (spanR (checkE p (runB p run) true) (outS p run) = (⟨OL, OU⟩, 0)) := by show _ = _; rw [spanR_ok HV.out HT.out HRB.out, HOG.out]
  have HE3 : Hid (wrongR p = (0, 4)) := by show _ = _; rw [wrongR, if_pos (by rw [checkE_fine HV.out rfl]; simp), if_pos HT.out]
  have hsr : 0 ≤ RL ∧ RL ≤ RU ∧ RU ≤ 400 := payB_run HV.out HRG.out
  have hso : RL ≤ OL ∧ OU ≤ RU ∧ OL ≤ OU := by
    have h1 := (outS_iff HV.out run (by rw [HRL.out]; exact run2)).1 ((wrongI_zero p).1 HT.out run (by rw [HRL.out]; exact run2))
    have h2 := HOG.out
    have h3 := HRS.out
    rw [h2] at h1
    rw [outS, h3] at h2
    injection h2 with h4 h5
    simp only at h1 h4 h5
    omega
  obtain ⟨r0, r1, r2⟩ := hsr
  obtain ⟨o0, o1, o2⟩ := hso
  go_wp2_with fail
  refine (PSheep_any (p := p) who run _ (by exact HPB.out _ HB3.out)).mono ?_
  rw [HE1.out]
  simp only [spV]
  rintro e w4 ⟨rfl, hb4⟩
  have HB4 : Hid (Below W.heap.size W w4) := HB3.out.trans (hb4.mono HB3.out.size)
  clear hb4 x0 x1 x2 x3 x4 x5 x6 x7 x8
  obtain ⟨x0, x1, x2, x3, x4, x5, x6, x7, x8⟩ := HF.out _ HB4.out
  go_wp2_with fail
  refine (POut_any (p := p) run _ (by exact HPB.out _ (HB4.out.alloc (by omega) _))).mono ?_
  rw [HE2.out]
  simp only [spV]
  rintro e w5 ⟨rfl, hb5⟩
  have HB5 : Hid (Below W.heap.size W w5) := (HB4.out.alloc (by omega) _).trans (hb5.mono (HB4.out.alloc (by omega) _).size)
  have HK5 : Hid (Blk w5 w4.heap.size 34 #[.int .i64 SL, .int .i64 SU]) := (Blk.new_ rfl _ _).below hb5 (by simp)
  clear hb5 x0 x1 x2 x3 x4 x5 x6 x7 x8
  obtain ⟨x0, x1, x2, x3, x4, x5, x6, x7, x8⟩ := HF.out _ HB5.out
  have hq4 : W.heap.size ≤ w4.heap.size := HB4.out.size
  have hq5 : w4.heap.size < w5.heap.size := HK5.out.lt
  go_wp2_with fail
  refine (PWrong_any (p := p) _ (by exact HPB.out _ (HB5.out.alloc (by omega) _))).mono ?_
  rw [HE3.out]
  simp only
  rintro e w6 ⟨rfl, hb6⟩
  have HB6 : Hid (Below W.heap.size W w6) := (HB5.out.alloc (by omega) _).trans (hb6.mono (HB5.out.alloc (by omega) _).size)
  have HK6 : Hid (Blk w6 w4.heap.size 34 #[.int .i64 SL, .int .i64 SU]) := (HK5.out.alloc _).below hb6 (HK5.out.alloc _).lt
  have HL6 : Hid (Blk w6 w5.heap.size 34 #[.int .i64 OL, .int .i64 OU]) := (Blk.new_ rfl _ _).below hb6 (by simp)
  clear hb6 x0 x1 x2 x3 x4 x5 x6 x7 x8 HE1 HE2 HE3
  obtain ⟨x0, x1, x2, x3, x4, x5, x6, x7, x8⟩ := HF.out _ HB6.out
  have hq6 : w5.heap.size < w6.heap.size := HL6.out.lt
  -- what both spans read, in every world behind this one
  have HG : Hid (∀ wv, Below w6.heap.size w6 wv → wv.cell? ⟨w4.heap.size, 0, none⟩ = some (.int .i64 SL) ∧ wv.cell? ⟨w4.heap.size, 1, none⟩ = some (.int .i64 SU) ∧ wv.cell? ⟨w5.heap.size, 0, none⟩ = some (.int .i64 OL) ∧ wv.cell? ⟨w5.heap.size, 1, none⟩ = some (.int .i64 OU) ∧ w4.heap.size < wv.heap.size ∧ w5.heap.size < wv.heap.size) := fun wv hb => by
    have h1 := HK6.out.below hb (by omega)
    have h2 := HL6.out.below hb (by omega)
    exact ⟨h1.cell 0, h1.cell 1, h2.cell 0, h2.cell 1, h1.lt, h2.lt⟩
  go_wp2_with fail
  refine (last_any (p := p) who run _ (by exact HPB.out _ HB6.out)).mono ?_
  rintro e w7 ⟨rfl, hb7⟩
  have HB7 : Hid (Below W.heap.size W w7) := HB6.out.trans (hb7.mono HB6.out.size)
  have HG7 : Hid (Below w6.heap.size w6 w7) := hb7
  clear hb7 x0 x1 x2 x3 x4 x5 x6 x7 x8
  obtain ⟨x0, x1, x2, x3, x4, x5, x6, x7, x8⟩ := HF.out _ HB7.out
  obtain ⟨y0, y1, y2, y3, y4, y5⟩ := HG.out _ HG7.out
  obtain ⟨SI, HSI⟩ : ∃ SI, Hid (standsI p who run = SI) := ⟨_, rfl⟩
  rw [HSI.out]
  obtain ⟨sA, sB⟩ : -1 ≤ SI ∧ SI < cl := by have := standsF_lt p.calls who run p.calls.length; have h2 := HSI.out; have h3 := HCL.out; unfold standsI at h2; omega
  have hd1 : decide (OL < RL) = false := decide_eq_false (by omega)
  have hd2 : decide (RU < OU) = false := decide_eq_false (by omega)
  have hd3 : decide (OU < OL) = false := decide_eq_false (by omega)
  obtain ⟨b, off, e1, hbl, R0, R1⟩ := (HPB.out _ HB7.out).hruns run _ HRG.out
  subst e1
  by_cases hs : SI < 0
  · have hz : SL = 0 ∧ SU = 0 := by
      have h1 := sheepS_ok HV.out who run who0 (by rw [HPE.out]; exact who1) (by omega) (by rw [HRL.out]; exact run1) ((wrongI_zero p).1 HT.out _ (by rw [Int.toNat_natCast, HRL.out]; exact run2))
      rw [HSG.out] at h1
      have h2 := HSG.out
      rw [sheepS, calledS, HSI.out, if_pos hs] at h2
      injection h2 with h3 h4
      simp only at h1 h3 h4
      omega
    obtain ⟨rfl, rfl⟩ := hz
    have hd0 : decide (SI < 0) = true := decide_eq_true hs
    go_wp2
    refine wp_region_havoc [(0,false),(1,false),(2,false),(3,false),(4,false),(5,false),(6,false),(7,false),(8,false),(9,false),(10,false),(11,false),(12,false),(13,false),(14,false),(15,false),(16,false),(17,false),(18,false),(19,false),(20,false),(21,false),(22,false),(23,false),(24,false),(25,false),(26,false),(27,false),(28,false),(29,false),(30,false),(31,false),(32,false),(33,false),(34,false),(35,false)] [] (fun _ _ => False) (by kernel_rfl) (by kernel_rfl) (fun _ _ _ _ h => h.elim) ?_
    iterate 4 (apply hav_same (by simp only [List.getElem?_toArray, List.getElem?_cons_succ, List.getElem?_cons_zero]; rfl) (by kernel_rfl); (focus (intro wv hgv _; have hcv : ∀ b o, b < _ → wv.cell? ⟨b, o, none⟩ = _ := fun b o hb => Below.cell hgv (p := ⟨b, o, none⟩) hb; go_simp; try rfl; done)); simp only [Act.put, List.setIfInBounds_toArray, List.set_cons_succ, List.set_cons_zero])
    (apply hav_call (by simp only [List.getElem?_toArray, List.getElem?_cons_succ, List.getElem?_cons_zero]; rfl) (by kernel_rfl); (focus (intro wv; go_simp; try exact ⟨rfl, rfl⟩; done)); (focus (intro wv hgv _; exact lspan_agg _ _ _; done)); simp only [Act.put, List.setIfInBounds_toArray, List.set_cons_succ, List.set_cons_zero])
    iterate 31 (apply hav_same (by simp only [List.getElem?_toArray, List.getElem?_cons_succ, List.getElem?_cons_zero]; rfl) (by kernel_rfl); (focus (intro wv hgv _; have hcv : ∀ b o, b < _ → wv.cell? ⟨b, o, none⟩ = _ := fun b o hb => Below.cell hgv (p := ⟨b, o, none⟩) hb; go_simp; try rfl; done)); simp only [Act.put, List.setIfInBounds_toArray, List.set_cons_succ, List.set_cons_zero])
    refine hav_end (fun w8 hgw8 _ => ?_); simp only [List.filterMap]; have hcw8 : ∀ b o, b < _ → w8.cell? ⟨b, o, none⟩ = _ := fun b o hb => Below.cell hgw8 (p := ⟨b, o, none⟩) hb; have hfw8 : ∀ b o, b < _ → w8.frozen? ⟨b, o, none⟩ = _ := fun b o hb => Below.frozen hgw8 (p := ⟨b, o, none⟩) hb; have hzw8 := Below.size hgw8; (try simp at hzw8)
    have HBt : Hid (Below W.heap.size W w8) := HB7.out.trans (hgw8.mono HB7.out.size)
    have HGt : Hid (Below w6.heap.size w6 w8) := HG7.out.trans (hgw8.mono HG7.out.size)
    clear hgw8 hcw8 hfw8 x0 x1 x2 x3 x4 x5 x6 x7 x8 y0 y1 y2 y3 y4 y5 hd1 hd2 hd3 R0 R1
    obtain ⟨x0, x1, x2, x3, x4, x5, x6, x7, x8⟩ := HF.out _ HBt.out
    obtain ⟨y0, y1, y2, y3, y4, y5⟩ := HG.out _ HGt.out
    obtain ⟨LO, hlo, lo0, lo1⟩ : ∃ LO : Int, (∀ w, (Builtin.max_ #[3, 3] 3 #[.int .i64 0, .int .i64 (OL - 2)]).run Tryd.prog w = .ok (.int .i64 LO) w) ∧ 0 ≤ LO ∧ LO ≤ 401 := by
      by_cases h : 0 < OL - 2
      · exact ⟨OL - 2, fun w => by simp [Builtin.max_, Builtin.max2]; omega, by omega, by omega⟩
      · exact ⟨0, fun w => by simp [Builtin.max_, Builtin.max2]; omega, by omega, by omega⟩
    obtain ⟨HI, hhi, hi1⟩ : ∃ HI : Int, (∀ w, (Builtin.min_ #[3, 3] 3 #[.int .i64 400, .int .i64 (OU + 2)]).run Tryd.prog w = .ok (.int .i64 HI) w) ∧ HI ≤ 400 := by
      by_cases h : OU + 2 < 400
      · exact ⟨OU + 2, fun w => by simp [Builtin.min_, Builtin.min2, h], by omega⟩
      · exact ⟨400, fun w => by simp [Builtin.min_, Builtin.min2, h], by omega⟩
    have HHI := Lib.hid hhi
    clear hhi
    go_wp2
    clear hlo x0 x1 x2 x3 x4 x5 x6 x7 x8 y0 y1 y2 y3 y4 y5
    go_loopw [20] (fun v wr => ∃ n : Int, v = .int .i64 n ∧ 0 ≤ n ∧ n ≤ 401 ∧ Hid (Below W.heap.size W wr) ∧ Hid (Below w6.heap.size w6 wr)) (fun v _ => (402 - intOf v).toNat)
    case atStart => exact ⟨LO, rfl, lo0, lo1, HBt.out, HGt.out⟩
    case round =>
      obtain ⟨n, rfl, n0, n1, HBR, HGR⟩ := hrel
      obtain ⟨x0, x1, x2, x3, x4, x5, x6, x7, x8⟩ := HF.out _ HBR.out
      obtain ⟨y0, y1, y2, y3, y4, y5⟩ := HG.out _ HGR.out
      have hhi := HHI.out
      by_cases hle : n ≤ HI
      · go_wp2_with fail
        refine (copied_any (p := p) _ (by exact HPB.out _ HBR.out) (by omega) (by omega) (by omega) (by omega)).mono ?_
        simp only [payV]
        rintro e wd ⟨⟨g1, c1, g2, c2, g3, c3, g4, c4, rfl, HOd⟩, hbd⟩
        have HBd : Hid (Below W.heap.size W wd) := HBR.out.trans (hbd.mono HBR.out.size)
        have HGd : Hid (Below w6.heap.size w6 wd) := HGR.out.trans (hbd.mono HGR.out.size)
        have HOd' := Lib.hid HOd
        clear hbd hhi x0 x1 x2 x3 x4 x5 x6 x7 x8 y0 y1 y2 y3 y4 y5 HOd
        have hwd : W.heap.size ≤ wd.heap.size := HBd.out.size
        have hwd6 : w6.heap.size ≤ wd.heap.size := HGd.out.size
        go_wp2
        refine wp_region_havoc [(0,false),(1,false),(2,false),(3,false),(4,false),(5,false),(6,false)] [7] (fun _ _ => False) (by kernel_rfl) (by kernel_rfl) (fun _ _ _ _ h => h.elim) ?_
        (apply hav_same (by simp only [List.getElem?_toArray, List.getElem?_cons_zero]; rfl) (by kernel_rfl); (focus (intro wv hgv _; have hcv : ∀ b o, b < _ → wv.cell? ⟨b, o, none⟩ = _ := fun b o hb => Below.cell hgv (p := ⟨b, o, none⟩) hb; go_simp; try rfl; done)); simp only [Act.put, List.setIfInBounds_toArray, List.set_cons_succ, List.set_cons_zero])
        iterate 4 (apply hav_same (by simp only [List.getElem?_toArray, List.getElem?_cons_succ, List.getElem?_cons_zero]; rfl) (by kernel_rfl); (focus (intro wv hgv _; have hcv : ∀ b o, b < _ → wv.cell? ⟨b, o, none⟩ = _ := fun b o hb => Below.cell hgv (p := ⟨b, o, none⟩) hb; go_simp; try rfl; done)); simp only [Act.put, List.setIfInBounds_toArray, List.set_cons_succ, List.set_cons_zero])
        (apply hav_call (by simp only [List.getElem?_toArray, List.getElem?_cons_succ, List.getElem?_cons_zero]; rfl) (by kernel_rfl); (focus (intro wv; go_simp; try exact ⟨rfl, rfl⟩; done)); (focus (intro wv hgv _; exact lspan_agg _ _ _; done)); simp only [Act.put, List.setIfInBounds_toArray, List.set_cons_succ, List.set_cons_zero])
        (apply hav_same (by simp only [List.getElem?_toArray, List.getElem?_cons_succ, List.getElem?_cons_zero]; rfl) (by kernel_rfl); (focus (intro wv hgv _; have hcv : ∀ b o, b < _ → wv.cell? ⟨b, o, none⟩ = _ := fun b o hb => Below.cell hgv (p := ⟨b, o, none⟩) hb; go_simp; try rfl; done)); simp only [Act.put, List.setIfInBounds_toArray, List.set_cons_succ, List.set_cons_zero])
        refine hav_end (fun we hgwe _ => ?_); simp only [List.filterMap]; have hcwe : ∀ b o, b < _ → we.cell? ⟨b, o, none⟩ = _ := fun b o hb => Below.cell hgwe (p := ⟨b, o, none⟩) hb; have hfwe : ∀ b o, b < _ → we.frozen? ⟨b, o, none⟩ = _ := fun b o hb => Below.frozen hgwe (p := ⟨b, o, none⟩) hb; have hzwe := Below.size hgwe; (try simp at hzwe)
        simp only [List.getElem?_toArray, List.getElem?_cons_succ, List.getElem?_cons_zero]
        have hv0 := (HOd'.out.runCells HRG.out).2.2.2
        have hvB := HBR.out.size
        have HOe : OwnPay we _ p g1 c1 g2 c2 g3 c3 g4 c4 := (HOd'.out.below ((Below.refl _ _).alloc (Nat.le_refl _) _)).below hgwe
        have HXe : Blk we wd.heap.size 27 (payCs people (some ⟨g1, 0, none⟩) rl c1 (some ⟨g2, 0, none⟩) cl c2 rate bill (some ⟨g3, 0, none⟩) dl c3 (some ⟨g4, 0, none⟩) pl c4) := (Blk.new_ rfl _ _).below hgwe (by simp)
        have HBe : Hid (Below W.heap.size W we) := (HBd.out.alloc hwd _).trans (hgwe.mono (by simp; omega))
        have HGe : Hid (Below w6.heap.size w6 we) := (HGd.out.alloc hwd6 _).trans (hgwe.mono (by simp; omega))
        obtain ⟨u0, u1, u2, u3, _⟩ := HOe.runCells HRG.out
        have q0 := u2 (run * 2)
        have q1 := u2 (run * 2 + 1)
        have hne : ¬ g1 = wd.heap.size := by omega
        have hne' : ¬ wd.heap.size = g1 := by omega
        have hg1 : W.heap.size ≤ g1 := by omega
        have hg6 : w6.heap.size ≤ g1 := by have := HGR.out.size; omega
        have z0 := HXe.cell 0
        have z1 := HXe.cell 1
        have z2 := HXe.cell 2
        have z3 := HXe.cell 3
        have z4 := HXe.cell 4
        have z5 := HXe.cell 5
        have z6 := HXe.cell 6
        simp [payCs] at z0 z1 z2 z3 z4 z5 z6
        have hxl : wd.heap.size < we.heap.size := HXe.lt
        have hv' := setRun_payB HV.out run n n0 (by omega)
        have hb' : (whoB (setRun p run ⟨n, n⟩) who && runB (setRun p run ⟨n, n⟩) run) = true := by
          rw [show whoB (setRun p run ⟨n, n⟩) who = whoB p who from rfl, show runB (setRun p run ⟨n, n⟩) run = runB p run by simp [runB, setRun], HWB.out, HRB.out]; rfl
        have HPS : Hid (PayIn ((we.setCell ⟨g1, run * 2, none⟩ (.int .i64 n)).setCell ⟨g1, run * 2 + 1, none⟩ (.int .i64 n)) ((we.setCell ⟨g1, run * 2, none⟩ (.int .i64 n)).setCell ⟨g1, run * 2 + 1, none⟩ (.int .i64 n)).heap.size people (some ⟨g1, 0, none⟩) rl (some ⟨g2, 0, none⟩) cl rate bill (some ⟨g3, 0, none⟩) dl (some ⟨g4, 0, none⟩) pl (setRun p run ⟨n, n⟩)) :=
          (HOe.setRun HRG.out).payIn (people := people) (rl := rl) (cl := cl) (rate := rate) (bill := bill) (dl := dl) (pl := pl) hv' HPE.out (by show (p.runs.set run _).length = rl; rw [List.length_set, HRL.out]) HCL.out HP.out.erate HP.out.ebill HP.out.edl HP.out.epl
        have HBS : Hid (Below W.heap.size W ((we.setCell ⟨g1, run * 2, none⟩ (.int .i64 n)).setCell ⟨g1, run * 2 + 1, none⟩ (.int .i64 n))) := setK_below (setK_below HBe.out hg1 _ _) hg1 _ _
        have HGS : Hid (Below w6.heap.size w6 ((we.setCell ⟨g1, run * 2, none⟩ (.int .i64 n)).setCell ⟨g1, run * 2 + 1, none⟩ (.int .i64 n))) := setK_below (setK_below HGe.out hg6 _ _) hg6 _ _
        obtain ⟨⟨A, B⟩, hsp⟩ := span_err hv' hb' (sheepS (setRun p run ⟨n, n⟩) who run)
        have HSP := Lib.hid hsp
        have HWR := Lib.hid (wrong_setRun (r := run) HV.out HT.out (by rw [HRL.out]; exact run2) n0 (by omega : n ≤ 400))
        have HOS : Hid (OL = max (allS p run (-1)).lo RL ∧ OU = min (allS p run (-1)).hi RU) := by
          have h2 := HOG.out
          rw [outS, HRS.out] at h2
          injection h2 with h4 h5
          exact ⟨h4.symm, h5.symm⟩
        clear hgwe hcwe hfwe hv0 hvB HOe HXe u2 hv' hb' hsp
        go_wp2_with fail
        refine (PSheep_any (p := setRun p run ⟨n, n⟩) who run _ (by exact HPS.out)).mono ?_
        rw [HSP.out]
        by_cases hin : (allS p run (-1)).lo ≤ n ∧ n ≤ (allS p run (-1)).hi
        · rw [if_pos (HWR.out.2 hin)]
          have hBB : (decide (OL ≤ n) && decide (n ≤ OU)) = (decide (RL ≤ n) && decide (n ≤ RU)) := by
            have h1 := HOS.out
            have h2 : OL ≤ n ↔ RL ≤ n := by omega
            have h3 : n ≤ OU ↔ n ≤ RU := by omega
            simp only [h2, h3]
          obtain ⟨C, hB1⟩ : ∃ C, (decide (RL ≤ n) && decide (n ≤ RU)) = C := ⟨_, rfl⟩
          have HB1' := Lib.hid hB1
          have HB2' := Lib.hid (hBB.trans hB1)
          simp only [spV]
          rintro e wf ⟨rfl, hbf⟩
          have HBf : Hid (Below W.heap.size W wf) := HBS.out.trans (hbf.mono HBS.out.size)
          have HGf : Hid (Below w6.heap.size w6 wf) := HGS.out.trans (hbf.mono HGS.out.size)
          clear hbf z0 z1 z2 z3 z4 z5 z6 u0 u1 u3 q0 q1 hne hne' hin hBB hB1 hxl
          obtain ⟨x0, x1, x2, x3, x4, x5, x6, x7, x8⟩ := HF.out _ HBf.out
          obtain ⟨y0, y1, y2, y3, y4, y5⟩ := HG.out _ HGf.out
          obtain ⟨b', off', e1, hbl, R0, R1⟩ := (HPB.out _ HBf.out).hruns run _ HRG.out
          obtain ⟨rfl, rfl⟩ : b = b' ∧ off = off' := by simpa using e1
          clear e1
          have hfs : W.heap.size ≤ wf.heap.size := HBf.out.size
          have hfs6 : w6.heap.size ≤ wf.heap.size := HGf.out.size
          go_wp2
          cases C
          all_goals (
            refine wp_region_havoc [(0,false),(1,false),(2,false),(3,false),(4,false),(5,false),(6,false),(7,false),(8,false),(9,false),(10,false),(11,false),(12,false),(13,false),(14,false),(15,false),(16,false),(17,false),(18,false),(19,false),(20,false),(21,false),(22,false),(23,false)] [] (fun _ _ => False) (by kernel_rfl) (by kernel_rfl) (fun _ _ _ _ h => h.elim) ?_
            (apply hav_same (by simp only [List.getElem?_toArray, List.getElem?_cons_zero]; rfl) (by kernel_rfl); (focus (intro wv hgv _; have hcv : ∀ b o, b < _ → wv.cell? ⟨b, o, none⟩ = _ := fun b o hb => Below.cell hgv (p := ⟨b, o, none⟩) hb; go_simp; try rfl; done)); simp only [Act.put, List.setIfInBounds_toArray, List.set_cons_succ, List.set_cons_zero])
            iterate 8 (apply hav_same (by simp only [List.getElem?_toArray, List.getElem?_cons_succ, List.getElem?_cons_zero]; rfl) (by kernel_rfl); (focus (intro wv hgv _; have hcv : ∀ b o, b < _ → wv.cell? ⟨b, o, none⟩ = _ := fun b o hb => Below.cell hgv (p := ⟨b, o, none⟩) hb; go_simp; try rfl; done)); simp only [Act.put, List.setIfInBounds_toArray, List.set_cons_succ, List.set_cons_zero])
            (apply hav_call (by simp only [List.getElem?_toArray, List.getElem?_cons_succ, List.getElem?_cons_zero]; rfl) (by kernel_rfl); (focus (intro wv; go_simp; try exact ⟨rfl, rfl⟩; done)); (focus (intro wv hgv _; exact inside_is HB1'.out _; done)); simp only [Act.put, List.setIfInBounds_toArray, List.set_cons_succ, List.set_cons_zero])
            iterate 2 (apply hav_same (by simp only [List.getElem?_toArray, List.getElem?_cons_succ, List.getElem?_cons_zero]; rfl) (by kernel_rfl); (focus (intro wv hgv _; have hcv : ∀ b o, b < _ → wv.cell? ⟨b, o, none⟩ = _ := fun b o hb => Below.cell hgv (p := ⟨b, o, none⟩) hb; go_simp; try rfl; done)); simp only [Act.put, List.setIfInBounds_toArray, List.set_cons_succ, List.set_cons_zero])
            (apply hav_call (by simp only [List.getElem?_toArray, List.getElem?_cons_succ, List.getElem?_cons_zero]; rfl) (by kernel_rfl); (focus (intro wv; go_simp; try exact ⟨rfl, rfl⟩; done)); (focus (intro wv hgv _; exact inside_is HB2'.out _; done)); simp only [Act.put, List.setIfInBounds_toArray, List.set_cons_succ, List.set_cons_zero])
            iterate 6 (apply hav_same (by simp only [List.getElem?_toArray, List.getElem?_cons_succ, List.getElem?_cons_zero]; rfl) (by kernel_rfl); (focus (intro wv hgv _; have hcv : ∀ b o, b < _ → wv.cell? ⟨b, o, none⟩ = _ := fun b o hb => Below.cell hgv (p := ⟨b, o, none⟩) hb; go_simp; try rfl; done)); simp only [Act.put, List.setIfInBounds_toArray, List.set_cons_succ, List.set_cons_zero])
            iterate 3 (refine hav_skip (by simp only [List.getElem?_toArray, List.getElem?_cons_succ, List.getElem?_cons_zero]; rfl) (by kernel_rfl) ?_; simp only [Act.put, List.setIfInBounds_toArray, List.set_cons_succ, List.set_cons_zero])
            iterate 2 (apply hav_same (by simp only [List.getElem?_toArray, List.getElem?_cons_succ, List.getElem?_cons_zero]; rfl) (by kernel_rfl); (focus (intro wv hgv _; have hcv : ∀ b o, b < _ → wv.cell? ⟨b, o, none⟩ = _ := fun b o hb => Below.cell hgv (p := ⟨b, o, none⟩) hb; go_simp; try rfl; done)); simp only [Act.put, List.setIfInBounds_toArray, List.set_cons_succ, List.set_cons_zero])
            refine hav_end (fun wg hgwg _ => ?_); simp only [List.filterMap]; have hcwg : ∀ b o, b < _ → wg.cell? ⟨b, o, none⟩ = _ := fun b o hb => Below.cell hgwg (p := ⟨b, o, none⟩) hb; have hfwg : ∀ b o, b < _ → wg.frozen? ⟨b, o, none⟩ = _ := fun b o hb => Below.frozen hgwg (p := ⟨b, o, none⟩) hb; have hzwg := Below.size hgwg; (try simp at hzwg)
            have HBg : Hid (Below W.heap.size W wg) := (HBf.out.alloc hfs _).trans (hgwg.mono (by simp; omega))
            have HGg : Hid (Below w6.heap.size w6 wg) := (HGf.out.alloc hfs6 _).trans (hgwg.mono (by simp; omega))
            clear hgwg hcwg hfwg
            go_wp2
            go_roundw
            case rel => exact ⟨n + 1, by go_num, by omega, by omega, HBg.out, HGg.out⟩
            case measure => simp [intOf]; omega)
        · rw [if_neg (fun h => hin (HWR.out.1 h))]
          have HB2' : Hid ((decide (OL ≤ n) && decide (n ≤ OU)) = false) := by
            show _ = _
            have h1 := HOS.out
            by_cases h2 : OL ≤ n
            · rw [decide_eq_false (show ¬ n ≤ OU by omega), Bool.and_false]
            · rw [decide_eq_false h2, Bool.false_and]
          simp only [spV]
          rintro e wf ⟨rfl, hbf⟩
          have HBf : Hid (Below W.heap.size W wf) := HBS.out.trans (hbf.mono HBS.out.size)
          have HGf : Hid (Below w6.heap.size w6 wf) := HGS.out.trans (hbf.mono HGS.out.size)
          clear hbf z0 z1 z2 z3 z4 z5 z6 u0 u1 u3 q0 q1 hne hne' hin hxl
          obtain ⟨x0, x1, x2, x3, x4, x5, x6, x7, x8⟩ := HF.out _ HBf.out
          obtain ⟨y0, y1, y2, y3, y4, y5⟩ := HG.out _ HGf.out
          have hfs : W.heap.size ≤ wf.heap.size := HBf.out.size
          have hfs6 : w6.heap.size ≤ wf.heap.size := HGf.out.size
          go_wp2
          refine wp_region_havoc [(0,false),(1,false),(2,false),(3,false),(4,false),(5,false),(6,false),(7,false),(8,false),(9,false),(10,false),(11,false),(12,false),(13,false),(14,false),(15,false),(16,false),(17,false),(18,false),(19,false),(20,false),(21,false),(22,false),(23,false)] [] (fun _ _ => False) (by kernel_rfl) (by kernel_rfl) (fun _ _ _ _ h => h.elim) ?_
          (apply hav_same (by simp only [List.getElem?_toArray, List.getElem?_cons_zero]; rfl) (by kernel_rfl); (focus (intro wv hgv _; have hcv : ∀ b o, b < _ → wv.cell? ⟨b, o, none⟩ = _ := fun b o hb => Below.cell hgv (p := ⟨b, o, none⟩) hb; go_simp; try rfl; done)); simp only [Act.put, List.setIfInBounds_toArray, List.set_cons_succ, List.set_cons_zero])
          iterate 2 (apply hav_same (by simp only [List.getElem?_toArray, List.getElem?_cons_succ, List.getElem?_cons_zero]; rfl) (by kernel_rfl); (focus (intro wv hgv _; have hcv : ∀ b o, b < _ → wv.cell? ⟨b, o, none⟩ = _ := fun b o hb => Below.cell hgv (p := ⟨b, o, none⟩) hb; go_simp; try rfl; done)); simp only [Act.put, List.setIfInBounds_toArray, List.set_cons_succ, List.set_cons_zero])
          iterate 11 (refine hav_skip (by simp only [List.getElem?_toArray, List.getElem?_cons_succ, List.getElem?_cons_zero]; rfl) (by kernel_rfl) ?_; simp only [Act.put, List.setIfInBounds_toArray, List.set_cons_succ, List.set_cons_zero])
          iterate 7 (apply hav_same (by simp only [List.getElem?_toArray, List.getElem?_cons_succ, List.getElem?_cons_zero]; rfl) (by kernel_rfl); (focus (intro wv hgv _; have hcv : ∀ b o, b < _ → wv.cell? ⟨b, o, none⟩ = _ := fun b o hb => Below.cell hgv (p := ⟨b, o, none⟩) hb; go_simp; try rfl; done)); simp only [Act.put, List.setIfInBounds_toArray, List.set_cons_succ, List.set_cons_zero])
          (apply hav_call (by simp only [List.getElem?_toArray, List.getElem?_cons_succ, List.getElem?_cons_zero]; rfl) (by kernel_rfl); (focus (intro wv; go_simp; try exact ⟨rfl, rfl⟩; done)); (focus (intro wv hgv _; exact inside_is HB2'.out _; done)); simp only [Act.put, List.setIfInBounds_toArray, List.set_cons_succ, List.set_cons_zero])
          iterate 2 (apply hav_same (by simp only [List.getElem?_toArray, List.getElem?_cons_succ, List.getElem?_cons_zero]; rfl) (by kernel_rfl); (focus (intro wv hgv _; have hcv : ∀ b o, b < _ → wv.cell? ⟨b, o, none⟩ = _ := fun b o hb => Below.cell hgv (p := ⟨b, o, none⟩) hb; go_simp; try rfl; done)); simp only [Act.put, List.setIfInBounds_toArray, List.set_cons_succ, List.set_cons_zero])
          refine hav_end (fun wg hgwg _ => ?_); simp only [List.filterMap]; have hcwg : ∀ b o, b < _ → wg.cell? ⟨b, o, none⟩ = _ := fun b o hb => Below.cell hgwg (p := ⟨b, o, none⟩) hb; have hfwg : ∀ b o, b < _ → wg.frozen? ⟨b, o, none⟩ = _ := fun b o hb => Below.frozen hgwg (p := ⟨b, o, none⟩) hb; have hzwg := Below.size hgwg; (try simp at hzwg)
          have HBg : Hid (Below W.heap.size W wg) := (HBf.out.alloc hfs _).trans (hgwg.mono (by simp; omega))
          have HGg : Hid (Below w6.heap.size w6 wg) := (HGf.out.alloc hfs6 _).trans (hgwg.mono (by simp; omega))
          clear hgwg hcwg hfwg
          go_wp2
          go_roundw
          case rel => exact ⟨n + 1, by go_num, by omega, by omega, HBg.out, HGg.out⟩
          case measure => simp [intOf]; omega
      · go_wp2_with fail
        refine (awake_any _ (by exact HR.out.below (HBW.out.trans (HBR.out.mono (by omega))))).mono ?_
        rintro e wz ⟨rfl, hbz⟩
        go_wp2
        go_ret
        exact ⟨rfl, HBW.out.trans ((HBR.out.trans (hbz.mono HBR.out.size)).mono (by omega))⟩
  · obtain ⟨N, rfl⟩ : ∃ N : Nat, SI = N := ⟨SI.toNat, by omega⟩
    obtain ⟨d, hd, e1, e2, _⟩ := stands_call HSI.out
    have HD := Lib.hid hd
    obtain ⟨dw, dr, ⟨CL, CU⟩, ds⟩ := d
    obtain ⟨c0, c1, c2⟩ : 0 ≤ CL ∧ CL ≤ CU ∧ CU ≤ 100 := by
      have h := calledS_ok HV.out who run
      rw [called_of HSI.out hd] at h
      exact h
    clear e1 e2 hd
    have hd0 : decide ((N : Int) < 0) = false := decide_eq_false hs
    have sC : N < cl := by omega
    go_wp2
    refine wp_region_havoc [(0,false),(1,false),(2,false),(3,false),(4,false),(5,false),(6,false),(7,false),(8,false),(9,false),(10,false),(11,false),(12,false),(13,false),(14,false),(15,false),(16,false),(17,false),(18,false),(19,false),(20,false),(21,false),(22,false),(23,false),(24,false),(25,false),(26,false),(27,false),(28,false),(29,false),(30,false),(31,false),(32,false),(33,false),(34,false),(35,false)] [] (fun _ _ => False) (by kernel_rfl) (by kernel_rfl) (fun _ _ _ _ h => h.elim) ?_
    (apply hav_same (by simp only [List.getElem?_toArray, List.getElem?_cons_zero]; rfl) (by kernel_rfl); (focus (intro wv hgv _; have hcv : ∀ b o, b < _ → wv.cell? ⟨b, o, none⟩ = _ := fun b o hb => Below.cell hgv (p := ⟨b, o, none⟩) hb; go_simp; try rfl; done)); simp only [Act.put, List.setIfInBounds_toArray, List.set_cons_succ, List.set_cons_zero])
    iterate 2 (apply hav_same (by simp only [List.getElem?_toArray, List.getElem?_cons_succ, List.getElem?_cons_zero]; rfl) (by kernel_rfl); (focus (intro wv hgv _; have hcv : ∀ b o, b < _ → wv.cell? ⟨b, o, none⟩ = _ := fun b o hb => Below.cell hgv (p := ⟨b, o, none⟩) hb; go_simp; try rfl; done)); simp only [Act.put, List.setIfInBounds_toArray, List.set_cons_succ, List.set_cons_zero])
    iterate 3 (refine hav_skip (by simp only [List.getElem?_toArray, List.getElem?_cons_succ, List.getElem?_cons_zero]; rfl) (by kernel_rfl) ?_; simp only [Act.put, List.setIfInBounds_toArray, List.set_cons_succ, List.set_cons_zero])
    iterate 30 (apply hav_same (by simp only [List.getElem?_toArray, List.getElem?_cons_succ, List.getElem?_cons_zero]; rfl) (by kernel_rfl); (focus (intro wv hgv _; have hcv : ∀ b o, b < _ → wv.cell? ⟨b, o, none⟩ = _ := fun b o hb => Below.cell hgv (p := ⟨b, o, none⟩) hb; go_simp; try rfl; done)); simp only [Act.put, List.setIfInBounds_toArray, List.set_cons_succ, List.set_cons_zero])
    refine hav_end (fun w8 hgw8 _ => ?_); simp only [List.filterMap]; have hcw8 : ∀ b o, b < _ → w8.cell? ⟨b, o, none⟩ = _ := fun b o hb => Below.cell hgw8 (p := ⟨b, o, none⟩) hb; have hfw8 : ∀ b o, b < _ → w8.frozen? ⟨b, o, none⟩ = _ := fun b o hb => Below.frozen hgw8 (p := ⟨b, o, none⟩) hb; have hzw8 := Below.size hgw8; (try simp at hzw8)
    have HBt : Hid (Below W.heap.size W w8) := HB7.out.trans (hgw8.mono HB7.out.size)
    have HGt : Hid (Below w6.heap.size w6 w8) := HG7.out.trans (hgw8.mono HG7.out.size)
    clear hgw8 hcw8 hfw8 x0 x1 x2 x3 x4 x5 x6 x7 x8 y0 y1 y2 y3 y4 y5 hd1 hd2 hd3 R0 R1 hbl
    obtain ⟨x0, x1, x2, x3, x4, x5, x6, x7, x8⟩ := HF.out _ HBt.out
    obtain ⟨y0, y1, y2, y3, y4, y5⟩ := HG.out _ HGt.out
    obtain ⟨b2, off2, rfl, hbl, H0, H1, H2, H3, H4⟩ := (HPB.out _ HBt.out).hcalls N _ HD.out
    simp only at H0 H1 H2 H3 H4
    go_wp2
    clear x0 x1 x2 x3 x4 x5 x6 x7 x8 y0 y1 y2 y3 y4 y5 H0 H1 H2 H3 H4 hbl
    go_loopw [16] (fun v wr => ∃ n : Int, v = .int .i64 n ∧ CL ≤ n ∧ n ≤ CU + 1 ∧ Hid (Below W.heap.size W wr) ∧ Hid (Below w6.heap.size w6 wr)) (fun v _ => (CU + 1 - intOf v).toNat)
    case atStart => exact ⟨CL, rfl, Int.le_refl _, by omega, HBt.out, HGt.out⟩
    case round =>
      obtain ⟨n, rfl, n0, n1, HBR, HGR⟩ := hrel
      obtain ⟨x0, x1, x2, x3, x4, x5, x6, x7, x8⟩ := HF.out _ HBR.out
      obtain ⟨y0, y1, y2, y3, y4, y5⟩ := HG.out _ HGR.out
      obtain ⟨b3, off3, e3, hbl, H0, H1, H2, H3, H4⟩ := (HPB.out _ HBR.out).hcalls N _ HD.out
      obtain ⟨rfl, rfl⟩ : b2 = b3 ∧ off2 = off3 := by simpa using e3
      clear e3
      simp only at H0 H1 H2 H3 H4
      by_cases hle : n ≤ CU
      · go_wp2_with fail
        refine (copied_any (p := p) _ (by exact HPB.out _ HBR.out) (by omega) (by omega) (by omega) (by omega)).mono ?_
        simp only [payV]
        rintro e wd ⟨⟨g1, c1', g2, c2', g3, c3, g4, c4, rfl, HOd⟩, hbd⟩
        have HBd : Hid (Below W.heap.size W wd) := HBR.out.trans (hbd.mono HBR.out.size)
        have HGd : Hid (Below w6.heap.size w6 wd) := HGR.out.trans (hbd.mono HGR.out.size)
        have HOd' := Lib.hid HOd
        clear hbd x0 x1 x2 x3 x4 x5 x6 x7 x8 y0 y1 y2 y3 y4 y5 HOd H0 H1 H2 H3 H4 hbl
        have hwd : W.heap.size ≤ wd.heap.size := HBd.out.size
        have hwd6 : w6.heap.size ≤ wd.heap.size := HGd.out.size
        go_wp2
        refine wp_region_havoc [(0,false),(1,false),(2,false),(3,false),(4,false),(5,false),(6,false),(7,false)] [8] (fun _ _ => False) (by kernel_rfl) (by kernel_rfl) (fun _ _ _ _ h => h.elim) ?_
        (apply hav_same (by simp only [List.getElem?_toArray, List.getElem?_cons_zero]; rfl) (by kernel_rfl); (focus (intro wv hgv _; have hcv : ∀ b o, b < _ → wv.cell? ⟨b, o, none⟩ = _ := fun b o hb => Below.cell hgv (p := ⟨b, o, none⟩) hb; go_simp; try rfl; done)); simp only [Act.put, List.setIfInBounds_toArray, List.set_cons_succ, List.set_cons_zero])
        iterate 4 (apply hav_same (by simp only [List.getElem?_toArray, List.getElem?_cons_succ, List.getElem?_cons_zero]; rfl) (by kernel_rfl); (focus (intro wv hgv _; have hcv : ∀ b o, b < _ → wv.cell? ⟨b, o, none⟩ = _ := fun b o hb => Below.cell hgv (p := ⟨b, o, none⟩) hb; go_simp; try rfl; done)); simp only [Act.put, List.setIfInBounds_toArray, List.set_cons_succ, List.set_cons_zero])
        (apply hav_call (by simp only [List.getElem?_toArray, List.getElem?_cons_succ, List.getElem?_cons_zero]; rfl) (by kernel_rfl); (focus (intro wv; go_simp; try exact ⟨rfl, rfl⟩; done)); (focus (intro wv hgv _; exact lspan_agg _ _ _; done)); simp only [Act.put, List.setIfInBounds_toArray, List.set_cons_succ, List.set_cons_zero])
        iterate 2 (apply hav_same (by simp only [List.getElem?_toArray, List.getElem?_cons_succ, List.getElem?_cons_zero]; rfl) (by kernel_rfl); (focus (intro wv hgv _; have hcv : ∀ b o, b < _ → wv.cell? ⟨b, o, none⟩ = _ := fun b o hb => Below.cell hgv (p := ⟨b, o, none⟩) hb; go_simp; try rfl; done)); simp only [Act.put, List.setIfInBounds_toArray, List.set_cons_succ, List.set_cons_zero])
        refine hav_end (fun we hgwe _ => ?_); simp only [List.filterMap]; have hcwe : ∀ b o, b < _ → we.cell? ⟨b, o, none⟩ = _ := fun b o hb => Below.cell hgwe (p := ⟨b, o, none⟩) hb; have hfwe : ∀ b o, b < _ → we.frozen? ⟨b, o, none⟩ = _ := fun b o hb => Below.frozen hgwe (p := ⟨b, o, none⟩) hb; have hzwe := Below.size hgwe; (try simp at hzwe)
        simp only [List.getElem?_toArray, List.getElem?_cons_succ, List.getElem?_cons_zero]
        have hv0 := (HOd'.out.callCells HD.out).2.2.2
        have hvB := HBR.out.size
        have HOe : OwnPay we _ p g1 c1' g2 c2' g3 c3 g4 c4 := (HOd'.out.below ((Below.refl _ _).alloc (Nat.le_refl _) _)).below hgwe
        have HXe : Blk we wd.heap.size 27 (payCs people (some ⟨g1, 0, none⟩) rl c1' (some ⟨g2, 0, none⟩) cl c2' rate bill (some ⟨g3, 0, none⟩) dl c3 (some ⟨g4, 0, none⟩) pl c4) := (Blk.new_ rfl _ _).below hgwe (by simp)
        have HBe : Hid (Below W.heap.size W we) := (HBd.out.alloc hwd _).trans (hgwe.mono (by simp; omega))
        have HGe : Hid (Below w6.heap.size w6 we) := (HGd.out.alloc hwd6 _).trans (hgwe.mono (by simp; omega))
        obtain ⟨u0, u1, u2, u3, _⟩ := HOe.callCells HD.out
        have q0 := u2 (N * 5 + 2)
        have q1 := u2 (N * 5 + 3)
        simp only at u0 u1
        have hne : ¬ g2 = wd.heap.size := by omega
        have hne' : ¬ wd.heap.size = g2 := by omega
        have hg2 : W.heap.size ≤ g2 := by omega
        have hg6 : w6.heap.size ≤ g2 := by have := HGR.out.size; omega
        have z0 := HXe.cell 0
        have z1 := HXe.cell 1
        have z2 := HXe.cell 2
        have z3 := HXe.cell 3
        have z4 := HXe.cell 4
        have z5 := HXe.cell 5
        have z6 := HXe.cell 6
        simp [payCs] at z0 z1 z2 z3 z4 z5 z6
        have hxl : wd.heap.size < we.heap.size := HXe.lt
        have hv' := payB_setSh HV.out HD.out (n := n) (m := n) (by omega) (Int.le_refl _) (by omega)
        have hb' : runB (setSh p N ⟨dw, dr, ⟨CL, CU⟩, ds⟩ ⟨n, n⟩) run = true := HRB.out
        have HPS : Hid (PayIn ((we.setCell ⟨g2, N * 5 + 2, none⟩ (.int .i64 n)).setCell ⟨g2, N * 5 + 3, none⟩ (.int .i64 n)) ((we.setCell ⟨g2, N * 5 + 2, none⟩ (.int .i64 n)).setCell ⟨g2, N * 5 + 3, none⟩ (.int .i64 n)).heap.size people (some ⟨g1, 0, none⟩) rl (some ⟨g2, 0, none⟩) cl rate bill (some ⟨g3, 0, none⟩) dl (some ⟨g4, 0, none⟩) pl (setSh p N ⟨dw, dr, ⟨CL, CU⟩, ds⟩ ⟨n, n⟩)) :=
          (HOe.setSh HD.out).payIn (people := people) (rl := rl) (cl := cl) (rate := rate) (bill := bill) (dl := dl) (pl := pl) hv' HPE.out HRL.out (by show (p.calls.set N _).length = cl; rw [List.length_set, HCL.out]) HP.out.erate HP.out.ebill HP.out.edl HP.out.epl
        have HBS : Hid (Below W.heap.size W ((we.setCell ⟨g2, N * 5 + 2, none⟩ (.int .i64 n)).setCell ⟨g2, N * 5 + 3, none⟩ (.int .i64 n))) := setK_below (setK_below HBe.out hg2 _ _) hg2 _ _
        have HGS : Hid (Below w6.heap.size w6 ((we.setCell ⟨g2, N * 5 + 2, none⟩ (.int .i64 n)).setCell ⟨g2, N * 5 + 3, none⟩ (.int .i64 n))) := setK_below (setK_below HGe.out hg6 _ _) hg6 _ _
        obtain ⟨⟨A, B⟩, hsp⟩ := span_err hv' hb' (outS (setSh p N ⟨dw, dr, ⟨CL, CU⟩, ds⟩ ⟨n, n⟩) run)
        have HSP := Lib.hid hsp
        have hwr := wrong_setSh (who := who) (run := run) HV.out HT.out who0 (by rw [HPE.out]; exact who1) (by omega) (by rw [HRL.out]; exact run1) HSI.out HD.out n0 hle
        rw [HSG.out] at hwr
        simp only at hwr
        have HWR := Lib.hid hwr
        clear hgwe hcwe hfwe hv0 hvB HOe HXe u2 hv' hb' hsp hwr
        go_wp2_with fail
        refine (POut_any (p := setSh p N ⟨dw, dr, ⟨CL, CU⟩, ds⟩ ⟨n, n⟩) run _ (by exact HPS.out)).mono ?_
        rw [HSP.out]
        obtain ⟨E, C, HE, hB, hEC⟩ : ∃ (E : Int) (C : Bool), Hid ((if wrongI (setSh p N ⟨dw, dr, ⟨CL, CU⟩, ds⟩ ⟨n, n⟩) = 0 then (0 : Int) else 10) = E) ∧ Hid ((decide (SL ≤ n) && decide (n ≤ SU)) = C) ∧ (E = 0 ∧ C = true ∨ E = 10 ∧ C = false) := by
          refine ⟨_, _, rfl, rfl, ?_⟩
          by_cases h : wrongI (setSh p N ⟨dw, dr, ⟨CL, CU⟩, ds⟩ ⟨n, n⟩) = 0
          · obtain ⟨h1, h2⟩ := HWR.out.1 h
            exact .inl ⟨if_pos h, by rw [decide_eq_true h1, decide_eq_true h2]; rfl⟩
          · refine .inr ⟨if_neg h, ?_⟩
            by_cases h1 : SL ≤ n
            · by_cases h2 : n ≤ SU
              · exact absurd (HWR.out.2 ⟨h1, h2⟩) h
              · rw [decide_eq_false h2, Bool.and_false]
            · rw [decide_eq_false h1, Bool.false_and]
        rw [HE.out]
        simp only [spV]
        rintro e wf ⟨rfl, hbf⟩
        have HBf : Hid (Below W.heap.size W wf) := HBS.out.trans (hbf.mono HBS.out.size)
        have HGf : Hid (Below w6.heap.size w6 wf) := HGS.out.trans (hbf.mono HGS.out.size)
        clear hbf z0 z1 z2 z3 z4 z5 z6 u0 u1 u3 q0 q1 hne hne' hxl
        obtain ⟨y0, y1, y2, y3, y4, y5⟩ := HG.out _ HGf.out
        have hfs : W.heap.size ≤ wf.heap.size := HBf.out.size
        have hfs6 : w6.heap.size ≤ wf.heap.size := HGf.out.size
        go_wp2_with fail
        refine (inside_is hB.out _).mono ?_
        rintro e wg ⟨rfl, hbg⟩
        have HBg : Hid (Below W.heap.size W wg) := (HBf.out.alloc hfs _).trans (hbg.mono (by simp; omega))
        have HGg : Hid (Below w6.heap.size w6 wg) := (HGf.out.alloc hfs6 _).trans (hbg.mono (by simp; omega))
        clear hbg
        rcases hEC with ⟨rfl, rfl⟩ | ⟨rfl, rfl⟩
        all_goals (
          go_wp2
          go_roundw
          case rel => exact ⟨n + 1, by go_num, by omega, by omega, HBg.out, HGg.out⟩
          case measure => simp [intOf]; omega)
      · have HBt := HBR
        have HGt := HGR
        obtain ⟨LO, hlo, lo0, lo1⟩ : ∃ LO : Int, (∀ w, (Builtin.max_ #[3, 3] 3 #[.int .i64 0, .int .i64 (OL - 2)]).run Tryd.prog w = .ok (.int .i64 LO) w) ∧ 0 ≤ LO ∧ LO ≤ 401 := by
          by_cases h : 0 < OL - 2
          · exact ⟨OL - 2, fun w => by simp [Builtin.max_, Builtin.max2]; omega, by omega, by omega⟩
          · exact ⟨0, fun w => by simp [Builtin.max_, Builtin.max2]; omega, by omega, by omega⟩
        obtain ⟨HI, hhi, hi1⟩ : ∃ HI : Int, (∀ w, (Builtin.min_ #[3, 3] 3 #[.int .i64 400, .int .i64 (OU + 2)]).run Tryd.prog w = .ok (.int .i64 HI) w) ∧ HI ≤ 400 := by
          by_cases h : OU + 2 < 400
          · exact ⟨OU + 2, fun w => by simp [Builtin.min_, Builtin.min2, h], by omega⟩
          · exact ⟨400, fun w => by simp [Builtin.min_, Builtin.min2, h], by omega⟩
        have HHI := Lib.hid hhi
        clear hhi
        go_wp2
        clear hlo x0 x1 x2 x3 x4 x5 x6 x7 x8 y0 y1 y2 y3 y4 y5
        go_loopw [20] (fun v wr => ∃ n : Int, v = .int .i64 n ∧ 0 ≤ n ∧ n ≤ 401 ∧ Hid (Below W.heap.size W wr) ∧ Hid (Below w6.heap.size w6 wr)) (fun v _ => (402 - intOf v).toNat)
        case atStart => exact ⟨LO, rfl, lo0, lo1, HBt.out, HGt.out⟩
        case round =>
          obtain ⟨n, rfl, n0, n1, HBR, HGR⟩ := hrel
          obtain ⟨x0, x1, x2, x3, x4, x5, x6, x7, x8⟩ := HF.out _ HBR.out
          obtain ⟨y0, y1, y2, y3, y4, y5⟩ := HG.out _ HGR.out
          have hhi := HHI.out
          by_cases hle : n ≤ HI
          · go_wp2_with fail
            refine (copied_any (p := p) _ (by exact HPB.out _ HBR.out) (by omega) (by omega) (by omega) (by omega)).mono ?_
            simp only [payV]
            rintro e wd ⟨⟨g1, c1, g2, c2, g3, c3, g4, c4, rfl, HOd⟩, hbd⟩
            have HBd : Hid (Below W.heap.size W wd) := HBR.out.trans (hbd.mono HBR.out.size)
            have HGd : Hid (Below w6.heap.size w6 wd) := HGR.out.trans (hbd.mono HGR.out.size)
            have HOd' := Lib.hid HOd
            clear hbd hhi x0 x1 x2 x3 x4 x5 x6 x7 x8 y0 y1 y2 y3 y4 y5 HOd
            have hwd : W.heap.size ≤ wd.heap.size := HBd.out.size
            have hwd6 : w6.heap.size ≤ wd.heap.size := HGd.out.size
            go_wp2
            refine wp_region_havoc [(0,false),(1,false),(2,false),(3,false),(4,false),(5,false),(6,false)] [7] (fun _ _ => False) (by kernel_rfl) (by kernel_rfl) (fun _ _ _ _ h => h.elim) ?_
            (apply hav_same (by simp only [List.getElem?_toArray, List.getElem?_cons_zero]; rfl) (by kernel_rfl); (focus (intro wv hgv _; have hcv : ∀ b o, b < _ → wv.cell? ⟨b, o, none⟩ = _ := fun b o hb => Below.cell hgv (p := ⟨b, o, none⟩) hb; go_simp; try rfl; done)); simp only [Act.put, List.setIfInBounds_toArray, List.set_cons_succ, List.set_cons_zero])
            iterate 4 (apply hav_same (by simp only [List.getElem?_toArray, List.getElem?_cons_succ, List.getElem?_cons_zero]; rfl) (by kernel_rfl); (focus (intro wv hgv _; have hcv : ∀ b o, b < _ → wv.cell? ⟨b, o, none⟩ = _ := fun b o hb => Below.cell hgv (p := ⟨b, o, none⟩) hb; go_simp; try rfl; done)); simp only [Act.put, List.setIfInBounds_toArray, List.set_cons_succ, List.set_cons_zero])
            (apply hav_call (by simp only [List.getElem?_toArray, List.getElem?_cons_succ, List.getElem?_cons_zero]; rfl) (by kernel_rfl); (focus (intro wv; go_simp; try exact ⟨rfl, rfl⟩; done)); (focus (intro wv hgv _; exact lspan_agg _ _ _; done)); simp only [Act.put, List.setIfInBounds_toArray, List.set_cons_succ, List.set_cons_zero])
            (apply hav_same (by simp only [List.getElem?_toArray, List.getElem?_cons_succ, List.getElem?_cons_zero]; rfl) (by kernel_rfl); (focus (intro wv hgv _; have hcv : ∀ b o, b < _ → wv.cell? ⟨b, o, none⟩ = _ := fun b o hb => Below.cell hgv (p := ⟨b, o, none⟩) hb; go_simp; try rfl; done)); simp only [Act.put, List.setIfInBounds_toArray, List.set_cons_succ, List.set_cons_zero])
            refine hav_end (fun we hgwe _ => ?_); simp only [List.filterMap]; have hcwe : ∀ b o, b < _ → we.cell? ⟨b, o, none⟩ = _ := fun b o hb => Below.cell hgwe (p := ⟨b, o, none⟩) hb; have hfwe : ∀ b o, b < _ → we.frozen? ⟨b, o, none⟩ = _ := fun b o hb => Below.frozen hgwe (p := ⟨b, o, none⟩) hb; have hzwe := Below.size hgwe; (try simp at hzwe)
            simp only [List.getElem?_toArray, List.getElem?_cons_succ, List.getElem?_cons_zero]
            have hv0 := (HOd'.out.runCells HRG.out).2.2.2
            have hvB := HBR.out.size
            have HOe : OwnPay we _ p g1 c1 g2 c2 g3 c3 g4 c4 := (HOd'.out.below ((Below.refl _ _).alloc (Nat.le_refl _) _)).below hgwe
            have HXe : Blk we wd.heap.size 27 (payCs people (some ⟨g1, 0, none⟩) rl c1 (some ⟨g2, 0, none⟩) cl c2 rate bill (some ⟨g3, 0, none⟩) dl c3 (some ⟨g4, 0, none⟩) pl c4) := (Blk.new_ rfl _ _).below hgwe (by simp)
            have HBe : Hid (Below W.heap.size W we) := (HBd.out.alloc hwd _).trans (hgwe.mono (by simp; omega))
            have HGe : Hid (Below w6.heap.size w6 we) := (HGd.out.alloc hwd6 _).trans (hgwe.mono (by simp; omega))
            obtain ⟨u0, u1, u2, u3, _⟩ := HOe.runCells HRG.out
            have q0 := u2 (run * 2)
            have q1 := u2 (run * 2 + 1)
            have hne : ¬ g1 = wd.heap.size := by omega
            have hne' : ¬ wd.heap.size = g1 := by omega
            have hg1 : W.heap.size ≤ g1 := by omega
            have hg6 : w6.heap.size ≤ g1 := by have := HGR.out.size; omega
            have z0 := HXe.cell 0
            have z1 := HXe.cell 1
            have z2 := HXe.cell 2
            have z3 := HXe.cell 3
            have z4 := HXe.cell 4
            have z5 := HXe.cell 5
            have z6 := HXe.cell 6
            simp [payCs] at z0 z1 z2 z3 z4 z5 z6
            have hxl : wd.heap.size < we.heap.size := HXe.lt
            have hv' := setRun_payB HV.out run n n0 (by omega)
            have hb' : (whoB (setRun p run ⟨n, n⟩) who && runB (setRun p run ⟨n, n⟩) run) = true := by
              rw [show whoB (setRun p run ⟨n, n⟩) who = whoB p who from rfl, show runB (setRun p run ⟨n, n⟩) run = runB p run by simp [runB, setRun], HWB.out, HRB.out]; rfl
            have HPS : Hid (PayIn ((we.setCell ⟨g1, run * 2, none⟩ (.int .i64 n)).setCell ⟨g1, run * 2 + 1, none⟩ (.int .i64 n)) ((we.setCell ⟨g1, run * 2, none⟩ (.int .i64 n)).setCell ⟨g1, run * 2 + 1, none⟩ (.int .i64 n)).heap.size people (some ⟨g1, 0, none⟩) rl (some ⟨g2, 0, none⟩) cl rate bill (some ⟨g3, 0, none⟩) dl (some ⟨g4, 0, none⟩) pl (setRun p run ⟨n, n⟩)) :=
              (HOe.setRun HRG.out).payIn (people := people) (rl := rl) (cl := cl) (rate := rate) (bill := bill) (dl := dl) (pl := pl) hv' HPE.out (by show (p.runs.set run _).length = rl; rw [List.length_set, HRL.out]) HCL.out HP.out.erate HP.out.ebill HP.out.edl HP.out.epl
            have HBS : Hid (Below W.heap.size W ((we.setCell ⟨g1, run * 2, none⟩ (.int .i64 n)).setCell ⟨g1, run * 2 + 1, none⟩ (.int .i64 n))) := setK_below (setK_below HBe.out hg1 _ _) hg1 _ _
            have HGS : Hid (Below w6.heap.size w6 ((we.setCell ⟨g1, run * 2, none⟩ (.int .i64 n)).setCell ⟨g1, run * 2 + 1, none⟩ (.int .i64 n))) := setK_below (setK_below HGe.out hg6 _ _) hg6 _ _
            obtain ⟨⟨A, B⟩, hsp⟩ := span_err hv' hb' (sheepS (setRun p run ⟨n, n⟩) who run)
            have HSP := Lib.hid hsp
            have HWR := Lib.hid (wrong_setRun (r := run) HV.out HT.out (by rw [HRL.out]; exact run2) n0 (by omega : n ≤ 400))
            have HOS : Hid (OL = max (allS p run (-1)).lo RL ∧ OU = min (allS p run (-1)).hi RU) := by
              have h2 := HOG.out
              rw [outS, HRS.out] at h2
              injection h2 with h4 h5
              exact ⟨h4.symm, h5.symm⟩
            clear hgwe hcwe hfwe hv0 hvB HOe HXe u2 hv' hb' hsp
            go_wp2_with fail
            refine (PSheep_any (p := setRun p run ⟨n, n⟩) who run _ (by exact HPS.out)).mono ?_
            rw [HSP.out]
            by_cases hin : (allS p run (-1)).lo ≤ n ∧ n ≤ (allS p run (-1)).hi
            · rw [if_pos (HWR.out.2 hin)]
              have hBB : (decide (OL ≤ n) && decide (n ≤ OU)) = (decide (RL ≤ n) && decide (n ≤ RU)) := by
                have h1 := HOS.out
                have h2 : OL ≤ n ↔ RL ≤ n := by omega
                have h3 : n ≤ OU ↔ n ≤ RU := by omega
                simp only [h2, h3]
              obtain ⟨C, hB1⟩ : ∃ C, (decide (RL ≤ n) && decide (n ≤ RU)) = C := ⟨_, rfl⟩
              have HB1' := Lib.hid hB1
              have HB2' := Lib.hid (hBB.trans hB1)
              simp only [spV]
              rintro e wf ⟨rfl, hbf⟩
              have HBf : Hid (Below W.heap.size W wf) := HBS.out.trans (hbf.mono HBS.out.size)
              have HGf : Hid (Below w6.heap.size w6 wf) := HGS.out.trans (hbf.mono HGS.out.size)
              clear hbf z0 z1 z2 z3 z4 z5 z6 u0 u1 u3 q0 q1 hne hne' hin hBB hB1 hxl
              obtain ⟨x0, x1, x2, x3, x4, x5, x6, x7, x8⟩ := HF.out _ HBf.out
              obtain ⟨y0, y1, y2, y3, y4, y5⟩ := HG.out _ HGf.out
              obtain ⟨b', off', e1, hbl, R0, R1⟩ := (HPB.out _ HBf.out).hruns run _ HRG.out
              obtain ⟨rfl, rfl⟩ : b = b' ∧ off = off' := by simpa using e1
              clear e1
              have hfs : W.heap.size ≤ wf.heap.size := HBf.out.size
              have hfs6 : w6.heap.size ≤ wf.heap.size := HGf.out.size
              go_wp2
              cases C
              all_goals (
                refine wp_region_havoc [(0,false),(1,false),(2,false),(3,false),(4,false),(5,false),(6,false),(7,false),(8,false),(9,false),(10,false),(11,false),(12,false),(13,false),(14,false),(15,false),(16,false),(17,false),(18,false),(19,false),(20,false),(21,false),(22,false),(23,false)] [] (fun _ _ => False) (by kernel_rfl) (by kernel_rfl) (fun _ _ _ _ h => h.elim) ?_
                (apply hav_same (by simp only [List.getElem?_toArray, List.getElem?_cons_zero]; rfl) (by kernel_rfl); (focus (intro wv hgv _; have hcv : ∀ b o, b < _ → wv.cell? ⟨b, o, none⟩ = _ := fun b o hb => Below.cell hgv (p := ⟨b, o, none⟩) hb; go_simp; try rfl; done)); simp only [Act.put, List.setIfInBounds_toArray, List.set_cons_succ, List.set_cons_zero])
                iterate 8 (apply hav_same (by simp only [List.getElem?_toArray, List.getElem?_cons_succ, List.getElem?_cons_zero]; rfl) (by kernel_rfl); (focus (intro wv hgv _; have hcv : ∀ b o, b < _ → wv.cell? ⟨b, o, none⟩ = _ := fun b o hb => Below.cell hgv (p := ⟨b, o, none⟩) hb; go_simp; try rfl; done)); simp only [Act.put, List.setIfInBounds_toArray, List.set_cons_succ, List.set_cons_zero])
                (apply hav_call (by simp only [List.getElem?_toArray, List.getElem?_cons_succ, List.getElem?_cons_zero]; rfl) (by kernel_rfl); (focus (intro wv; go_simp; try exact ⟨rfl, rfl⟩; done)); (focus (intro wv hgv _; exact inside_is HB1'.out _; done)); simp only [Act.put, List.setIfInBounds_toArray, List.set_cons_succ, List.set_cons_zero])
                iterate 2 (apply hav_same (by simp only [List.getElem?_toArray, List.getElem?_cons_succ, List.getElem?_cons_zero]; rfl) (by kernel_rfl); (focus (intro wv hgv _; have hcv : ∀ b o, b < _ → wv.cell? ⟨b, o, none⟩ = _ := fun b o hb => Below.cell hgv (p := ⟨b, o, none⟩) hb; go_simp; try rfl; done)); simp only [Act.put, List.setIfInBounds_toArray, List.set_cons_succ, List.set_cons_zero])
                (apply hav_call (by simp only [List.getElem?_toArray, List.getElem?_cons_succ, List.getElem?_cons_zero]; rfl) (by kernel_rfl); (focus (intro wv; go_simp; try exact ⟨rfl, rfl⟩; done)); (focus (intro wv hgv _; exact inside_is HB2'.out _; done)); simp only [Act.put, List.setIfInBounds_toArray, List.set_cons_succ, List.set_cons_zero])
                iterate 6 (apply hav_same (by simp only [List.getElem?_toArray, List.getElem?_cons_succ, List.getElem?_cons_zero]; rfl) (by kernel_rfl); (focus (intro wv hgv _; have hcv : ∀ b o, b < _ → wv.cell? ⟨b, o, none⟩ = _ := fun b o hb => Below.cell hgv (p := ⟨b, o, none⟩) hb; go_simp; try rfl; done)); simp only [Act.put, List.setIfInBounds_toArray, List.set_cons_succ, List.set_cons_zero])
                iterate 3 (refine hav_skip (by simp only [List.getElem?_toArray, List.getElem?_cons_succ, List.getElem?_cons_zero]; rfl) (by kernel_rfl) ?_; simp only [Act.put, List.setIfInBounds_toArray, List.set_cons_succ, List.set_cons_zero])
                iterate 2 (apply hav_same (by simp only [List.getElem?_toArray, List.getElem?_cons_succ, List.getElem?_cons_zero]; rfl) (by kernel_rfl); (focus (intro wv hgv _; have hcv : ∀ b o, b < _ → wv.cell? ⟨b, o, none⟩ = _ := fun b o hb => Below.cell hgv (p := ⟨b, o, none⟩) hb; go_simp; try rfl; done)); simp only [Act.put, List.setIfInBounds_toArray, List.set_cons_succ, List.set_cons_zero])
                refine hav_end (fun wg hgwg _ => ?_); simp only [List.filterMap]; have hcwg : ∀ b o, b < _ → wg.cell? ⟨b, o, none⟩ = _ := fun b o hb => Below.cell hgwg (p := ⟨b, o, none⟩) hb; have hfwg : ∀ b o, b < _ → wg.frozen? ⟨b, o, none⟩ = _ := fun b o hb => Below.frozen hgwg (p := ⟨b, o, none⟩) hb; have hzwg := Below.size hgwg; (try simp at hzwg)
                have HBg : Hid (Below W.heap.size W wg) := (HBf.out.alloc hfs _).trans (hgwg.mono (by simp; omega))
                have HGg : Hid (Below w6.heap.size w6 wg) := (HGf.out.alloc hfs6 _).trans (hgwg.mono (by simp; omega))
                clear hgwg hcwg hfwg
                go_wp2
                go_roundw
                case rel => exact ⟨n + 1, by go_num, by omega, by omega, HBg.out, HGg.out⟩
                case measure => simp [intOf]; omega)
            · rw [if_neg (fun h => hin (HWR.out.1 h))]
              have HB2' : Hid ((decide (OL ≤ n) && decide (n ≤ OU)) = false) := by
                show _ = _
                have h1 := HOS.out
                by_cases h2 : OL ≤ n
                · rw [decide_eq_false (show ¬ n ≤ OU by omega), Bool.and_false]
                · rw [decide_eq_false h2, Bool.false_and]
              simp only [spV]
              rintro e wf ⟨rfl, hbf⟩
              have HBf : Hid (Below W.heap.size W wf) := HBS.out.trans (hbf.mono HBS.out.size)
              have HGf : Hid (Below w6.heap.size w6 wf) := HGS.out.trans (hbf.mono HGS.out.size)
              clear hbf z0 z1 z2 z3 z4 z5 z6 u0 u1 u3 q0 q1 hne hne' hin hxl
              obtain ⟨x0, x1, x2, x3, x4, x5, x6, x7, x8⟩ := HF.out _ HBf.out
              obtain ⟨y0, y1, y2, y3, y4, y5⟩ := HG.out _ HGf.out
              have hfs : W.heap.size ≤ wf.heap.size := HBf.out.size
              have hfs6 : w6.heap.size ≤ wf.heap.size := HGf.out.size
              go_wp2
              refine wp_region_havoc [(0,false),(1,false),(2,false),(3,false),(4,false),(5,false),(6,false),(7,false),(8,false),(9,false),(10,false),(11,false),(12,false),(13,false),(14,false),(15,false),(16,false),(17,false),(18,false),(19,false),(20,false),(21,false),(22,false),(23,false)] [] (fun _ _ => False) (by kernel_rfl) (by kernel_rfl) (fun _ _ _ _ h => h.elim) ?_
              (apply hav_same (by simp only [List.getElem?_toArray, List.getElem?_cons_zero]; rfl) (by kernel_rfl); (focus (intro wv hgv _; have hcv : ∀ b o, b < _ → wv.cell? ⟨b, o, none⟩ = _ := fun b o hb => Below.cell hgv (p := ⟨b, o, none⟩) hb; go_simp; try rfl; done)); simp only [Act.put, List.setIfInBounds_toArray, List.set_cons_succ, List.set_cons_zero])
              iterate 2 (apply hav_same (by simp only [List.getElem?_toArray, List.getElem?_cons_succ, List.getElem?_cons_zero]; rfl) (by kernel_rfl); (focus (intro wv hgv _; have hcv : ∀ b o, b < _ → wv.cell? ⟨b, o, none⟩ = _ := fun b o hb => Below.cell hgv (p := ⟨b, o, none⟩) hb; go_simp; try rfl; done)); simp only [Act.put, List.setIfInBounds_toArray, List.set_cons_succ, List.set_cons_zero])
              iterate 11 (refine hav_skip (by simp only [List.getElem?_toArray, List.getElem?_cons_succ, List.getElem?_cons_zero]; rfl) (by kernel_rfl) ?_; simp only [Act.put, List.setIfInBounds_toArray, List.set_cons_succ, List.set_cons_zero])
              iterate 7 (apply hav_same (by simp only [List.getElem?_toArray, List.getElem?_cons_succ, List.getElem?_cons_zero]; rfl) (by kernel_rfl); (focus (intro wv hgv _; have hcv : ∀ b o, b < _ → wv.cell? ⟨b, o, none⟩ = _ := fun b o hb => Below.cell hgv (p := ⟨b, o, none⟩) hb; go_simp; try rfl; done)); simp only [Act.put, List.setIfInBounds_toArray, List.set_cons_succ, List.set_cons_zero])
              (apply hav_call (by simp only [List.getElem?_toArray, List.getElem?_cons_succ, List.getElem?_cons_zero]; rfl) (by kernel_rfl); (focus (intro wv; go_simp; try exact ⟨rfl, rfl⟩; done)); (focus (intro wv hgv _; exact inside_is HB2'.out _; done)); simp only [Act.put, List.setIfInBounds_toArray, List.set_cons_succ, List.set_cons_zero])
              iterate 2 (apply hav_same (by simp only [List.getElem?_toArray, List.getElem?_cons_succ, List.getElem?_cons_zero]; rfl) (by kernel_rfl); (focus (intro wv hgv _; have hcv : ∀ b o, b < _ → wv.cell? ⟨b, o, none⟩ = _ := fun b o hb => Below.cell hgv (p := ⟨b, o, none⟩) hb; go_simp; try rfl; done)); simp only [Act.put, List.setIfInBounds_toArray, List.set_cons_succ, List.set_cons_zero])
              refine hav_end (fun wg hgwg _ => ?_); simp only [List.filterMap]; have hcwg : ∀ b o, b < _ → wg.cell? ⟨b, o, none⟩ = _ := fun b o hb => Below.cell hgwg (p := ⟨b, o, none⟩) hb; have hfwg : ∀ b o, b < _ → wg.frozen? ⟨b, o, none⟩ = _ := fun b o hb => Below.frozen hgwg (p := ⟨b, o, none⟩) hb; have hzwg := Below.size hgwg; (try simp at hzwg)
              have HBg : Hid (Below W.heap.size W wg) := (HBf.out.alloc hfs _).trans (hgwg.mono (by simp; omega))
              have HGg : Hid (Below w6.heap.size w6 wg) := (HGf.out.alloc hfs6 _).trans (hgwg.mono (by simp; omega))
              clear hgwg hcwg hfwg
              go_wp2
              go_roundw
              case rel => exact ⟨n + 1, by go_num, by omega, by omega, HBg.out, HGg.out⟩
              case measure => simp [intOf]; omega
          · go_wp2_with fail
            refine (awake_any _ (by exact HR.out.below (HBW.out.trans (HBR.out.mono (by omega))))).mono ?_
            rintro e wz ⟨rfl, hbz⟩
            go_wp2
            go_ret
            exact ⟨rfl, HBW.out.trans ((HBR.out.trans (hbz.mono HBR.out.size)).mono (by omega))⟩
end
end Go.Proofs.YtlcolpnniipgbaaDoor
