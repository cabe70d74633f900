/- The walk of PayTrue: for every pay, and every list of numbers, it answers true. -/
import Derived.Test.YtlcolpnniipgbaaDoorLawTruly
import Derived.Test.YtlcolpnniipgbaaDoorLawEnds
namespace Go.Proofs.YtlcolpnniipgbaaDoor
open Go.RowKit Go.Hav
theorem in_true {lo n hi : Int} (h1 : lo ≤ n) (h2 : n ≤ hi) : (decide (lo ≤ n) && decide (n ≤ hi)) = true := by simp [h1, h2]
section
variable {people rate bill : Int} {ra ca da pa : Option Addr} {rl rc cl cc dl dc pl pc : Nat} {p : PayD}
set_option maxRecDepth 100000 in
set_option maxHeartbeats 6400000 in
theorem PayTrue_any (w : World) (hP : PayIn w w.heap.size people ra rl ca cl rate bill da dl pa pl p) (hR : RulesIn w) {A : Option Addr} {al ac : Nat} (hA : U16In w w.heap.size A al) (ha : al ≤ 9223372036854775807) :
    Calls Tryd.prog 5 #[payV people ra rl rc ca cl cc rate bill da dl dc pa pl pc, .slice A al ac] w fun e w' => e = .returned (.bool true) ∧ Below w.heap.size w w' := by
  have HP := Lib.hid hP
  have HR := Lib.hid hR
  have HA := Lib.hid hA
  clear hP hR hA
  unfold payV
  go_enter Tryd.func5, Tryd.ntmps5
  go_wp2_with fail
  obtain ⟨W, hW⟩ : ∃ W, W = w.alloc (.cells (payCs people ra rl rc ca cl cc rate bill da dl dc pa pl pc) 27) := ⟨_, rfl⟩
  have HBK : Hid (Blk W w.heap.size 27 (payCs people ra rl rc ca cl cc rate bill da dl dc pa pl pc)) := by show Blk _ _ _ _; rw [hW]; exact Blk.new _ _ _
  have HBW : Hid (Below w.heap.size w W) := by show Below _ _ _; rw [hW]; exact (Below.refl _ _).alloc (Nat.le_refl _) _
  have hs0 : w.heap.size < W.heap.size := HBK.out.lt
  have hW' := hW.symm
  unfold payCs at hW'
  rw [hW']
  clear hW hW'
  have facts : ∀ wv, Below W.heap.size W wv → wv.cell? ⟨w.heap.size, 0, none⟩ = some (.int .i64 people) ∧ wv.cell? ⟨w.heap.size, 1, none⟩ = some (.slice ra rl rc) ∧ wv.cell? ⟨w.heap.size, 2, none⟩ = some (.slice ca cl cc) ∧
      wv.cell? ⟨w.heap.size, 3, none⟩ = some (.int .i64 rate) ∧ wv.cell? ⟨w.heap.size, 4, none⟩ = some (.int .i64 bill) ∧ wv.cell? ⟨w.heap.size, 5, none⟩ = some (.slice da dl dc) ∧ wv.cell? ⟨w.heap.size, 6, none⟩ = some (.slice pa pl pc) ∧ w.heap.size < wv.heap.size ∧ W.heap.size ≤ wv.heap.size := fun wv hb => by
    have h := HBK.out.below hb hs0
    exact ⟨h.cell 0, h.cell 1, h.cell 2, h.cell 3, h.cell 4, h.cell 5, h.cell 6, h.lt, hb.size⟩
  have HF := Lib.hid facts
  clear facts
  have HPB : Hid (∀ wv, Below W.heap.size W wv → PayIn wv wv.heap.size people ra rl ca cl rate bill da dl pa pl p) := fun wv hb => HP.out.grow (HBW.out.trans (hb.mono (by omega)))
  refine (fine_any (p := p) _ (by exact HP.out.grow HBW.out)).mono ?_
  rintro e w1 ⟨⟨b, rfl, hv⟩, hb1⟩
  have HB1 : Hid (Below W.heap.size W w1) := hb1
  clear hb1
  obtain ⟨x0, x1, x2, x3, x4, x5, x6, x7, x8⟩ := HF.out _ HB1.out
  cases b
  case false =>
    go_wp2_with fail
    refine (awake_any _ (by exact HR.out.below (HBW.out.trans (HB1.out.mono (by omega))))).mono ?_
    rintro e w2 ⟨rfl, hb2⟩
    go_wp2
    go_ret
    exact ⟨rfl, HBW.out.trans ((HB1.out.trans (hb2.mono HB1.out.size)).mono (by omega))⟩
  case true =>
  have hv := hv rfl
  have HV := Lib.hid hv
  obtain ⟨⟨a1, a2, a3, a4, a5, a6, a7, a8, a9, a10, a11⟩, _⟩ := payB_parts HP.out hv
  have HPE := Lib.hid HP.out.epeople
  have HRL := Lib.hid HP.out.erl
  have HRT := Lib.hid HP.out.erate
  have HPL := Lib.hid HP.out.epl
  clear hv a10
  obtain ⟨n, rfl⟩ : ∃ n : Nat, people = n := ⟨people.toNat, by omega⟩
  have hn4 : n ≤ 4 := by omega
  have hn1 : 1 ≤ n := by omega
  clear a1 a2
  go_wp2_with fail
  refine (truly_any (p := p) _ HV.out (by exact HPB.out _ HB1.out) (HA.out.grow (HBW.out.trans (HB1.out.mono (by omega))) |>.more (by have := HBW.out.size; have := HB1.out.size; omega)) ha).mono ?_
  simp only [payV, Int.toNat_natCast]
  rintro e w2 ⟨⟨g1, c1, g2, c2, g3, c3, g4, c4, S, R, L, sc, rfl, hO, hS, hT⟩, hb2⟩
  have HB2 : Hid (Below W.heap.size W w2) := HB1.out.trans (hb2.mono HB1.out.size)
  have HRR : Hid (R.length = rl) := hT.lenR.trans HRL.out
  have HLL : Hid (L.length = rl) := hT.lenL
  have hT' : TInv p n R L p.runs.length := by rw [HRL.out]; exact hT
  have HVX : Hid (payB (runsP p R) = true) := hT'.payB HV.out
  have HTR : Hid (Truth (runsP p R) (tv L)) := hT'.truth HPE.out
  have HTX : Hid (wrongI (runsP p R) = 0) := HTR.out.right HVX.out
  have HTB : Hid (∀ r j : Nat, r < rl → j < n → 0 ≤ tv L r j ∧ tv L r j ≤ 100) := fun r j hr hj => by
    have h := HTR.out.called r j (by omega) (by show (r : Int) < R.length; rw [HRR.out]; omega) (by omega) (by show (j : Int) < p.people; rw [HPE.out]; omega)
    have h2 := calledS_ok HVX.out j r
    omega
  have HSH := Lib.hid hS
  have HX2 : Hid (PayIn w2 w2.heap.size n (some ⟨g1, 0, none⟩) rl (some ⟨g2, 0, none⟩) cl rate bill (some ⟨g3, 0, none⟩) dl (some ⟨g4, 0, none⟩) pl (runsP p R)) := hO.payIn HVX.out HPE.out HRR.out HP.out.ecl HP.out.erate HP.out.ebill HP.out.edl HP.out.epl
  obtain ⟨Sb, rfl⟩ : ∃ Sb, S = some ⟨Sb, 0, none⟩ := by
    obtain ⟨_, b, _, _, e, _⟩ := hS 0 (L[0]'(by rw [HLL.out]; omega)) (by simp)
    exact ⟨b, e⟩
  clear hb2 hO hS hT hT' x0 x1 x2 x3 x4 x5 x6 x7 x8
  have hw2a : W.heap.size ≤ w2.heap.size := HB2.out.size
  go_wp2_with fail
  obtain ⟨W2, hW2⟩ : ∃ W2, W2 = w2.alloc (.cells (payCs n (some ⟨g1, 0, none⟩) rl c1 (some ⟨g2, 0, none⟩) cl c2 rate bill (some ⟨g3, 0, none⟩) dl c3 (some ⟨g4, 0, none⟩) pl c4) 27) := ⟨_, rfl⟩
  have HXK : Hid (Blk W2 w2.heap.size 27 (payCs n (some ⟨g1, 0, none⟩) rl c1 (some ⟨g2, 0, none⟩) cl c2 rate bill (some ⟨g3, 0, none⟩) dl c3 (some ⟨g4, 0, none⟩) pl c4)) := by show Blk _ _ _ _; rw [hW2]; exact Blk.new _ _ _
  have HWW2 : Hid (Below w2.heap.size w2 W2) := by show Below _ _ _; rw [hW2]; exact (Below.refl _ _).alloc (Nat.le_refl _) _
  have HW2 : Hid (Below W.heap.size W W2) := HB2.out.trans (HWW2.out.mono hw2a)
  have hw2b : w2.heap.size < W2.heap.size := HXK.out.lt
  have hw2 : W.heap.size ≤ W2.heap.size := HW2.out.size
  have hW2' := hW2.symm
  unfold payCs at hW2'
  rw [hW2']
  clear hW2 hW2'
  have HG : Hid (∀ wv, Below W2.heap.size W2 wv → wv.cell? ⟨w2.heap.size, 0, none⟩ = some (.int .i64 n) ∧ wv.cell? ⟨w2.heap.size, 1, none⟩ = some (.slice (some ⟨g1, 0, none⟩) rl c1) ∧ wv.cell? ⟨w2.heap.size, 2, none⟩ = some (.slice (some ⟨g2, 0, none⟩) cl c2) ∧
      wv.cell? ⟨w2.heap.size, 3, none⟩ = some (.int .i64 rate) ∧ wv.cell? ⟨w2.heap.size, 4, none⟩ = some (.int .i64 bill) ∧ wv.cell? ⟨w2.heap.size, 5, none⟩ = some (.slice (some ⟨g3, 0, none⟩) dl c3) ∧ wv.cell? ⟨w2.heap.size, 6, none⟩ = some (.slice (some ⟨g4, 0, none⟩) pl c4) ∧ w2.heap.size < wv.heap.size ∧ W2.heap.size ≤ wv.heap.size) := fun wv hb => by
    have h := HXK.out.below hb hw2b
    exact ⟨h.cell 0, h.cell 1, h.cell 2, h.cell 3, h.cell 4, h.cell 5, h.cell 6, h.lt, hb.size⟩
  have HPX : Hid (∀ wv, Below W2.heap.size W2 wv → PayIn wv wv.heap.size n (some ⟨g1, 0, none⟩) rl (some ⟨g2, 0, none⟩) cl rate bill (some ⟨g3, 0, none⟩) dl (some ⟨g4, 0, none⟩) pl (runsP p R)) := fun wv hb => HX2.out.grow (HWW2.out.trans (hb.mono (Nat.le_of_lt hw2b)))
  have HE1 : Hid (wrongR (runsP p R) = (0, 4)) := by show _ = _; rw [wrongR, if_pos (by rw [checkE_fine HVX.out rfl]; simp), if_pos HTX.out]
  refine (PWrong_any (p := runsP p R) _ (by exact HPX.out _ (Below.refl _ _))).mono ?_
  rw [HE1.out]
  simp only
  rintro e w3 ⟨rfl, hb3⟩
  have HB3 : Hid (Below W2.heap.size W2 w3) := hb3
  clear hb3
  obtain ⟨z0, z1, z2, z3, z4, z5, z6, z7, z8⟩ := HG.out _ HB3.out
  have HRU : Hid (∀ wv, Below W2.heap.size W2 wv → RulesIn wv) := fun wv hb => HR.out.below (HBW.out.trans ((HW2.out.trans (hb.mono hw2)).mono (by omega)))
  go_wp2_with fail
  refine (PCheck_any (p := runsP p R) _ (by exact HPX.out _ HB3.out) (by exact HRU.out _ HB3.out)).mono ?_
  have HCK := Lib.hid (HTR.out.check HVX.out)
  obtain ⟨⟨C1, C2, C3⟩, hck⟩ : ∃ c, checkR (runsP p R) (ruleX (runsP p R)) = c := ⟨_, rfl⟩
  rw [hck]
  have hcases : (C1 = 0 ∧ C2 = 0 ∧ C3 = 4) ∨ ∃ i y, C1 = (i : Nat) ∧ C3 = 0 ∧ p.paid[i]? = some y ∧ (C2 = 3 → tv L y.run y.who * rate / 100 < y.pence) := by
    rcases HCK.out with h | ⟨i, y, h, hy, hr⟩
    · rw [hck] at h
      injection h with h1 h2
      injection h2 with h2 h3
      exact .inl ⟨h1, h2, h3⟩
    · rw [hck] at h
      injection h with h1 h2
      injection h2 with h2 h3
      refine .inr ⟨i, y, h1, h3, hy, fun h => ?_⟩
      have h4 := hr (by rw [← h2]; exact h)
      rw [show (runsP p R).rate = rate from HRT.out] at h4
      exact h4
  have HCC := Lib.hid hcases
  clear hck hcases HCK
  simp only
  rintro e w4 ⟨rfl, hb4⟩
  have HBt : Hid (Below W2.heap.size W2 w4) := HB3.out.trans (hb4.mono HB3.out.size)
  clear hb4
  clear z0 z1 z2 z3 z4 z5 z6 z7 z8
  have HBt' : Hid (Below W.heap.size W w4) := HW2.out.trans (HBt.out.mono hw2)
  obtain ⟨x0, x1, x2, x3, x4, x5, x6, x7, x8⟩ := HF.out _ HBt'.out
  obtain ⟨z0, z1, z2, z3, z4, z5, z6, z7, z8⟩ := HG.out _ HBt.out
  have hc3 : C3 = 4 ∨ C3 = 0 := by
    rcases HCC.out with ⟨_, _, h⟩ | ⟨_, _, _, h, _⟩
    · exact .inl h
    · exact .inr h
  go_upto_region 6 with fail
  go_cut [65] from 56 to 64 (fun s wx => s = .bool false ∧ wx = w4)
  case first =>
    rcases hc3 with rfl | rfl
    all_goals (go_wp2_with fail; go_meet; exact ⟨rfl, rfl⟩)
  case rest =>
  obtain ⟨rfl, hw⟩ := hcut
  replace hw := hw.symm
  subst hw
  go_upto_region 8 with fail
  obtain ⟨mb, hmb⟩ : ∃ mb : Bool, mb = decide (C3 = 0 ∧ C2 = 3) := ⟨_, rfl⟩
  go_cut [71] from 66 to 70 (fun s wx => s = .bool mb ∧ wx = w4)
  case first =>
    rcases hc3 with rfl | rfl
    · go_wp2_with fail
      go_meet
      exact ⟨by rw [hmb]; rfl, rfl⟩
    · by_cases h2 : C2 = 3
      · subst h2
        go_wp2_with fail
        go_meet
        exact ⟨by rw [hmb]; rfl, rfl⟩
      · have h2' : (C2 == 3) = false := by simpa using h2
        go_wp2_with fail
        go_meet
        exact ⟨by rw [hmb]; simp [h2], rfl⟩
  case rest =>
  obtain ⟨rfl, hw⟩ := hcut
  replace hw := hw.symm
  subst hw
  go_upto_if 71 with fail
  go_cut [12] from 72 to 101 (fun s12 wx => Hid (Below W2.heap.size W2 wx))
  case first =>
    cases mb
    · go_wp2_with fail
      go_meet
      exact HBt.out
    · obtain ⟨rfl, rfl⟩ : C3 = 0 ∧ C2 = 3 := by simpa using hmb.symm
      obtain ⟨i, y, rfl, hy, hr⟩ : ∃ i y, C1 = (i : Nat) ∧ p.paid[i]? = some y ∧ ((3 : Int) = 3 → tv L y.run y.who * rate / 100 < y.pence) := by
        rcases HCC.out with ⟨_, _, h⟩ | ⟨i, y, h1, _, h3, h4⟩
        · cases h
        · exact ⟨i, y, h1, h3, h4⟩
      have hr3 := hr rfl
      clear hr hmb hc3 HCC
      obtain ⟨p0, p1, p2, p3, p4, p5⟩ := payB_paid HV.out hy
      have hil : i < pl := by have := (List.getElem?_eq_some_iff.1 hy).1; rw [HPL.out] at this; exact this
      have hb0 : decide ((i : Int) < 0) = false := decide_eq_false (by omega)
      have hb1 : decide ((i : Int) ≥ (pl : Int)) = false := decide_eq_false (by omega)
      have hb2 : decide (pl ≤ i) = false := decide_eq_false (by omega)
      obtain ⟨yw', yr', yp⟩ := y
      simp only at p0 p1 p2 p3 p4 p5 hr3
      rw [HPE.out] at p1
      rw [HRL.out] at p3
      obtain ⟨yw, rfl⟩ : ∃ q : Nat, yw' = q := ⟨yw'.toNat, by omega⟩
      obtain ⟨yr, rfl⟩ : ∃ q : Nat, yr' = q := ⟨yr'.toNat, by omega⟩
      have hyw : yw < n := by omega
      have hyr : yr < rl := by omega
      obtain ⟨t, ht⟩ : ∃ t, Hid (tv L yr yw = t) := ⟨_, rfl⟩
      obtain ⟨t0, t1⟩ : 0 ≤ t ∧ t ≤ 100 := by have h := HTB.out yr yw hyr hyw; rw [ht.out] at h; exact h
      rw [ht.out] at hr3
      obtain ⟨v1, v2⟩ := wage_bd t0 t1 a6 a7
      have k1 : IntKind.i64.wrap (t * rate) = t * rate := IntWalk.i64_in _ (by omega)
      have k2 : (t * rate).tdiv 100 = t * rate / 100 := tdiv_eq v1
      have k4 : IntKind.i64.wrap (t * rate / 100) = t * rate / 100 := IntWalk.i64_in _ (by omega)
      have k5 : decide (yp ≤ t * rate / 100) = false := decide_eq_false (by omega)
      obtain ⟨l, hl⟩ : ∃ l, L[yr]? = some l := ⟨L[yr]'(by rw [HLL.out]; exact hyr), by simp⟩
      obtain ⟨hln, b, g, c, e1, hb, S0, hg, S1⟩ := (HSH.out.below (HWW2.out.trans (HBt.out.mono (Nat.le_of_lt hw2b)))) yr l hl
      obtain rfl : Sb = b := by simpa using e1
      have S2 : w4.cell? ⟨g, yw, none⟩ = some (.int .i64 t) := by
        refine S1 yw t ?_
        have hjl : yw < l.length := by omega
        have h2 := ht.out
        unfold tv at h2
        rw [Int.toNat_natCast, hl, Int.toNat_natCast] at h2
        simp only [Option.getD_some] at h2
        rw [List.getElem?_eq_getElem hjl] at h2 ⊢
        simpa using h2
      obtain ⟨b2, off2, e2, hbl, H0, H1, H2⟩ := (HPX.out _ HBt.out).hpaid i _ hy
      obtain ⟨rfl, rfl⟩ : g4 = b2 ∧ 0 = off2 := by simpa using e2
      simp only [Nat.zero_add] at H0 H1 H2
      clear hl S1 e1 e2 hy p0 p2 hln
      go_wp2
      refine wp_region_havoc [(0,false),(1,false),(2,false),(3,false),(4,false),(5,false),(6,false),(7,false),(8,false),(9,false),(10,false),(11,false),(12,false),(13,false),(14,false),(15,false)] [] (fun _ _ => False) (by kernel_rfl) (by kernel_rfl) (fun _ _ _ _ h => h.elim) ?_
      (apply hav_same (by simp only [List.getElem?_toArray, List.getElem?_cons_zero]; rfl) (by kernel_rfl); (focus (intro wv hgv _; have hcv : ∀ b o, b < _ → wv.cell? ⟨b, o, none⟩ = _ := fun b o hb => Below.cell hgv (p := ⟨b, o, none⟩) hb; go_simp; try rfl; done)); simp only [Act.put, List.setIfInBounds_toArray, List.set_cons_succ, List.set_cons_zero])
      iterate 15 (apply hav_same (by simp only [List.getElem?_toArray, List.getElem?_cons_succ, List.getElem?_cons_zero]; rfl) (by kernel_rfl); (focus (intro wv hgv _; have hcv : ∀ b o, b < _ → wv.cell? ⟨b, o, none⟩ = _ := fun b o hb => Below.cell hgv (p := ⟨b, o, none⟩) hb; go_simp; try rfl; done)); simp only [Act.put, List.setIfInBounds_toArray, List.set_cons_succ, List.set_cons_zero])
      refine hav_end (fun w5 hgw5 _ => ?_); simp only [List.filterMap]; have hcw5 : ∀ b o, b < _ → w5.cell? ⟨b, o, none⟩ = _ := fun b o hb => Below.cell hgw5 (p := ⟨b, o, none⟩) hb; have hfw5 : ∀ b o, b < _ → w5.frozen? ⟨b, o, none⟩ = _ := fun b o hb => Below.frozen hgw5 (p := ⟨b, o, none⟩) hb; have hzw5 := Below.size hgw5; (try simp at hzw5)
      have y3 : W2.heap.size ≤ w4.heap.size := HBt.out.size
      have HB5 : Hid (Below W2.heap.size W2 w5) := (HBt.out.alloc y3 _).trans (hgw5.mono (by simp; omega))
      clear hgw5 hcw5 hfw5 H0 H1 H2 S0 S2 k1 k2 k4 k5 v1 v2 hr3 hb hg hbl
      go_wp2_with fail
      go_meet
      exact HB5.out
  case rest =>
  have HBt : Hid (Below W2.heap.size W2 wc) := hcut
  clear hcut hmb hc3 HCC
  clear x0 x1 x2 x3 x4 x5 x6 x7 x8
  clear z0 z1 z2 z3 z4 z5 z6 z7 z8
  have HBt' : Hid (Below W.heap.size W wc) := HW2.out.trans (HBt.out.mono hw2)
  obtain ⟨x0, x1, x2, x3, x4, x5, x6, x7, x8⟩ := HF.out _ HBt'.out
  obtain ⟨z0, z1, z2, z3, z4, z5, z6, z7, z8⟩ := HG.out _ HBt.out
  go_wp2
  clear x0 x1 x2 x3 x4 x5 x6 x7 x8
  clear z0 z1 z2 z3 z4 z5 z6 z7 z8
  go_loopw [104] (fun i wr => ∃ j : Nat, i = .int .i64 j ∧ j ≤ n ∧ Hid (Below W2.heap.size W2 wr)) (fun i _ => n - (intOf i).toNat)
  case atStart => exact ⟨0, rfl, Nat.zero_le _, HBt.out⟩
  case round =>
    obtain ⟨j, rfl, hj, HBR⟩ := hrel
    have HBR' : Hid (Below W.heap.size W wr) := HW2.out.trans (HBR.out.mono hw2)
    obtain ⟨x0, x1, x2, x3, x4, x5, x6, x7, x8⟩ := HF.out _ HBR'.out
    by_cases hjn : j < n
    · have HWX : Hid (whoB (runsP p R) j = true) := whoB_in (by omega) (by show (j : Int) < p.people; rw [HPE.out]; omega)
      go_wp2
      obtain ⟨wo, rfl⟩ : ∃ wo : World, wo = wr := ⟨_, rfl⟩
      clear x0 x1 x2 x3 x4 x5 x6 x7 x8
      go_loopw [14, 109] (fun v i wr => ∃ k : Nat, i = .int .i64 k ∧ k ≤ rl ∧ v = .int .i64 (wageT (tv L) j rate k) ∧ Hid (Below wo.heap.size wo wr)) (fun _ i _ => rl - (intOf i).toNat)
      case atStart => exact ⟨0, rfl, Nat.zero_le _, rfl, Below.refl _ _⟩
      case round =>
        obtain ⟨k, rfl, hk, rfl, HBQ⟩ := hrel
        have HBQ2 : Hid (Below W2.heap.size W2 wr) := HBR.out.trans (HBQ.out.mono HBR.out.size)
        have HBQ' : Hid (Below W.heap.size W wr) := HW2.out.trans (HBQ2.out.mono hw2)
        obtain ⟨x0, x1, x2, x3, x4, x5, x6, x7, x8⟩ := HF.out _ HBQ'.out
        obtain ⟨z0, z1, z2, z3, z4, z5, z6, z7, z8⟩ := HG.out _ HBQ2.out
        obtain ⟨wb0, wb1⟩ : 0 ≤ wageT (tv L) j rate k ∧ wageT (tv L) j rate k ≤ 1000 * k := wageT_bd a6 a7 (n := rl) (fun r hr => HTB.out r j hr hjn) k hk
        by_cases hkr : k < rl
        · obtain ⟨l, hl⟩ : ∃ l, L[k]? = some l := ⟨L[k]'(by rw [HLL.out]; exact hkr), by simp⟩
          obtain ⟨t, ht⟩ : ∃ t, Hid (tv L k j = t) := ⟨_, rfl⟩
          obtain ⟨t0, t1⟩ : 0 ≤ t ∧ t ≤ 100 := by have h := HTB.out k j hkr hjn; rw [ht.out] at h; exact h
          obtain ⟨hln, b, g, c, e1, hb, S0, hg, S1⟩ := (HSH.out.below (HWW2.out.trans (HBQ2.out.mono (Nat.le_of_lt hw2b)))) k l hl
          obtain rfl : Sb = b := by simpa using e1
          have S2 : wr.cell? ⟨g, j, none⟩ = some (.int .i64 t) := by
            refine S1 j t ?_
            have hjl : j < l.length := by omega
            have h2 := ht.out
            unfold tv at h2
            rw [Int.toNat_natCast, hl, Int.toNat_natCast] at h2
            simp only [Option.getD_some] at h2
            rw [List.getElem?_eq_getElem hjl] at h2 ⊢
            simpa using h2
          obtain ⟨⟨SL, SU⟩, HSG⟩ : ∃ s, Hid (sheepS (runsP p R) j k = s) := ⟨_, rfl⟩
          have HE4 : Hid (spanR (checkE (runsP p R) (whoB (runsP p R) j && runB (runsP p R) k) true) (sheepS (runsP p R) j k) = (⟨SL, SU⟩, 0)) := by
            show _ = _
            rw [spanR_ok HVX.out HTX.out (by rw [HWX.out, runB_in (by omega) (by show (k : Int) < R.length; rw [HRR.out]; omega)]; rfl), HSG.out]
          have HIN : Hid ((decide (SL ≤ t) && decide (t ≤ SU)) = true) := by
            have h := HTR.out.sheep HVX.out (r := k) (who := j) (by omega) (by show (k : Int) < R.length; rw [HRR.out]; omega) (by omega) (by show (j : Int) < p.people; rw [HPE.out]; omega)
            rw [HSG.out, ht.out] at h
            exact in_true h.1 h.2
          have HST : Hid (wageT (tv L) j rate (k + 1) = wageT (tv L) j rate k + t * rate / 100) := by show _ = _; rw [wageT, ht.out]
          clear hl S1 e1
          go_wp2_with fail
          refine (PSheep_any (p := runsP p R) j k _ (by exact HPX.out _ HBQ2.out)).mono ?_
          rw [HE4.out]
          simp only [spV]
          rintro e w5 ⟨rfl, hb5⟩
          have HB5 : Hid (Below wo.heap.size wo w5) := HBQ.out.trans (hb5.mono HBQ.out.size)
          have HG5 : Hid (Below wr.heap.size wr w5) := hb5
          have HB52 : Hid (Below W2.heap.size W2 w5) := HBR.out.trans (HB5.out.mono HBR.out.size)
          have HB5' : Hid (Below W.heap.size W w5) := HW2.out.trans (HB52.out.mono hw2)
          have S3 : w5.cell? ⟨g, j, none⟩ = some (.int .i64 t) := (HG5.out.cell (p := ⟨g, j, none⟩) hg).trans S2
          have hg5 : g < w5.heap.size := by have := HG5.out.size; omega
          clear hb5 S0 S2 hb hg
          clear x0 x1 x2 x3 x4 x5 x6 x7 x8
          clear z0 z1 z2 z3 z4 z5 z6 z7 z8
          obtain ⟨x0, x1, x2, x3, x4, x5, x6, x7, x8⟩ := HF.out _ HB5'.out
          have hwo5 : wo.heap.size ≤ w5.heap.size := HB5.out.size
          go_wp2
          refine wp_region_havoc [(0,false),(1,false),(2,false),(3,false),(4,false),(5,false),(6,false),(7,false),(8,false),(9,false),(10,false)] [] (fun _ _ => False) (by kernel_rfl) (by kernel_rfl) (fun _ _ _ _ h => h.elim) ?_
          (apply hav_same (by simp only [List.getElem?_toArray, List.getElem?_cons_zero]; rfl) (by kernel_rfl); (focus (intro wv hgv _; have hcv : ∀ b o, b < _ → wv.cell? ⟨b, o, none⟩ = _ := fun b o hb => Below.cell hgv (p := ⟨b, o, none⟩) hb; go_simp; try rfl; done)); simp only [Act.put, List.setIfInBounds_toArray, List.set_cons_succ, List.set_cons_zero])
          iterate 7 (apply hav_same (by simp only [List.getElem?_toArray, List.getElem?_cons_succ, List.getElem?_cons_zero]; rfl) (by kernel_rfl); (focus (intro wv hgv _; have hcv : ∀ b o, b < _ → wv.cell? ⟨b, o, none⟩ = _ := fun b o hb => Below.cell hgv (p := ⟨b, o, none⟩) hb; go_simp; try rfl; done)); simp only [Act.put, List.setIfInBounds_toArray, List.set_cons_succ, List.set_cons_zero])
          (apply hav_call (by simp only [List.getElem?_toArray, List.getElem?_cons_succ, List.getElem?_cons_zero]; rfl) (by kernel_rfl); (focus (intro wv; go_simp; try exact ⟨rfl, rfl⟩; done)); (focus (intro wv hgv _; exact inside_is HIN.out _; done)); simp only [Act.put, List.setIfInBounds_toArray, List.set_cons_succ, List.set_cons_zero])
          iterate 2 (apply hav_same (by simp only [List.getElem?_toArray, List.getElem?_cons_succ, List.getElem?_cons_zero]; rfl) (by kernel_rfl); (focus (intro wv hgv _; have hcv : ∀ b o, b < _ → wv.cell? ⟨b, o, none⟩ = _ := fun b o hb => Below.cell hgv (p := ⟨b, o, none⟩) hb; go_simp; try rfl; done)); simp only [Act.put, List.setIfInBounds_toArray, List.set_cons_succ, List.set_cons_zero])
          refine hav_end (fun w6 hgw6 _ => ?_); simp only [List.filterMap]; have hcw6 : ∀ b o, b < _ → w6.cell? ⟨b, o, none⟩ = _ := fun b o hb => Below.cell hgw6 (p := ⟨b, o, none⟩) hb; have hfw6 : ∀ b o, b < _ → w6.frozen? ⟨b, o, none⟩ = _ := fun b o hb => Below.frozen hgw6 (p := ⟨b, o, none⟩) hb; have hzw6 := Below.size hgw6; (try simp at hzw6)
          have HB6 : Hid (Below wo.heap.size wo w6) := (HB5.out.alloc hwo5 _).trans (hgw6.mono (by simp; omega))
          have HG6 : Hid (Below w5.heap.size w5 w6) := ((Below.refl _ _).alloc (Nat.le_refl _) _).trans (hgw6.mono (by simp))
          clear hgw6 hcw6 hfw6
          clear x0 x1 x2 x3 x4 x5 x6 x7 x8
          have HB6' : Hid (Below W.heap.size W w6) := HB5'.out.trans (HG6.out.mono HB5'.out.size)
          obtain ⟨x0, x1, x2, x3, x4, x5, x6, x7, x8⟩ := HF.out _ HB6'.out
          have S4 : w6.cell? ⟨g, j, none⟩ = some (.int .i64 t) := (HG6.out.cell (p := ⟨g, j, none⟩) hg5).trans S3
          have hg6 : g < w6.heap.size := by have := HG6.out.size; omega
          clear S3 hg5
          obtain ⟨v1, v2⟩ := wage_bd t0 t1 a6 a7
          have k1 : IntKind.i64.wrap (t * rate) = t * rate := IntWalk.i64_in _ (by omega)
          have k2 : (t * rate).tdiv 100 = t * rate / 100 := tdiv_eq v1
          have k3 : IntKind.i64.wrap (wageT (tv L) j rate k + t * rate / 100) = wageT (tv L) j rate k + t * rate / 100 := IntWalk.i64_in _ (by omega)
          have k4 : IntKind.i64.wrap (t * rate / 100) = t * rate / 100 := IntWalk.i64_in _ (by omega)
          go_wp2
          refine wp_region_havoc [(0,false),(1,false),(2,false),(3,false),(4,false),(5,false),(6,false),(7,false),(8,false),(9,false),(10,false)] [] (fun _ _ => False) (by kernel_rfl) (by kernel_rfl) (fun _ _ _ _ h => h.elim) ?_
          (apply hav_same (by simp only [List.getElem?_toArray, List.getElem?_cons_zero]; rfl) (by kernel_rfl); (focus (intro wv hgv _; have hcv : ∀ b o, b < _ → wv.cell? ⟨b, o, none⟩ = _ := fun b o hb => Below.cell hgv (p := ⟨b, o, none⟩) hb; go_simp; try rfl; done)); simp only [Act.put, List.setIfInBounds_toArray, List.set_cons_succ, List.set_cons_zero])
          iterate 10 (apply hav_same (by simp only [List.getElem?_toArray, List.getElem?_cons_succ, List.getElem?_cons_zero]; rfl) (by kernel_rfl); (focus (intro wv hgv _; have hcv : ∀ b o, b < _ → wv.cell? ⟨b, o, none⟩ = _ := fun b o hb => Below.cell hgv (p := ⟨b, o, none⟩) hb; go_simp; try rfl; done)); simp only [Act.put, List.setIfInBounds_toArray, List.set_cons_succ, List.set_cons_zero])
          refine hav_end (fun w7 hgw7 _ => ?_); simp only [List.filterMap]; have hcw7 : ∀ b o, b < _ → w7.cell? ⟨b, o, none⟩ = _ := fun b o hb => Below.cell hgw7 (p := ⟨b, o, none⟩) hb; have hfw7 : ∀ b o, b < _ → w7.frozen? ⟨b, o, none⟩ = _ := fun b o hb => Below.frozen hgw7 (p := ⟨b, o, none⟩) hb; have hzw7 := Below.size hgw7; (try simp at hzw7)
          have HB7 : Hid (Below wo.heap.size wo w7) := HB6.out.trans (hgw7.mono HB6.out.size)
          clear hgw7 hcw7 hfw7
          go_wp2
          go_roundw
          case rel => exact ⟨k + 1, by go_num, by omega, by rw [HST.out], HB7.out⟩
          case measure => simp [intOf]; omega
        · obtain rfl : rl = k := by omega
          obtain ⟨WT, HWT⟩ : ∃ v, Hid (wageT (tv L) j rate rl = v) := ⟨_, rfl⟩
          obtain ⟨⟨WL, WU⟩, HWG⟩ : ∃ v, Hid (wagesP (runsP p R) j = v) := ⟨_, rfl⟩
          obtain ⟨SHR, HSR⟩ : ∃ v, Hid (((sharesR (runsP p R))[j]?).getD 0 = v) := ⟨_, rfl⟩
          obtain ⟨Q, HPQ⟩ : ∃ v, Hid (paidF p.paid j pl = v) := ⟨_, rfl⟩
          obtain ⟨s0, s1⟩ : 0 ≤ SHR ∧ SHR ≤ 100004 := by have h := share_in HVX.out j; rw [HSR.out] at h; exact h
          obtain ⟨q0, q1⟩ : 0 ≤ Q ∧ Q ≤ 80000 := by have h := paidF_bd HV.out j pl; rw [HPQ.out] at h; omega
          have HTW : Hid (WL ≤ WT ∧ WT ≤ WU) := by
            have h := HTR.out.wages HVX.out (who := j) (by omega) (by show (j : Int) < p.people; rw [HPE.out]; omega) rl (by show rl ≤ R.length; rw [HRR.out]; exact Nat.le_refl _)
            have h2 := HWG.out
            rw [wagesP, show (runsP p R).runs.length = rl from HRR.out] at h2
            rw [h2, show (runsP p R).rate = rate from HRT.out, HWT.out] at h
            exact h
          have HE3 : Hid (messR (runsP p R) j = (SHR, 0)) := by show _ = _; rw [messR_ok HVX.out HWX.out, Int.toNat_natCast, HSR.out]
          have HE5 : Hid (spanR (checkE (runsP p R) (whoB (runsP p R) j) true) (wagesP (runsP p R) j) = (⟨WL, WU⟩, 0)) := by show _ = _; rw [spanR_ok HVX.out HTX.out HWX.out, HWG.out]
          have HE6 : Hid (spanR (checkE (runsP p R) (whoB (runsP p R) j) true) (leftP (runsP p R) j) = (⟨WL - (SHR + Q), WU - (SHR + Q)⟩, 0)) := by
            show _ = _
            rw [spanR_ok HVX.out HTX.out HWX.out, leftP, HWG.out, Int.toNat_natCast, HSR.out, show (runsP p R).paid = p.paid from rfl, HPL.out, HPQ.out, offS]
          obtain ⟨t2, t3⟩ := HTW.out
          have HI1 : Hid ((decide (WL ≤ WT) && decide (WT ≤ WU)) = true) := in_true t2 t3
          have HI2 : Hid ((decide (WL - (SHR + Q) ≤ WT - SHR - Q) && decide (WT - SHR - Q ≤ WU - (SHR + Q))) = true) := in_true (by omega) (by omega)
          rw [HWT.out] at wb0 wb1 ⊢
          clear t2 t3
          go_wp2_with fail
          refine (PMess_any (p := runsP p R) j _ (by exact HPX.out _ HBQ2.out)).mono ?_
          rw [HE3.out]
          simp only
          rintro e w5 ⟨rfl, hb5⟩
          have HB52 : Hid (Below W2.heap.size W2 w5) := HBQ2.out.trans (hb5.mono HBQ2.out.size)
          have HB5' : Hid (Below W.heap.size W w5) := HW2.out.trans (HB52.out.mono hw2)
          clear hb5
          clear x0 x1 x2 x3 x4 x5 x6 x7 x8
          clear z0 z1 z2 z3 z4 z5 z6 z7 z8
          obtain ⟨x0, x1, x2, x3, x4, x5, x6, x7, x8⟩ := HF.out _ HB5'.out
          go_wp2
          clear x0 x1 x2 x3 x4 x5 x6 x7 x8
          go_loopw [15, 155] (fun v i wr => ∃ m : Nat, i = .int .i64 m ∧ m ≤ pl ∧ v = .int .i64 (WT - SHR - paidF p.paid j m) ∧ Hid (Below w5.heap.size w5 wr)) (fun _ i _ => pl - (intOf i).toNat)
          case atStart => exact ⟨0, rfl, Nat.zero_le _, by simp [paidF], Below.refl _ _⟩
          case round =>
            obtain ⟨m, rfl, hm, rfl, HBS⟩ := hrel
            have HBS2 : Hid (Below W2.heap.size W2 wr) := HB52.out.trans (HBS.out.mono HB52.out.size)
            have HBS' : Hid (Below W.heap.size W wr) := HW2.out.trans (HBS2.out.mono hw2)
            obtain ⟨x0, x1, x2, x3, x4, x5, x6, x7, x8⟩ := HF.out _ HBS'.out
            have hos : w5.heap.size ≤ wr.heap.size := HBS.out.size
            obtain ⟨p0, p1⟩ := paidF_bd HV.out j m
            by_cases hml : m < pl
            · obtain ⟨c, hc⟩ : ∃ c, p.paid[m]? = some c := ⟨p.paid[m]'(by have := HPL.out; omega), by simp⟩
              obtain ⟨_, _, _, _, d0, d1⟩ := payB_paid HV.out hc
              have HST : Hid (paidF p.paid j (m + 1) = paidF p.paid j m + if c.who = j then c.pence else 0) := by show _ = _; rw [paidF, hc]
              obtain ⟨b, off, rfl, hbl, H0, H1, H2⟩ := (HPB.out _ HBS'.out).hpaid m c hc
              obtain ⟨cw, cr, cp⟩ := c
              simp only at d0 d1 H0 H1 H2 HST
              clear hc
              by_cases hwho : cw = j
              · subst hwho
                go_wp2
                go_roundw
                case rel => exact ⟨m + 1, by go_num, by omega, by rw [HST.out, if_pos rfl]; go_num, HBS.out.alloc hos _⟩
                case measure => simp [intOf]; omega
              · go_wp2
                go_roundw
                case rel => exact ⟨m + 1, by go_num, by omega, by rw [HST.out, if_neg hwho]; go_num, HBS.out.alloc hos _⟩
                case measure => simp [intOf]; omega
            · obtain rfl : pl = m := by omega
              obtain ⟨z0, z1, z2, z3, z4, z5, z6, z7, z8⟩ := HG.out _ HBS2.out
              rw [HPQ.out]
              go_wp2_with fail
              refine (PWages_any (p := runsP p R) j _ (by exact HPX.out _ HBS2.out)).mono ?_
              rw [HE5.out]
              simp only [spV]
              rintro e w6 ⟨rfl, hb6⟩
              have HB6 : Hid (Below W2.heap.size W2 w6) := HBS2.out.trans (hb6.mono HBS2.out.size)
              clear hb6
              clear x0 x1 x2 x3 x4 x5 x6 x7 x8
              clear z0 z1 z2 z3 z4 z5 z6 z7 z8
              obtain ⟨z0, z1, z2, z3, z4, z5, z6, z7, z8⟩ := HG.out _ HB6.out
              go_wp2_with fail
              refine (PLeft_any (p := runsP p R) j _ (by exact HPX.out _ (HB6.out.alloc z8 _))).mono ?_
              rw [HE6.out]
              simp only [spV]
              rintro e w7 ⟨rfl, hb7⟩
              have HB7 : Hid (Below W2.heap.size W2 w7) := (HB6.out.alloc z8 _).trans (hb7.mono (HB6.out.alloc z8 _).size)
              have HK7 : Hid (Blk w7 w6.heap.size 34 #[.int .i64 WL, .int .i64 WU]) := (Blk.new_ rfl _ _).below hb7 (by simp)
              clear hb7
              clear z0 z1 z2 z3 z4 z5 z6 z7 z8
              have y0 := HK7.out.cell 0
              have y1 := HK7.out.cell 1
              simp at y0 y1
              have y2 := HK7.out.lt
              have y3 : W2.heap.size ≤ w7.heap.size := HB7.out.size
              go_wp2_with fail
              refine (inside_is HI1.out _).mono ?_
              rintro e w8 ⟨rfl, hb8⟩
              have HB8 : Hid (Below W2.heap.size W2 w8) := (HB7.out.alloc y3 _).trans (hb8.mono (HB7.out.alloc y3 _).size)
              have HL8 : Hid (Blk w8 w7.heap.size 34 #[.int .i64 (WL - (SHR + Q)), .int .i64 (WU - (SHR + Q))]) := (Blk.new_ rfl _ _).below hb8 (by simp)
              clear hb8 y0 y1 y2 y3
              have y0 := HL8.out.cell 0
              have y1 := HL8.out.cell 1
              simp at y0 y1
              have y2 := HL8.out.lt
              go_wp2_with fail
              refine (inside_is HI2.out _).mono ?_
              rintro e w9 ⟨rfl, hb9⟩
              have HB9 : Hid (Below W2.heap.size W2 w9) := HB8.out.trans (hb9.mono HB8.out.size)
              clear hb9 y0 y1 y2
              go_wp2
              go_roundw
              case rel => exact ⟨j + 1, by go_num, by omega, HB9.out⟩
              case measure => simp [intOf]; omega
    · obtain rfl : n = j := by omega
      go_wp2
      clear x0 x1 x2 x3 x4 x5 x6 x7 x8
      obtain ⟨wo, rfl⟩ : ∃ wo : World, wo = wr := ⟨_, rfl⟩
      go_loopw [205] (fun i wr => ∃ k : Nat, i = .int .i64 k ∧ k ≤ rl ∧ Hid (Below W2.heap.size W2 wr)) (fun i _ => rl - (intOf i).toNat)
      case atStart => exact ⟨0, rfl, Nat.zero_le _, HBR.out⟩
      case round =>
        obtain ⟨k, rfl, hk, HBQ⟩ := hrel
        have HBQ' : Hid (Below W.heap.size W wr) := HW2.out.trans (HBQ.out.mono hw2)
        by_cases hkr : k < rl
        · obtain ⟨l, hl⟩ : ∃ l, L[k]? = some l := ⟨L[k]'(by rw [HLL.out]; exact hkr), by simp⟩
          obtain ⟨hln, b, g, c, e1, hb, S0, hg, S1⟩ := (HSH.out.below (HWW2.out.trans (HBQ.out.mono (Nat.le_of_lt hw2b)))) k l hl
          obtain rfl : Sb = b := by simpa using e1
          have HS1 := Lib.hid S1
          have HLB : Hid (∀ q : Nat, q ≤ n → 0 ≤ sumF l q ∧ sumF l q ≤ 100 * q) := by
            show ∀ _, _
            intro q
            induction q with
            | zero => intro _; simp [sumF]
            | succ q ih =>
              intro hq
              have h1 := ih (by omega)
              have hql : q < l.length := by omega
              have h2 := HTB.out k q hkr (by omega)
              unfold tv at h2
              rw [Int.toNat_natCast, hl, Int.toNat_natCast] at h2
              simp only [Option.getD_some] at h2
              rw [sumF]
              omega
          obtain ⟨ALL, HALL⟩ : ∃ v, Hid (sumF l n = v) := ⟨_, rfl⟩
          obtain ⟨⟨OL, OU⟩, HOG⟩ : ∃ s, Hid (outS (runsP p R) k = s) := ⟨_, rfl⟩
          have HE4 : Hid (spanR (checkE (runsP p R) (runB (runsP p R) k) true) (outS (runsP p R) k) = (⟨OL, OU⟩, 0)) := by
            show _ = _
            rw [spanR_ok HVX.out HTX.out (runB_in (by omega) (by show (k : Int) < R.length; rw [HRR.out]; omega)), HOG.out]
          have HIN : Hid ((decide (OL ≤ ALL) && decide (ALL ≤ OU)) = true) := by
            have h := HTR.out.out HVX.out (r := k) (by omega) (by show (k : Int) < R.length; rw [HRR.out]; omega)
            have e : sumI (tv L k) (runsP p R).people.toNat 0 = ALL := by
              rw [show (runsP p R).people.toNat = n by show p.people.toNat = n; rw [HPE.out]; simp, ← HALL.out, ← sumI_list l n]
              congr 1
              funext who
              unfold tv
              rw [Int.toNat_natCast, hl]; rfl
            rw [HOG.out, e] at h
            exact in_true h.1 h.2
          have hln' := Lib.hid hln
          clear hl S1 e1 hln
          go_wp2
          obtain ⟨wp, rfl⟩ : ∃ wp : World, wp = wr := ⟨_, rfl⟩
          clear S0
          go_loop [30, 212] (fun v i => ∃ m : Nat, i = .int .i64 m ∧ m ≤ n ∧ v = .int .i64 (sumF l m)) (fun _ i => n - (intOf i).toNat)
          case atStart => exact ⟨0, rfl, Nat.zero_le _, rfl⟩
          case round =>
            obtain ⟨m, rfl, hm, rfl⟩ := hrel
            obtain ⟨m0, m1⟩ := HLB.out m hm
            by_cases hmn : m < n
            · obtain ⟨t, ht⟩ : ∃ t, l[m]? = some t := ⟨l[m]'(by rw [hln'.out]; exact hmn), by simp⟩
              have S2 := HS1.out m t ht
              have HST : Hid (sumF l (m + 1) = sumF l m + t) := by show _ = _; rw [sumF, ht]; rfl
              have h3 := HLB.out (m + 1) (by omega)
              rw [HST.out] at h3
              obtain ⟨m2, m3⟩ := h3
              clear ht
              go_wp2
              go_round
              case rel => exact ⟨m + 1, by go_num, by omega, by rw [HST.out]⟩
              case measure => simp [intOf]; omega
            · obtain rfl : n = m := by omega
              rw [HALL.out]
              obtain ⟨z0, z1, z2, z3, z4, z5, z6, z7, z8⟩ := HG.out _ HBQ.out
              go_wp2_with fail
              refine (POut_any (p := runsP p R) k _ (by exact HPX.out _ HBQ.out)).mono ?_
              rw [HE4.out]
              simp only [spV]
              rintro e w6 ⟨rfl, hb6⟩
              have HB6 : Hid (Below W2.heap.size W2 w6) := HBQ.out.trans (hb6.mono HBQ.out.size)
              clear hb6
              clear z0 z1 z2 z3 z4 z5 z6 z7 z8
              have y3 : W2.heap.size ≤ w6.heap.size := HB6.out.size
              go_wp2_with fail
              refine (inside_is HIN.out _).mono ?_
              rintro e w8 ⟨rfl, hb8⟩
              have HB8 : Hid (Below W2.heap.size W2 w8) := (HB6.out.alloc y3 _).trans (hb8.mono (HB6.out.alloc y3 _).size)
              clear hb8
              go_wp2
              go_roundw
              case rel => exact ⟨k + 1, by go_num, by omega, HB8.out⟩
              case measure => simp [intOf]; omega
        · go_wp2_with fail
          refine (awake_any _ (by exact HR.out.below (HBW.out.trans (HBQ'.out.mono (by omega))))).mono ?_
          rintro e wz ⟨rfl, hbz⟩
          go_wp2
          go_ret
          exact ⟨rfl, HBW.out.trans ((HBQ'.out.trans (hbz.mono HBQ'.out.size)).mono (by omega))⟩
end
end Go.Proofs.YtlcolpnniipgbaaDoor
