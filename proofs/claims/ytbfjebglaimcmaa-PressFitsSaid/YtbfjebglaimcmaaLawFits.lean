/- The walk of PressFits: for every press it answers true. -/
import Derived.Test.YtbfjebglaimcmaaLawC
namespace Go.Proofs.Ytbfjebglaimcmaa
open Go.RowKit Go.Hav
section
variable {low top bales : Int} {fa wa : Option Addr} {fl fc wl wp : Nat} {p : PressD}
set_option maxRecDepth 100000 in
set_option maxHeartbeats 6400000 in
theorem PressFits_any (m : Nat) (hm : m ≤ 65535) (w : World) (hP : PressIn w w.heap.size fa fl low top bales wa wl p) :
    Calls Try.prog 8 #[pressV fa fl fc low top bales wa wl wp, .int .u16 m] w fun e w' => e = .returned (.bool true) ∧ Below w.heap.size w w' := by
  have HP := Lib.hid hP
  have HEQ : Hid (p.n = fl ∧ p.low = low ∧ p.top = top) := ⟨hP.efl, hP.elow, hP.etop⟩
  clear hP
  unfold pressV
  go_enter Try.func8, Try.ntmps8
  go_wp2_with fail
  obtain ⟨W, hW⟩ : ∃ W, W = w.alloc (Obj.cells #[Value.slice fa fl fc, Value.int IntKind.i64 low, Value.int IntKind.i64 top, Value.int IntKind.i64 bales, Value.slice wa wl wp] 25) := ⟨_, rfl⟩
  have HX : Hid (Blk W w.heap.size 25 #[Value.slice fa fl fc, Value.int IntKind.i64 low, Value.int IntKind.i64 top, Value.int IntKind.i64 bales, Value.slice wa wl wp]) := by rw [hW]; exact Blk.new w 25 _
  have HBW : Hid (Below w.heap.size w W) := by rw [hW]; exact (Below.refl _ _).alloc (Nat.le_refl _) _
  rw [← hW]
  clear hW
  have HPW : Hid (PressIn W W.heap.size fa fl low top bales wa wl p) := HP.out.grow HBW.out
  have HFT : Hid (∀ (q : Nat) (wv : World), Below W.heap.size W wv → Calls Try.prog 16 #[.agg #[.slice fa fl fc, .int .i64 low, .int .i64 top, .int .i64 bales, .slice wa wl wp], .int .i64 q] wv fun e w' => e = .returned (.tuple #[.int .i64 (if setE p q = 0 then p.fits (q : Int).toNat else 0), .int .i64 (setE p q)]) ∧ Below wv.heap.size wv w') :=
    fun q wv hb => PFits_any (p := p) q wv (by exact HPW.out.grow hb)
  have HFX : Hid (∀ (M1 M2 : Int) (q : Nat) (wv : World), Below W.heap.size W wv → Calls Try.prog 16 #[.agg #[.slice fa fl fc, .int .i64 M1, .int .i64 M2, .int .i64 bales, .slice wa wl wp], .int .i64 q] wv fun e w' => e = .returned (.tuple #[.int .i64 (if setE (bound p M1 M2 bales) q = 0 then (bound p M1 M2 bales).fits (q : Int).toNat else 0), .int .i64 (setE (bound p M1 M2 bales) q)]) ∧ Below wv.heap.size wv w') :=
    fun M1 M2 q wv hb => PFits_any (p := bound p M1 M2 bales) q wv (by have h := HPW.out.grow hb; exact ⟨rfl, rfl, rfl, h.efl, h.ewl, h.mfl, h.mwl, h.hfl, h.hwl⟩)
  have HBAL : Hid (p.bales = bales) := HPW.out.ebales
  refine (fine_any (p := p) W (by exact HPW.out)).mono ?_
  rintro e v1 ⟨⟨b, rfl, hb⟩, hb1⟩
  have HC1 := Lib.hid hb1
  clear hb1
  cases b
  · clear hb
    go_wp2_with fail
    refine (awake_any _).mono ?_
    rintro e v2 ⟨rfl, hb2⟩
    go_wp2
    go_ret
    exact ⟨rfl, HBW.out.trans ((HC1.out.trans (hb2.mono HC1.out.size)).mono HBW.out.size)⟩
  obtain ⟨hv, h40, h41⟩ := hb rfl
  clear hb
  have hn10 : fl ≤ 10 := by have := (PressD.ok_head hv).1; rw [HEQ.out.1] at this; exact this
  have HV := Lib.hid hv
  have hfull : full fl ≤ 1023 := by
    unfold full
    have h := Nat.pow_le_pow_right (n := 2) (by omega) hn10
    omega
  have HAND : Hid (bits BinOp.and IntKind.i64 (m : Int) ((full fl : Nat) : Int) = ((m &&& full fl : Nat) : Int)) := and_i64 m (full fl) (by omega) (by omega)
  obtain ⟨s, hs⟩ : ∃ s, m &&& full fl = s := ⟨_, rfl⟩
  rw [hs] at HAND
  have hsf : s ≤ full fl := by rw [← hs]; exact Nat.and_le_right
  have hs10 : s < 1024 := by omega
  have HSN : Hid (s ≤ full p.n) := by show _ ≤ _; rw [HEQ.out.1]; exact hsf
  clear hv hs
  have hx1 := HX.out.below (HC1.out) HX.out.lt
  have x1_0 := hx1.cell 0
  have x1_1 := hx1.cell 1
  have x1_2 := hx1.cell 2
  have x1_3 := hx1.cell 3
  have x1_4 := hx1.cell 4
  simp at x1_0 x1_1 x1_2 x1_3 x1_4
  have l1 := hx1.lt
  clear hx1
  go_wp2_with fail
  refine (every_any (low := low) (top := top) (bales := bales) (fa := fa) (fc := fc) (wa := wa) (wl := wl) (wc := wp) h40 _).mono ?_
  rintro e v2 ⟨rfl, hb2⟩
  have HC2 : Hid (Below W.heap.size W v2) := HC1.out.trans (hb2.mono HC1.out.size)
  clear hb2
  clear x1_0 x1_1 x1_2 x1_3 x1_4 l1
  have hx2 := HX.out.below (HC2.out) HX.out.lt
  have x2_0 := hx2.cell 0
  have x2_1 := hx2.cell 1
  have x2_2 := hx2.cell 2
  have x2_3 := hx2.cell 3
  have x2_4 := hx2.cell 4
  simp at x2_0 x2_1 x2_2 x2_3 x2_4
  have l2 := hx2.lt
  clear hx2
  have hand := HAND.out
  go_wp2_with fail
  refine (PWeight_any (p := p) s v2 (by exact HPW.out.grow HC2.out)).mono ?_
  by_cases hw : p.wrong = 0
  case neg =>
    have HSE : Hid (setE p s = 10) := by show _ = _; rw [setE_ok HV.out HSN.out, if_neg hw]
    have HWT : Hid (weightR p s = ⟨0, 0⟩) := by show _ = _; rw [weightR, HSE.out]; rfl
    have HAD : Hid (addR p s = .tuple #[.int .i64 0, .int .i64 10]) := by show _ = _; rw [addR, HSE.out]; rfl
    rw [HSE.out, HWT.out]
    unfold spV
    rintro e v3 ⟨rfl, hb3⟩
    have HC3 : Hid (Below W.heap.size W v3) := HC2.out.trans (hb3.mono HC2.out.size)
    have hs3 := HC3.out.size
    clear hb3 hw x2_0 x2_1 x2_2 x2_3 x2_4 l2
    have hx3 := HX.out.below HC3.out HX.out.lt
    have x0 := hx3.cell 0
    have x1 := hx3.cell 1
    have x2 := hx3.cell 2
    have x3 := hx3.cell 3
    have x4 := hx3.cell 4
    simp at x0 x1 x2 x3 x4
    have l3 := hx3.lt
    clear hx3
    go_wp2_with fail
    refine (PFits_any (p := p) s _ (by exact HPW.out.grow (HC3.out.alloc hs3 _))).mono ?_
    rw [HSE.out]
    rintro e v4 ⟨rfl, hb4⟩
    have HC4 : Hid (Below W.heap.size W v4) := (HC3.out.alloc hs3 _).trans (hb4.mono (by simp; omega))
    clear hb4 x0 x1 x2 x3 x4 l3
    have hx4 := HX.out.below HC4.out HX.out.lt
    have x0 := hx4.cell 0
    have x1 := hx4.cell 1
    have x2 := hx4.cell 2
    have x3 := hx4.cell 3
    have x4 := hx4.cell 4
    simp at x0 x1 x2 x3 x4
    have l4 := hx4.lt
    clear hx4
    go_wp2_with fail
    refine (PAdd_any (p := p) s _ (by exact HPW.out.grow HC4.out)).mono ?_
    rw [HAD.out]
    rintro e v5 ⟨rfl, hb5⟩
    have HC5 : Hid (Below W.heap.size W v5) := HC4.out.trans (hb5.mono HC4.out.size)
    clear hb5
    go_wp2_with fail
    refine (awake_any _).mono ?_
    rintro e v6 ⟨rfl, hb6⟩
    go_wp2
    go_ret
    exact ⟨rfl, HBW.out.trans ((HC5.out.trans (hb6.mono HC5.out.size)).mono HBW.out.size)⟩
  have HSE : Hid (setE p s = 0) := by show _ = _; rw [setE_ok HV.out HSN.out, if_pos hw]
  have HWR := Lib.hid hw
  clear hw
  obtain ⟨⟨k0, k1⟩, hK⟩ : ∃ K, p.weight s = K := ⟨_, rfl⟩
  have HK := Lib.hid hK
  have HWT : Hid (weightR p s = ⟨k0, k1⟩) := by show _ = _; rw [weightR, HSE.out, if_pos rfl, ← hK]; rfl
  obtain ⟨A, hA⟩ : ∃ A, p.sure s = A := ⟨_, rfl⟩
  obtain ⟨N, hN⟩ : ∃ N, (!p.may s) = N := ⟨_, rfl⟩
  obtain ⟨F, hF⟩ : ∃ F, p.fits s = F := ⟨_, rfl⟩
  obtain ⟨one, hone⟩ : ∃ o, p.alike s = o := ⟨_, rfl⟩
  have HA := Lib.hid hA
  have HN := Lib.hid hN
  have HF := Lib.hid hF
  have HONE := Lib.hid hone
  have hf2 : (F == 2) = A := by rw [← hF, ← hA]; exact fits_sure p s
  have hf0 : (F == 0) = N := by rw [← hF, ← hN]; exact fits_may HV.out HWR.out s
  have hfl0 : decide (F < 0) = false := by have := fits_bd p s; rw [hF] at this; simp; omega
  have hfl2 : decide (2 < F) = false := by have := fits_bd p s; rw [hF] at this; simp; omega
  have HAE : Hid (A = (one && decide (low ≤ k0) && decide (k1 ≤ top))) := by show _ = _; rw [← hA, sure_eq HV.out HWR.out, hK, hone, HEQ.out.2.1, HEQ.out.2.2]
  have HNE : Hid (N = (!(one && decide (low ≤ k1) && decide (k0 ≤ top)))) := by show _ = _; rw [← hN, PressD.may, hK, hone, HEQ.out.2.1, HEQ.out.2.2]
  clear hK hA hN hF hone
  rw [HSE.out, HWT.out]
  unfold spV
  rintro e v3 ⟨rfl, hb3⟩
  have HC3 : Hid (Below W.heap.size W v3) := HC2.out.trans (hb3.mono HC2.out.size)
  have hs3 := HC3.out.size
  have HS3 : Hid (Blk (v3.alloc (.cells #[.int .i64 k0, .int .i64 k1] 29)) v3.heap.size 29 #[.int .i64 k0, .int .i64 k1]) := Blk.new v3 29 _
  clear hb3
  clear x2_0 x2_1 x2_2 x2_3 x2_4 l2
  have hx3 := HX.out.below (HC3.out) HX.out.lt
  have x3_0 := hx3.cell 0
  have x3_1 := hx3.cell 1
  have x3_2 := hx3.cell 2
  have x3_3 := hx3.cell 3
  have x3_4 := hx3.cell 4
  simp at x3_0 x3_1 x3_2 x3_3 x3_4
  have l3 := hx3.lt
  clear hx3
  go_wp2_with fail
  refine (PFits_any (p := p) s _ (by exact HPW.out.grow (HC3.out.alloc hs3 _))).mono ?_
  rw [HSE.out, if_pos rfl, show ((s : Int)).toNat = s from rfl, HF.out]
  rintro e v4 ⟨rfl, hb4⟩
  have HC4 : Hid (Below W.heap.size W v4) := (HC3.out.alloc hs3 _).trans (hb4.mono (by simp; omega))
  have HS4 := Lib.hid (HS3.out.below hb4 HS3.out.lt)
  clear hb4
  clear x3_0 x3_1 x3_2 x3_3 x3_4 l3
  have hx4 := HX.out.below (HC4.out) HX.out.lt
  have x4_0 := hx4.cell 0
  have x4_1 := hx4.cell 1
  have x4_2 := hx4.cell 2
  have x4_3 := hx4.cell 3
  have x4_4 := hx4.cell 4
  simp at x4_0 x4_1 x4_2 x4_3 x4_4
  have l4 := hx4.lt
  clear hx4
  go_wp2_with fail
  refine (PAdd_any (p := p) s _ (by exact HPW.out.grow HC4.out)).mono ?_
  obtain ⟨av, ae, hav, hbv⟩ : ∃ av ae : Int, addR p s = .tuple #[.int .i64 av, .int .i64 ae] ∧ Hid ((ae = 0 ∧ 0 ≤ addI p s ∧ av = addI p s) ∨ (ae = 4 ∧ addI p s < 0 ∧ av = 0)) := by
    rw [addR, HSE.out, if_pos rfl, show ((s : Int)).toNat = s from rfl]
    by_cases h : addI p s < 0
    · exact ⟨0, 4, by rw [if_pos h], .inr ⟨rfl, h, rfl⟩⟩
    · exact ⟨addI p s, 0, by rw [if_neg h], .inl ⟨rfl, by omega, rfl⟩⟩
  rw [hav]
  clear hav
  rintro e v5 ⟨rfl, hb5⟩
  have HC5 : Hid (Below W.heap.size W v5) := HC4.out.trans (hb5.mono HC4.out.size)
  have HS5 := Lib.hid (HS4.out.below hb5 HS4.out.lt)
  clear hb5
  clear x4_0 x4_1 x4_2 x4_3 x4_4 l4
  have hx5 := HX.out.below (HC5.out) HX.out.lt
  have x5_0 := hx5.cell 0
  have x5_1 := hx5.cell 1
  have x5_2 := hx5.cell 2
  have x5_3 := hx5.cell 3
  have x5_4 := hx5.cell 4
  simp at x5_0 x5_1 x5_2 x5_3 x5_4
  have l5 := hx5.lt
  clear hx5
  go_wp2_with fail
  refine (lalike_any (p := p) HV.out s hs10 _ (by exact HPW.out.grow HC5.out)).mono ?_
  rw [HONE.out]
  rintro e v6 ⟨rfl, hb6⟩
  have HC6 : Hid (Below W.heap.size W v6) := HC5.out.trans (hb6.mono HC5.out.size)
  have HS6 := Lib.hid (HS5.out.below hb6 HS5.out.lt)
  clear hb6
  clear x5_0 x5_1 x5_2 x5_3 x5_4 l5
  have hx6 := HX.out.below (HC6.out) HX.out.lt
  have x6_0 := hx6.cell 0
  have x6_1 := hx6.cell 1
  have x6_2 := hx6.cell 2
  have x6_3 := hx6.cell 3
  have x6_4 := hx6.cell 4
  simp at x6_0 x6_1 x6_2 x6_3 x6_4
  have l6 := hx6.lt
  clear hx6
  have y0 : v6.cell? ⟨v3.heap.size, 0, none⟩ = some (.int .i64 k0) := HS6.out.cell 0
  have y1 : v6.cell? ⟨v3.heap.size, 1, none⟩ = some (.int .i64 k1) := HS6.out.cell 1
  have ly := HS6.out.lt
  go_upto_region 10 with fail
  go_cut [13] from 77 to 91 (fun x wx => x = .bool A ∧ wx = v6)
  case first =>
    cases one
    · have ha : A = false := HAE.out
      subst ha
      go_wp2
      go_meet
      exact ⟨rfl, rfl⟩
    · cases h1 : decide (low ≤ k0)
      · have ha : A = false := by rw [HAE.out, h1]; rfl
        subst ha
        go_wp2
        go_meet
        exact ⟨rfl, rfl⟩
      · have ha : A = decide (k1 ≤ top) := by rw [HAE.out, h1]; rfl
        subst ha
        go_wp2
        go_meet
        exact ⟨rfl, rfl⟩
  case rest =>
  obtain ⟨rfl, rfl⟩ := hcut
  go_upto_region 11 with fail
  go_cut [14] from 92 to 107 (fun x wx => x = .bool N ∧ wx = wc)
  case first =>
    cases one
    · have ha : N = true := HNE.out
      subst ha
      go_wp2
      go_meet
      exact ⟨rfl, rfl⟩
    · by_cases h1 : low ≤ k1
      · have hd : decide (k1 < low) = false := by simp; omega
        have ha : N = decide (top < k0) := by
          rw [HNE.out, decide_eq_true h1]
          by_cases h2 : k0 ≤ top
          · have h3 : ¬ top < k0 := by omega
            simp [h2, h3]
          · have h3 : top < k0 := by omega
            simp [h2, h3]
        subst ha
        go_wp2
        go_meet
        exact ⟨rfl, rfl⟩
      · have hd : decide (k1 < low) = true := by simp; omega
        have ha : N = true := by rw [HNE.out]; simp [h1]
        subst ha
        go_wp2
        go_meet
        exact ⟨rfl, rfl⟩
  case rest =>
  obtain ⟨rfl, rfl⟩ := hcut
  go_upto_region 12 with fail
  go_cut [141] from 108 to 140 (fun x wx => x = .bool false ∧ wx = wc)
  case first =>
    have hAA : (A != A) = false := by cases A <;> rfl
    have hNN : (N != N) = false := by cases N <;> rfl
    rcases hbv.out with ⟨rfl, -, -⟩ | ⟨rfl, -, rfl⟩
    · go_wp2
      go_meet
      exact ⟨rfl, rfl⟩
    · go_wp2
      go_meet
      exact ⟨rfl, rfl⟩
  case rest =>
  obtain ⟨rfl, rfl⟩ := hcut
  clear hf2 hf0 hfl0 hfl2
  go_wp2
  clear x6_0 x6_1 x6_2 x6_3 x6_4 l6 y0 y1 ly hand
  go_loopw [15, 145] (fun f i wr => ∃ (k : Nat) (t : Int), k ≤ fl ∧ i = .int .i64 k ∧ f = .int .i64 t ∧ Hid (t = firstF p s k) ∧ -1 ≤ t ∧ t < k ∧ Below W.heap.size W wr) (fun _ i _ => fl - (intOf i).toNat)
  case atStart => exact ⟨0, -1, Nat.zero_le _, rfl, rfl, rfl, by omega, by omega, HC6.out⟩
  case round =>
    obtain ⟨k, t, hk, rfl, rfl, HT, ht0, ht1, hb⟩ := hrel
    have HB := Lib.hid hb
    clear hb
    have hxr := HX.out.below HB.out HX.out.lt
    have z0 := hxr.cell 0
    have z1 := hxr.cell 1
    have z2 := hxr.cell 2
    have z3 := hxr.cell 3
    have z4 := hxr.cell 4
    simp at z0 z1 z2 z3 z4
    have lz := hxr.lt
    clear hxr
    by_cases hlt : k < fl
    · have htb := tb_i64 s k (by omega)
      cases hbit : s.testBit k
      · have h2k : 2 ^ k ≤ 512 := by have := Nat.pow_le_pow_right (n := 2) (by omega) (show k ≤ 9 by omega); omega
        have h2p : 1 ≤ 2 ^ k := Nat.two_pow_pos k
        obtain ⟨q, hq⟩ : ∃ q, s ||| 2 ^ k = q := ⟨_, rfl⟩
        have hqf : q ≤ full fl := by
          have h1 : s < 2 ^ fl := by have := Nat.two_pow_pos fl; unfold full at hsf; omega
          have h2 : 2 ^ k < 2 ^ fl := Nat.pow_lt_pow_right (by omega) hlt
          have h3 := Nat.or_lt_two_pow h1 h2
          rw [hq] at h3
          unfold full
          omega
        have HW2 : Hid (IntKind.i64.wrap (2 ^ k) = 2 ^ k) := wrap_i64 (by have := pow_cast k; omega) (by have := pow_cast k; omega)
        have HOR : Hid (bits BinOp.or IntKind.i64 (s : Int) (2 ^ k) = (q : Int)) := by
          have h := or_i64 s (2 ^ k) (by omega) (by omega)
          rw [pow_cast, hq] at h
          exact h
        have HQE : Hid (setE p q = 0) := by show _ = _; rw [setE_ok HV.out (by rw [HEQ.out.1]; exact hqf), if_pos HWR.out]
        obtain ⟨G, hG⟩ : ∃ G, p.fits q = G := ⟨_, rfl⟩
        have HG := Lib.hid hG
        obtain ⟨sb, hsb⟩ : ∃ b, addB p s k = b := ⟨_, rfl⟩
        have hg2 : (G == 2) = sb := by rw [← hG, fits_sure, ← hsb, addB, hbit, hq]; rfl
        have HN : Hid (firstF p s (k + 1) = if t < 0 ∧ sb = true then (k : Int) else t) := by show _ = _; rw [firstF, hsb, ← HT.out]
        rw [hbit] at htb
        clear hbit hG hsb hq h2k h2p
        go_wp2
        refine wp_region_havoc [(0,false),(1,false),(2,false),(3,false),(4,false),(5,false),(6,false),(7,false),(8,false),(9,false),(10,false)] [] (fun _ _ => False) (by kernel_rfl) (by kernel_rfl) (fun _ _ _ _ h => h.elim) ?_
        (apply hav_same (by simp only [List.getElem?_toArray, List.getElem?_cons_zero]; rfl) (by kernel_rfl); (focus (intro wv hgv _; have hcv : ∀ b o, b < _ → wv.cell? ⟨b, o, none⟩ = _ := fun b o hb => Below.cell hgv (p := ⟨b, o, none⟩) hb; (try go_simp); try rfl; done)); simp only [Act.put, List.setIfInBounds_toArray, List.set_cons_succ, List.set_cons_zero])
        iterate 2 (apply hav_same (by simp only [List.getElem?_toArray, List.getElem?_cons_succ, List.getElem?_cons_zero]; rfl) (by kernel_rfl); (focus (intro wv hgv _; have hcv : ∀ b o, b < _ → wv.cell? ⟨b, o, none⟩ = _ := fun b o hb => Below.cell hgv (p := ⟨b, o, none⟩) hb; (try go_simp); try rfl; done)); simp only [Act.put, List.setIfInBounds_toArray, List.set_cons_succ, List.set_cons_zero])
        (apply hav_same (by simp only [List.getElem?_toArray, List.getElem?_cons_succ, List.getElem?_cons_zero]; rfl) (by kernel_rfl); (focus (intro wv hgv _; have hcv : ∀ b o, b < _ → wv.cell? ⟨b, o, none⟩ = _ := fun b o hb => Below.cell hgv (p := ⟨b, o, none⟩) hb; have hw2 := HW2.out; (try go_simp); try rfl; done)); simp only [Act.put, List.setIfInBounds_toArray, List.set_cons_succ, List.set_cons_zero])
        (apply hav_same (by simp only [List.getElem?_toArray, List.getElem?_cons_succ, List.getElem?_cons_zero]; rfl) (by kernel_rfl); (focus (intro wv hgv _; have hcv : ∀ b o, b < _ → wv.cell? ⟨b, o, none⟩ = _ := fun b o hb => Below.cell hgv (p := ⟨b, o, none⟩) hb; have hor := HOR.out; (try go_simp); try rfl; done)); simp only [Act.put, List.setIfInBounds_toArray, List.set_cons_succ, List.set_cons_zero])
        (apply hav_call (by simp only [List.getElem?_toArray, List.getElem?_cons_succ, List.getElem?_cons_zero]; rfl) (by kernel_rfl); (focus (intro wv; go_simp; try exact ⟨rfl, rfl⟩; done)); (focus (intro wv hgv _; have hq := HFT.out q wv (HB.out.trans (hgv.mono HB.out.size)); rw [HQE.out, if_pos rfl, show ((q : Int)).toNat = q from rfl, HG.out] at hq; exact hq; done)); simp only [Act.put, List.setIfInBounds_toArray, List.set_cons_succ, List.set_cons_zero])
        iterate 5 (apply hav_same (by simp only [List.getElem?_toArray, List.getElem?_cons_succ, List.getElem?_cons_zero]; rfl) (by kernel_rfl); (focus (intro wv hgv _; have hcv : ∀ b o, b < _ → wv.cell? ⟨b, o, none⟩ = _ := fun b o hb => Below.cell hgv (p := ⟨b, o, none⟩) hb; (try go_simp); try rfl; done)); simp only [Act.put, List.setIfInBounds_toArray, List.set_cons_succ, List.set_cons_zero])
        refine hav_end (fun wz hgwz _ => ?_); simp only [List.filterMap]; have hcwz : ∀ b o, b < _ → wz.cell? ⟨b, o, none⟩ = _ := fun b o hb => Below.cell hgwz (p := ⟨b, o, none⟩) hb; have hfwz : ∀ b o, b < _ → wz.frozen? ⟨b, o, none⟩ = _ := fun b o hb => Below.frozen hgwz (p := ⟨b, o, none⟩) hb; have hzwz := Below.size hgwz; (try simp at hzwz)
        have HBZ : Hid (Below W.heap.size W wz) := HB.out.trans (hgwz.mono HB.out.size)
        clear hgwz hcwz hfwz
        cases sb
        · rw [if_neg (by simp)] at HN
          go_wp2
          go_roundw
          case rel => exact ⟨k + 1, t, by omega, by go_num, rfl, HN.out.symm, ht0, by omega, HBZ.out⟩
          case measure => simp [intOf]; omega
        · by_cases hneg : t < 0
          · have hd : decide (t < 0) = true := by simp; omega
            rw [if_pos ⟨hneg, rfl⟩] at HN
            go_wp2
            go_roundw
            case rel => exact ⟨k + 1, k, by omega, by go_num, rfl, HN.out.symm, by omega, by omega, HBZ.out⟩
            case measure => simp [intOf]; omega
          · have hd : decide (t < 0) = false := by simp; omega
            rw [if_neg (by omega)] at HN
            go_wp2
            go_roundw
            case rel => exact ⟨k + 1, t, by omega, by go_num, rfl, HN.out.symm, ht0, by omega, HBZ.out⟩
            case measure => simp [intOf]; omega
      · have HN : Hid (t = firstF p s (k + 1)) := by show _ = _; rw [firstF, addB, hbit, ← HT.out]; simp
        rw [hbit] at htb
        clear hbit
        go_wp2
        go_roundw
        case rel => exact ⟨k + 1, t, by omega, by go_num, rfl, HN, ht0, by omega, HB.out⟩
        case measure => simp [intOf]; omega
    · obtain rfl : fl = k := by omega
      have hta : t = addI p s := by rw [HT.out, ← HEQ.out.1, firstF_addI]
      have HTA := Lib.hid hta
      clear hta
      obtain ⟨hl1, hl2, hl3⟩ : 1 ≤ low ∧ low ≤ top ∧ top ≤ 200 := by have h := PressD.ok_head HV.out; rw [HEQ.out.2.1, HEQ.out.2.2] at h; omega
      go_upto_region 25 with fail
      go_cut [185] from 172 to 184 (fun x wx => x = .bool false ∧ wx = wr)
      case first =>
        rcases hbv.out with ⟨rfl, h1, h2⟩ | ⟨rfl, h1, -⟩
        · have hge : decide (0 ≤ t) = true := by rw [HTA.out]; simp; omega
          have hne : (av != t) = false := by rw [HTA.out, h2]; simp
          clear h1 h2
          go_wp2
          go_meet
          exact ⟨rfl, rfl⟩
        · have hge : decide (0 ≤ t) = false := by rw [HTA.out]; simp; omega
          clear h1
          go_wp2
          go_meet
          exact ⟨rfl, rfl⟩
      case rest =>
      obtain ⟨rfl, rfl⟩ := hcut
      obtain ⟨M1, hM1⟩ : ∃ M1, max 1 (low - 1) = M1 := ⟨_, rfl⟩
      obtain ⟨M2, hM2⟩ : ∃ M2, min 200 (top + 1) = M2 := ⟨_, rfl⟩
      have HM1 := Lib.hid hM1
      have HM2 := Lib.hid hM2
      have HMB : Hid (1 ≤ M1 ∧ M1 ≤ low ∧ top ≤ M2 ∧ M2 ≤ 200) := show _ ∧ _ from by omega
      clear hM1 hM2
      go_upto_region 28 with fail
      have hls := HB.out.size
      obtain ⟨V, hV⟩ : ∃ V, V = wc.alloc (.cells #[.slice fa fl fc, .int .i64 low, .int .i64 top, .int .i64 bales, .slice wa wl wp] 25) := ⟨_, rfl⟩
      have HKX : Hid (Blk V wc.heap.size 25 #[.slice fa fl fc, .int .i64 low, .int .i64 top, .int .i64 bales, .slice wa wl wp]) := by rw [hV]; exact Blk.new wc 25 _
      have HBV : Hid (Below W.heap.size W V) := by rw [hV]; exact HB.out.alloc hls _
      rw [← hV]
      clear hV z0 z1 z2 z3 z4 lz
      have hxr := HX.out.below HBV.out HX.out.lt
      have z1 := hxr.cell 1
      have z2 := hxr.cell 2
      simp at z1 z2
      have lz := hxr.lt
      have lx := HKX.out.lt
      clear hxr
      have hlw : IntKind.i64.wrap (low - 1) = low - 1 := wrap_i64 (by omega) (by omega)
      have htw : IntKind.i64.wrap (top + 1) = top + 1 := wrap_i64 (by omega) (by omega)
      have HMX : Hid (∀ w, (Builtin.max_ #[3, 3] 3 #[.int .i64 1, .int .i64 (low - 1)]).run Try.prog w = .ok (.int .i64 M1) w) := fun w => by rw [max_run, HM1.out]
      have HMN : Hid (∀ w, (Builtin.min_ #[3, 3] 3 #[.int .i64 200, .int .i64 (top + 1)]).run Try.prog w = .ok (.int .i64 M2) w) := fun w => by rw [min_run, HM2.out]
      obtain ⟨r, hr⟩ : ∃ r, wc.heap.size = r := ⟨_, rfl⟩
      have hxr : w.heap.size ≠ r := by have h1 := HBW.out.size; have h2 := HX.out.lt; omega
      have hWr : W.heap.size ≤ r := by omega
      rw [hr] at HKX lx ⊢
      clear hr
      refine HavG.wp_region_havoc (R := GS r 25 (.slice fa fl fc) (.int .i64 bales) (.slice wa wl wp) (.int .i64 M1) (.int .i64 M2)) [(0,false),(1,false),(2,false),(3,false),(4,false),(5,false),(6,false),(7,false),(8,false),(10,false),(9,true),(11,true)] [] (fun _ _ => False) (by kernel_rfl) (by kernel_rfl) (fun _ _ _ _ h => h.elim) ?_
      (apply HavG.hav_same (by simp only [List.getElem?_toArray, List.getElem?_cons_zero]; rfl) (by kernel_rfl); (focus (intro wv hgv _; have hcv : ∀ b o, b < _ → b ≠ r → wv.cell? ⟨b, o, none⟩ = _ := fun b o hb hn => World.cell?_of_block (a := ⟨b, o, none⟩) (hgv.1.block b hb (fun e => hn (Option.some.inj e))); (try go_simp); try rfl; done)); simp only [Act.put, List.setIfInBounds_toArray, List.set_cons_succ, List.set_cons_zero])
      iterate 2 (apply HavG.hav_same (by simp only [List.getElem?_toArray, List.getElem?_cons_succ, List.getElem?_cons_zero]; rfl) (by kernel_rfl); (focus (intro wv hgv _; have hcv : ∀ b o, b < _ → b ≠ r → wv.cell? ⟨b, o, none⟩ = _ := fun b o hb hn => World.cell?_of_block (a := ⟨b, o, none⟩) (hgv.1.block b hb (fun e => hn (Option.some.inj e))); (try go_simp); try rfl; done)); simp only [Act.put, List.setIfInBounds_toArray, List.set_cons_succ, List.set_cons_zero])
      (apply HavG.hav_same (by simp only [List.getElem?_toArray, List.getElem?_cons_succ, List.getElem?_cons_zero]; rfl) (by kernel_rfl); (focus (intro wv hgv _; have hcv : ∀ b o, b < _ → b ≠ r → wv.cell? ⟨b, o, none⟩ = _ := fun b o hb hn => World.cell?_of_block (a := ⟨b, o, none⟩) (hgv.1.block b hb (fun e => hn (Option.some.inj e))); have hmx := HMX.out; (try go_simp); try rfl; done)); simp only [Act.put, List.setIfInBounds_toArray, List.set_cons_succ, List.set_cons_zero])
      iterate 3 (apply HavG.hav_same (by simp only [List.getElem?_toArray, List.getElem?_cons_succ, List.getElem?_cons_zero]; rfl) (by kernel_rfl); (focus (intro wv hgv _; have hcv : ∀ b o, b < _ → b ≠ r → wv.cell? ⟨b, o, none⟩ = _ := fun b o hb hn => World.cell?_of_block (a := ⟨b, o, none⟩) (hgv.1.block b hb (fun e => hn (Option.some.inj e))); (try go_simp); try rfl; done)); simp only [Act.put, List.setIfInBounds_toArray, List.set_cons_succ, List.set_cons_zero])
      (apply HavG.hav_same (by simp only [List.getElem?_toArray, List.getElem?_cons_succ, List.getElem?_cons_zero]; rfl) (by kernel_rfl); (focus (intro wv hgv _; have hcv : ∀ b o, b < _ → b ≠ r → wv.cell? ⟨b, o, none⟩ = _ := fun b o hb hn => World.cell?_of_block (a := ⟨b, o, none⟩) (hgv.1.block b hb (fun e => hn (Option.some.inj e))); have hmn := HMN.out; (try go_simp); try rfl; done)); simp only [Act.put, List.setIfInBounds_toArray, List.set_cons_succ, List.set_cons_zero])
      iterate 2 (apply HavG.hav_same (by simp only [List.getElem?_toArray, List.getElem?_cons_succ, List.getElem?_cons_zero]; rfl) (by kernel_rfl); (focus (intro wv hgv _; have hcv : ∀ b o, b < _ → b ≠ r → wv.cell? ⟨b, o, none⟩ = _ := fun b o hb hn => World.cell?_of_block (a := ⟨b, o, none⟩) (hgv.1.block b hb (fun e => hn (Option.some.inj e))); (try go_simp); try rfl; done)); simp only [Act.put, List.setIfInBounds_toArray, List.set_cons_succ, List.set_cons_zero])
      refine HavG.hav_store (fun wq => ∃ b, Blk wq r 25 #[.slice fa fl fc, .int .i64 M1, b, .int .i64 bales, .slice wa wl wp]) (by simp only [List.getElem?_toArray, List.getElem?_cons_succ, List.getElem?_cons_zero]; rfl) (by kernel_rfl) rfl (fun w w' ⟨b, hb⟩ hG => by
        obtain ⟨a', b', h1, h2, h3⟩ := hG.2 _ _ hb
        rcases h2 with rfl | rfl <;> exact ⟨b', h1⟩) ?_ ?_
      · intro wv hgv _
        obtain ⟨a', b', h1, -, -⟩ := hgv.2 _ _ HKX.out
        have hs := GS.set1 (s1 := .int .i64 M1) (s2 := .int .i64 M2) h1
        have c1 := h1.cell 1
        have f1 := h1.frozen 1
        simp at c1
        refine ⟨_, ?_, hs.1, b', hs.2⟩
        go_simp
        try rfl
      refine HavG.hav_store (fun wq => ∃ a, Blk wq r 25 #[.slice fa fl fc, a, .int .i64 M2, .int .i64 bales, .slice wa wl wp]) (by simp only [List.getElem?_toArray, List.getElem?_cons_succ, List.getElem?_cons_zero]; rfl) (by kernel_rfl) rfl (fun w w' ⟨b, hb⟩ hG => by
        obtain ⟨a', b', h1, h2, h3⟩ := hG.2 _ _ hb
        rcases h3 with rfl | rfl <;> exact ⟨a', h1⟩) ?_ ?_
      · intro wv hgv _
        obtain ⟨a', b', h1, -, -⟩ := hgv.2 _ _ HKX.out
        have hs := GS.set2 (s1 := .int .i64 M1) (s2 := .int .i64 M2) h1
        have c1 := h1.cell 2
        have f1 := h1.frozen 2
        simp at c1
        refine ⟨_, ?_, hs.1, a', hs.2⟩
        go_simp
        try rfl
      refine HavG.hav_end (fun wz hgwz hF => ?_)
      simp only [List.filterMap]
      have HKZ : Hid (Blk wz r 25 #[.slice fa fl fc, .int .i64 M1, .int .i64 M2, .int .i64 bales, .slice wa wl wp]) := by
        obtain ⟨⟨_, b, hb⟩, a, ha⟩ := hF
        have h1 := hb.symm.trans ha
        injection h1 with h1
        injection h1 with h1
        simp only [Array.mk.injEq, List.cons.injEq, true_and, and_true] at h1
        rw [h1.2] at hb
        exact hb
      have HBZ : Hid (Below W.heap.size W wz) := ⟨hgwz.1.os.trans HBV.out.os, hgwz.1.tape.trans HBV.out.tape, hgwz.1.output.trans HBV.out.output, Nat.le_trans HBV.out.size hgwz.1.size, fun k hk => (hgwz.1.block k (by have := HBV.out.size; omega) (fun e => by have := Option.some.inj e; omega)).trans (HBV.out.block k hk)⟩
      clear hgwz hF
      have k0x := HKZ.out.cell 0
      have k1x := HKZ.out.cell 1
      have k2x := HKZ.out.cell 2
      have k3x := HKZ.out.cell 3
      have k4x := HKZ.out.cell 4
      have lkx := HKZ.out.lt
      simp at k0x k1x k2x k3x k4x
      have HQO : Hid ((bound p M1 M2 bales).ok = true) := by
        have hb := PressD.ok_head HV.out
        rw [HBAL.out] at hb
        have h := HMB.out
        exact bound_ok HV.out (by omega) (by omega) (by omega) (by omega) (by omega)
      have HQE : Hid (setE (bound p M1 M2 bales) s = 0) := by show _ = _; rw [setE_ok HQO.out HSN.out, bound_wrong, if_pos HWR.out]
      obtain ⟨G, hG⟩ : ∃ G, (bound p M1 M2 bales).fits s = G := ⟨_, rfl⟩
      have hge : decide (F ≤ G) = true := by
        have h := bound_fits (l := M1) (t := M2) (b := bales) HV.out HWR.out (by rw [HEQ.out.2.1]; exact HMB.out.2.1) (by rw [HEQ.out.2.2]; exact HMB.out.2.2.1) s
        rw [HF.out, hG] at h
        simp
        exact h
      have HG := Lib.hid hG
      clear hG
      go_wp2_with fail
      refine (HFX.out M1 M2 s wz HBZ.out).mono ?_
      rw [HQE.out, if_pos rfl, show ((s : Int)).toNat = s from rfl, HG.out]
      rintro e w7 ⟨rfl, hb7⟩
      have HC7 : Hid (Below W.heap.size W w7) := HBZ.out.trans (hb7.mono HBZ.out.size)
      clear hb7
      go_wp2_with fail
      refine (awake_any _).mono ?_
      rintro e w8 ⟨rfl, hb8⟩
      go_wp2
      go_ret
      exact ⟨rfl, HBW.out.trans ((HC7.out.trans (hb8.mono HC7.out.size)).mono HBW.out.size)⟩
end
end Go.Proofs.Ytbfjebglaimcmaa
