/- The walk of PayWages: for every pay it answers true. -/
import Derived.Test.YtlcolpnniipgbaaDoorLawF
namespace Go.Proofs.YtlcolpnniipgbaaDoor
open Go.RowKit Go.Hav
/-- The same pay at another rate. -/
def atRate (p : PayD) (r : Int) : PayD := { p with rate := r }
theorem someB_rate (p : PayD) (r : Int) (run who sheep : Int) : ∀ (n : Nat) (f s : Int), someB (atRate p r) run who sheep n f s = someB p run who sheep n f s := by
  intro n
  induction n with
  | zero => intro f s; rfl
  | succ n ih =>
    intro f s
    rw [someB, someB]
    simp only [ih]
    rfl
theorem wrongF_rate (p : PayD) (r : Int) : ∀ n, wrongF (atRate p r) n = wrongF p n := by
  intro n
  induction n with
  | zero => rfl
  | succ n ih => rw [wrongF, wrongF, ih, show okRun (atRate p r) n = okRun p n from someB_rate p r _ _ _ _ _ _]
theorem wrongI_rate (p : PayD) (r : Int) : wrongI (atRate p r) = wrongI p := wrongF_rate p r _
theorem payB_rate0 {p : PayD} (h : payB p = true) : payB (atRate p 0) = true := by
  have e : ∀ c, callB (atRate p 0) c = callB p c := fun _ => rfl
  have e2 : ∀ c, paidB (atRate p 0) c = paidB p c := fun _ => rfl
  simp only [payB, headB, Bool.and_eq_true] at h ⊢
  obtain ⟨⟨⟨⟨⟨⟨⟨⟨⟨⟨h1, h2⟩, h3⟩, h4⟩, h5⟩, h6⟩, h7⟩, h8⟩, h9⟩, h10⟩, h11⟩ := h
  exact ⟨⟨⟨⟨⟨⟨⟨⟨⟨⟨h1, h2⟩, h3⟩, by rw [inB_iff]; show 0 ≤ (0 : Int) ∧ (0 : Int) ≤ 1000; omega⟩, h5⟩, h6⟩, h7⟩, h8⟩, h9⟩, h10⟩, h11⟩
theorem wagesF_zero (g : Int → Sp) : ∀ n, wagesF g 0 n = ⟨0, 0⟩ := by
  intro n
  induction n with
  | zero => rfl
  | succ n ih => rw [wagesF, ih]; simp
theorem tmod_eq {x : Int} (h : 0 ≤ x) : x.tmod 100 = x % 100 := Int.tmod_eq_emod_of_nonneg h
theorem tdiv_eq {x : Int} (h : 0 ≤ x) : x.tdiv 100 = x / 100 := Int.tdiv_eq_ediv_of_nonneg h
theorem wage_wrap {al X : Int} (h0 : 0 ≤ X) (h1 : X ≤ 100000) (a0 : 0 ≤ al) (a1 : al ≤ 4000) : IntKind.i64.wrap (al + IntKind.i64.wrap ((IntKind.i64.wrap (X - X.tmod 100)).tdiv 100)) = al + X / 100 := by
  rw [tmod_eq h0, IntWalk.i64_in (X - X % 100) (by omega), tdiv_eq (by omega), IntWalk.i64_in ((X - X % 100) / 100) (by omega), IntWalk.i64_in _ (by omega)]
  omega
theorem lspan_agg (lo hi : Int) (w : World) : Calls Tryd.prog 37 #[.int .i64 lo, .int .i64 hi] w fun e w' => e = .returned (.agg #[.int .i64 lo, .int .i64 hi]) ∧ Below w.heap.size w w' := lspan_any lo hi w
section
variable {people rate bill : Int} {ra ca da pa : Option Addr} {rl rc cl cc dl dc pl pc : Nat} {p : PayD}
theorem PayIn.rate0 {w : World} {B : Nat} (h : PayIn w B people ra rl ca cl rate bill da dl pa pl p) : PayIn w B people ra rl ca cl 0 bill da dl pa pl (atRate p 0) :=
  ⟨h.epeople, rfl, h.ebill, h.erl, h.ecl, h.edl, h.epl, h.mrl, h.mcl, h.mdl, h.mpl, h.hruns, h.hcalls, h.hdays, h.hpaid⟩
set_option maxRecDepth 100000 in
set_option maxHeartbeats 6400000 in
theorem PayWages_any (w : World) (hP : PayIn w w.heap.size people ra rl ca cl rate bill da dl pa pl p) (hR : RulesIn w) :
    Calls Tryd.prog 8 #[payV people ra rl rc ca cl cc rate bill da dl dc pa pl pc] w fun e w' => e = .returned (.bool true) ∧ Below w.heap.size w w' := by
  have HP := Lib.hid hP
  have HR := Lib.hid hR
  clear hP hR
  unfold payV
  go_enter Tryd.func8, Tryd.ntmps8
  go_wp2_with fail
  obtain ⟨W, hW⟩ : ∃ W, W = w.alloc (.cells (payCs people ra rl rc ca cl cc rate bill da dl dc pa pl pc) 27) := ⟨_, rfl⟩
  have HBK : Hid (Blk W w.heap.size 27 (payCs people ra rl rc ca cl cc rate bill da dl dc pa pl pc)) := by show Blk _ _ _ _; rw [hW]; exact Blk.new _ _ _
  have HBW : Hid (Below w.heap.size w W) := by show Below _ _ _; rw [hW]; exact (Below.refl _ _).alloc (Nat.le_refl _) _
  have hs0 : w.heap.size < W.heap.size := HBK.out.lt
  have hW' := hW.symm
  unfold payCs at hW'
  rw [hW']
  clear hW hW'
  have facts : ∀ wv, Below W.heap.size W wv → wv.cell? ⟨w.heap.size, 0, none⟩ = some (.int .i64 people) ∧ wv.cell? ⟨w.heap.size, 1, none⟩ = some (.slice ra rl rc) ∧ wv.cell? ⟨w.heap.size, 2, none⟩ = some (.slice ca cl cc) ∧
      wv.cell? ⟨w.heap.size, 3, none⟩ = some (.int .i64 rate) ∧ wv.cell? ⟨w.heap.size, 4, none⟩ = some (.int .i64 bill) ∧ wv.cell? ⟨w.heap.size, 5, none⟩ = some (.slice da dl dc) ∧ wv.cell? ⟨w.heap.size, 6, none⟩ = some (.slice pa pl pc) ∧ w.heap.size < wv.heap.size ∧ W.heap.size ≤ wv.heap.size := fun wv hb => by
    have h := HBK.out.below hb hs0
    exact ⟨h.cell 0, h.cell 1, h.cell 2, h.cell 3, h.cell 4, h.cell 5, h.cell 6, h.lt, hb.size⟩
  have HF := Lib.hid facts
  clear facts
  have HPB : Hid (∀ wv, Below W.heap.size W wv → PayIn wv wv.heap.size people ra rl ca cl rate bill da dl pa pl p) := fun wv hb => HP.out.grow (HBW.out.trans (hb.mono (by omega)))
  refine (fine_any (p := p) _ (by exact HP.out.grow HBW.out)).mono ?_
  rintro e w1 ⟨⟨b, rfl, hv⟩, hb1⟩
  have HB1 : Hid (Below W.heap.size W w1) := hb1
  clear hb1
  obtain ⟨x0, x1, x2, x3, x4, x5, x6, x7, x8⟩ := HF.out _ HB1.out
  cases b
  case false =>
    go_wp2_with fail
    refine (awake_any _ (by exact HR.out.below (HBW.out.trans (HB1.out.mono (by omega))))).mono ?_
    rintro e w2 ⟨rfl, hb2⟩
    go_wp2
    go_ret
    exact ⟨rfl, HBW.out.trans ((HB1.out.trans (hb2.mono HB1.out.size)).mono (by omega))⟩
  case true =>
  have hv := hv rfl
  have HV := Lib.hid hv
  obtain ⟨⟨a1, a2, a3, a4, a5, a6, a7, a8, a9, a10, a11⟩, _⟩ := payB_parts HP.out hv
  have HPE := Lib.hid HP.out.epeople
  have HRL := Lib.hid HP.out.erl
  have HRT := Lib.hid HP.out.erate
  have HPL := Lib.hid HP.out.epl
  clear hv
  by_cases ht : wrongI p = 0
  · have HT := Lib.hid ht
    clear ht
    go_wp2
    clear x0 x1 x2 x3 x4 x5 x6 x7 x8
    go_loopw [26] (fun i wr => ∃ k : Nat, i = .int .i64 k ∧ (k : Int) ≤ people ∧ Hid (Below W.heap.size W wr)) (fun i _ => people.toNat - (intOf i).toNat)
    case atStart => exact ⟨0, rfl, by omega, HB1.out⟩
    case round =>
      obtain ⟨k, rfl, hk, HBR⟩ := hrel
      obtain ⟨x0, x1, x2, x3, x4, x5, x6, x7, x8⟩ := HF.out _ HBR.out
      by_cases hlt : (k : Int) < people
      · have HWB : Hid (whoB p k = true) := whoB_in (by omega) (by rw [HPE.out]; exact hlt)
        obtain ⟨⟨WL, WU⟩, HWG⟩ : ∃ S, Hid (wagesF (fun r => sheepS p k r) rate rl = S) := ⟨_, rfl⟩
        obtain ⟨S, HSH⟩ : ∃ S, Hid (((sharesR p)[k]?).getD 0 = S) := ⟨_, rfl⟩
        obtain ⟨Q, HPD⟩ : ∃ Q, Hid (paidF p.paid k pl = Q) := ⟨_, rfl⟩
        have e1 : wagesP p k = ⟨WL, WU⟩ := by rw [wagesP, HRT.out, HRL.out]; exact HWG.out
        have e2 : leftP p k = ⟨WL - (S + Q), WU - (S + Q)⟩ := by rw [leftP, e1, HPL.out, HPD.out, Int.toNat_natCast, HSH.out, offS]
        have e3 : messR p k = (S, 0) := by rw [messR_ok HV.out HWB.out, Int.toNat_natCast, HSH.out]
        have e1' : spanR (checkE p (whoB p k) true) (wagesP p k) = (⟨WL, WU⟩, 0) := by rw [spanR_ok HV.out HT.out HWB.out, e1]
        have e2' : spanR (checkE p (whoB p k) true) (leftP p k) = (⟨WL - (S + Q), WU - (S + Q)⟩, 0) := by rw [spanR_ok HV.out HT.out HWB.out, e2]
        have HE1 := Lib.hid e1'
        have HE2 := Lib.hid e2'
        have HE3 := Lib.hid e3
        clear e1 e2 e3 e1' e2'
        have bw : 0 ≤ WL ∧ WL ≤ 4000 ∧ 0 ≤ WU ∧ WU ≤ 4000 := by
          have h := wagesP_in HV.out HT.out (who := k) (by omega) (by rw [HPE.out]; exact hlt) rl (by rw [HRL.out]; exact Nat.le_refl _)
          rw [HRT.out, HWG.out] at h
          simp only at h
          omega
        have bs : 0 ≤ S ∧ S ≤ 100004 := by have h := share_in HV.out k; rw [HSH.out] at h; exact h
        have bq : 0 ≤ Q ∧ Q ≤ 80000 := by have h := paidF_bd HV.out k pl; rw [HPD.out] at h; omega
        obtain ⟨bw0, bw1, bw2, bw3⟩ := bw
        obtain ⟨bs0, bs1⟩ := bs
        obtain ⟨bq0, bq1⟩ := bq
        go_wp2_with fail
        refine (PWages_any (p := p) k _ (by exact HPB.out _ HBR.out)).mono ?_
        rw [HE1.out]
        simp only [spV]
        rintro e w2 ⟨rfl, hb2⟩
        have HB2 : Hid (Below W.heap.size W w2) := HBR.out.trans (hb2.mono HBR.out.size)
        clear hb2 x0 x1 x2 x3 x4 x5 x6 x7 x8
        obtain ⟨x0, x1, x2, x3, x4, x5, x6, x7, x8⟩ := HF.out _ HB2.out
        go_wp2_with fail
        refine (PLeft_any (p := p) k _ (by exact HPB.out _ (HB2.out.alloc (by omega) _))).mono ?_
        rw [HE2.out]
        simp only [spV]
        rintro e w3 ⟨rfl, hb3⟩
        have HB3 : Hid (Below W.heap.size W w3) := (HB2.out.alloc (by omega) _).trans (hb3.mono (HB2.out.alloc (by omega) _).size)
        have HK3 : Hid (Blk w3 w2.heap.size 34 #[.int .i64 WL, .int .i64 WU]) := (Blk.new_ rfl _ _).below hb3 (by simp)
        clear hb3 x0 x1 x2 x3 x4 x5 x6 x7 x8
        obtain ⟨x0, x1, x2, x3, x4, x5, x6, x7, x8⟩ := HF.out _ HB3.out
        have ha3 : w2.heap.size < w3.heap.size := HK3.out.lt
        go_wp2_with fail
        refine (PMess_any (p := p) k _ (by exact HPB.out _ (HB3.out.alloc (by omega) _))).mono ?_
        rw [HE3.out]
        simp only
        rintro e w4 ⟨rfl, hb4⟩
        have HB4 : Hid (Below W.heap.size W w4) := (HB3.out.alloc (by omega) _).trans (hb4.mono (HB3.out.alloc (by omega) _).size)
        have HK4 : Hid (Blk w4 w2.heap.size 34 #[.int .i64 WL, .int .i64 WU]) := (HK3.out.alloc _).below hb4 (HK3.out.alloc _).lt
        have HL4 : Hid (Blk w4 w3.heap.size 34 #[.int .i64 (WL - (S + Q)), .int .i64 (WU - (S + Q))]) := (Blk.new_ rfl _ _).below hb4 (by simp)
        have hq4 : W.heap.size ≤ w3.heap.size := by omega
        have hq5 : w3.heap.size < w4.heap.size := HL4.out.lt
        clear hb4 x0 x1 x2 x3 x4 x5 x6 x7 x8
        obtain ⟨x0, x1, x2, x3, x4, x5, x6, x7, x8⟩ := HF.out _ HB4.out
        go_wp2
        clear x0 x1 x2 x3 x4 x5 x6 x7 x8
        go_loopw [10, 11, 71] (fun lo hi i wq => ∃ j : Nat, i = .int .i64 j ∧ j ≤ rl ∧ lo = .int .i64 (wagesF (fun r => sheepS p k r) rate j).lo ∧ hi = .int .i64 (wagesF (fun r => sheepS p k r) rate j).hi ∧ Hid (Below w4.heap.size w4 wq)) (fun _ _ i _ => rl - (intOf i).toNat)
        case atStart => exact ⟨0, rfl, Nat.zero_le _, rfl, rfl, Below.refl _ _⟩
        case round =>
          obtain ⟨j, rfl, hj, rfl, rfl, HBQ⟩ := hrel
          have HBQ' : Hid (Below W.heap.size W wr) := HB4.out.trans (HBQ.out.mono (by omega))
          obtain ⟨x0, x1, x2, x3, x4, x5, x6, x7, x8⟩ := HF.out _ HBQ'.out
          obtain ⟨o1, o2, o3, o4⟩ : 0 ≤ (wagesF (fun r => sheepS p k r) rate j).lo ∧ (wagesF (fun r => sheepS p k r) rate j).lo ≤ 4000 ∧ 0 ≤ (wagesF (fun r => sheepS p k r) rate j).hi ∧ (wagesF (fun r => sheepS p k r) rate j).hi ≤ 4000 := by
            have h := wagesP_in HV.out HT.out (who := k) (by omega) (by rw [HPE.out]; exact hlt) j (by rw [HRL.out]; exact hj)
            rw [HRT.out] at h
            omega
          by_cases hjl : j < rl
          · obtain ⟨⟨SL, SU⟩, HSG⟩ : ∃ s, Hid (sheepS p k j = s) := ⟨_, rfl⟩
            have HST : Hid (wagesF (fun r => sheepS p k r) rate (j + 1) = ⟨(wagesF (fun r => sheepS p k r) rate j).lo + SL * rate / 100, (wagesF (fun r => sheepS p k r) rate j).hi + SU * rate / 100⟩) := by
              show _ = _; rw [wagesF, HSG.out]
            obtain ⟨t1, t2, t3⟩ : 0 ≤ SL ∧ SL ≤ SU ∧ SU ≤ 100 := by
              have h := sheep_in HV.out HT.out (who := k) (run := j) (by omega) (by rw [HPE.out]; exact hlt) (by omega) (by rw [HRL.out]; omega)
              rw [HSG.out] at h
              exact h
            obtain ⟨v1, v2⟩ := wage_bd t1 (by omega) a6 a7
            obtain ⟨v3, v4⟩ := wage_bd (n := SU) (by omega) t3 a6 a7
            have e4 : spanR (checkE p (whoB p k && runB p j) true) (sheepS p k j) = (⟨SL, SU⟩, 0) := by rw [spanR_ok HV.out HT.out (by rw [HWB.out, runB_in (by omega) (by rw [HRL.out]; omega)]; rfl), HSG.out]
            have HE4 := Lib.hid e4
            clear e4
            generalize (wagesF (fun r => sheepS p k r) rate j).lo = al at *
            generalize (wagesF (fun r => sheepS p k r) rate j).hi = ah at *
            go_wp2_with fail
            refine (PSheep_any (p := p) k j _ (by exact HPB.out _ HBQ'.out)).mono ?_
            rw [HE4.out]
            simp only [spV]
            rintro e w5 ⟨rfl, hb5⟩
            have HB5 : Hid (Below w4.heap.size w4 w5) := HBQ.out.trans (hb5.mono HBQ.out.size)
            have HB5' : Hid (Below W.heap.size W w5) := HBQ'.out.trans (hb5.mono HBQ'.out.size)
            clear hb5 x0 x1 x2 x3 x4 x5 x6 x7 x8
            obtain ⟨x0, x1, x2, x3, x4, x5, x6, x7, x8⟩ := HF.out _ HB5'.out
            have hm1 : IntKind.i64.wrap (SL * rate) = SL * rate := IntWalk.i64_in _ (by omega)
            have hm2 : IntKind.i64.wrap (SU * rate) = SU * rate := IntWalk.i64_in _ (by omega)
            go_wp2
            refine wp_region_havoc [(0,false),(1,false),(2,false),(3,false),(4,false),(5,false),(6,false),(7,false),(8,false),(9,false),(10,false),(11,false),(12,false),(13,false),(14,false),(15,false),(16,false),(17,false),(18,false),(19,false),(20,false),(21,false),(22,false),(23,false),(24,false),(25,false),(26,false),(27,false),(28,false),(29,false),(30,false),(31,false)] [] (fun _ _ => False) (by kernel_rfl) (by kernel_rfl) (fun _ _ _ _ h => h.elim) ?_
            iterate 32 (apply hav_same (by simp only [List.getElem?_toArray, List.getElem?_cons_succ, List.getElem?_cons_zero]; rfl) (by kernel_rfl); (focus (intro wv hgv _; have hcv : ∀ b o, b < _ → wv.cell? ⟨b, o, none⟩ = _ := fun b o hb => Below.cell hgv (p := ⟨b, o, none⟩) hb; go_simp; try rfl; done)); simp only [Act.put, List.setIfInBounds_toArray, List.set_cons_succ, List.set_cons_zero])
            refine hav_end (fun w6 hgw6 _ => ?_); simp only [List.filterMap]; have hcw6 : ∀ b o, b < _ → w6.cell? ⟨b, o, none⟩ = _ := fun b o hb => Below.cell hgw6 (p := ⟨b, o, none⟩) hb; have hfw6 : ∀ b o, b < _ → w6.frozen? ⟨b, o, none⟩ = _ := fun b o hb => Below.frozen hgw6 (p := ⟨b, o, none⟩) hb; have hzw6 := Below.size hgw6; (try simp at hzw6)
            have hs6 : w4.heap.size ≤ w5.heap.size := HB5.out.size
            have HB6 : Hid (Below w4.heap.size w4 w6) := (HB5.out.alloc (by omega) _).trans (Below.mono hgw6 (by simp; omega))
            clear hgw6 hcw6 hfw6
            go_wp2
            go_roundw
            case rel =>
              refine ⟨j + 1, by go_num, by omega, ?_, ?_, HB6.out⟩
              · rw [HST.out]
                rw [wage_wrap v1 v2 o1 o2]
              · rw [HST.out]
                rw [wage_wrap v3 v4 o3 o4]
            case measure => simp [intOf]; omega
          · obtain rfl : rl = j := by omega
            have HK6 : Hid (Blk wr w2.heap.size 34 #[.int .i64 WL, .int .i64 WU]) := HK4.out.below HBQ.out (by omega)
            have HL6 : Hid (Blk wr w3.heap.size 34 #[.int .i64 (WL - (S + Q)), .int .i64 (WU - (S + Q))]) := HL4.out.below HBQ.out (by omega)
            rw [HWG.out]
            simp only
            go_wp2
            obtain ⟨wo, rfl⟩ : ∃ wo : World, wo = wr := ⟨_, rfl⟩
            clear x0 x1 x2 x3 x4 x5 x6 x7 x8
            go_loopw [8, 117] (fun s i wq => ∃ m : Nat, i = .int .i64 m ∧ m ≤ pl ∧ s = .int .i64 (S + paidF p.paid k m) ∧ Hid (Below wo.heap.size wo wq)) (fun _ i _ => pl - (intOf i).toNat)
            case atStart => exact ⟨0, rfl, Nat.zero_le _, by simp [paidF], Below.refl _ _⟩
            case round =>
              obtain ⟨m, rfl, hm, rfl, HBS⟩ := hrel
              have HBS' : Hid (Below W.heap.size W wr) := HBQ'.out.trans (HBS.out.mono HBQ'.out.size)
              obtain ⟨x0, x1, x2, x3, x4, x5, x6, x7, x8⟩ := HF.out _ HBS'.out
              have hos : wo.heap.size ≤ wr.heap.size := HBS.out.size
              by_cases hml : m < pl
              · obtain ⟨c, hc⟩ : ∃ c, p.paid[m]? = some c := ⟨p.paid[m]'(by have := HPL.out; omega), by simp⟩
                obtain ⟨_, _, _, _, d0, d1⟩ := payB_paid HV.out hc
                obtain ⟨s0, s1⟩ := paidF_bd HV.out k m
                have HST : Hid (paidF p.paid k (m + 1) = paidF p.paid k m + if c.who = k then c.pence else 0) := by show _ = _; rw [paidF, hc]
                obtain ⟨b, off, rfl, hbl, H0, H1, H2⟩ := (HPB.out _ HBS'.out).hpaid m c hc
                obtain ⟨cw, cr, cp⟩ := c
                simp only at d0 d1 H0 H1 H2 HST
                clear hc
                by_cases hwho : cw = k
                · subst hwho
                  go_wp2
                  go_roundw
                  case rel => exact ⟨m + 1, by go_num, by omega, by rw [HST.out, if_pos rfl]; go_num, HBS.out.alloc (by omega) _⟩
                  case measure => simp [intOf]; omega
                · go_wp2
                  go_roundw
                  case rel => exact ⟨m + 1, by go_num, by omega, by rw [HST.out, if_neg hwho]; go_num, HBS.out.alloc (by omega) _⟩
                  case measure => simp [intOf]; omega
              · obtain rfl : pl = m := by omega
                have HK7 : Hid (Blk wr w2.heap.size 34 #[.int .i64 WL, .int .i64 WU]) := HK6.out.below HBS.out HK6.out.lt
                have HL7 : Hid (Blk wr w3.heap.size 34 #[.int .i64 (WL - (S + Q)), .int .i64 (WU - (S + Q))]) := HL6.out.below HBS.out HL6.out.lt
                have y0 : wr.cell? ⟨w2.heap.size, 0, none⟩ = some (.int .i64 WL) := HK7.out.cell 0
                have y1 : wr.cell? ⟨w2.heap.size, 1, none⟩ = some (.int .i64 WU) := HK7.out.cell 1
                have y2 : wr.cell? ⟨w3.heap.size, 0, none⟩ = some (.int .i64 (WL - (S + Q))) := HL7.out.cell 0
                have y3 : wr.cell? ⟨w3.heap.size, 1, none⟩ = some (.int .i64 (WU - (S + Q))) := HL7.out.cell 1
                have y4 : w2.heap.size < wr.heap.size := HK7.out.lt
                have y5 : w3.heap.size < wr.heap.size := HL7.out.lt
                have z1 : IntKind.i64.wrap (WL - (S + Q)) = WL - (S + Q) := IntWalk.i64_in _ (by omega)
                have z2 : IntKind.i64.wrap (WU - (S + Q)) = WU - (S + Q) := IntWalk.i64_in _ (by omega)
                rw [HPD.out]
                go_wp2
                refine wp_region_havoc [(0,false),(1,false),(2,false),(3,false),(4,false),(5,false),(6,false),(7,false),(8,false),(9,false),(10,false),(11,false),(12,false),(13,false),(14,false),(15,false)] [] (fun _ _ => False) (by kernel_rfl) (by kernel_rfl) (fun _ _ _ _ h => h.elim) ?_
                iterate 3 (apply hav_same (by simp only [List.getElem?_toArray, List.getElem?_cons_succ, List.getElem?_cons_zero]; rfl) (by kernel_rfl); (focus (intro wv hgv _; have hcv : ∀ b o, b < _ → wv.cell? ⟨b, o, none⟩ = _ := fun b o hb => Below.cell hgv (p := ⟨b, o, none⟩) hb; go_simp; try rfl; done)); simp only [Act.put, List.setIfInBounds_toArray, List.set_cons_succ, List.set_cons_zero])
                (apply hav_call (by simp only [List.getElem?_toArray, List.getElem?_cons_succ, List.getElem?_cons_zero]; rfl) (by kernel_rfl); (focus (intro wv; go_simp; try exact ⟨rfl, rfl⟩; done)); (focus (intro wv hgv _; exact lspan_agg _ _ _; done)); simp only [Act.put, List.setIfInBounds_toArray, List.set_cons_succ, List.set_cons_zero])
                iterate 9 (apply hav_same (by simp only [List.getElem?_toArray, List.getElem?_cons_succ, List.getElem?_cons_zero]; rfl) (by kernel_rfl); (focus (intro wv hgv _; have hcv : ∀ b o, b < _ → wv.cell? ⟨b, o, none⟩ = _ := fun b o hb => Below.cell hgv (p := ⟨b, o, none⟩) hb; go_simp; try rfl; done)); simp only [Act.put, List.setIfInBounds_toArray, List.set_cons_succ, List.set_cons_zero])
                (apply hav_call (by simp only [List.getElem?_toArray, List.getElem?_cons_succ, List.getElem?_cons_zero]; rfl) (by kernel_rfl); (focus (intro wv; go_simp; try exact ⟨rfl, rfl⟩; done)); (focus (intro wv hgv _; exact lspan_agg _ _ _; done)); simp only [Act.put, List.setIfInBounds_toArray, List.set_cons_succ, List.set_cons_zero])
                iterate 2 (apply hav_same (by simp only [List.getElem?_toArray, List.getElem?_cons_succ, List.getElem?_cons_zero]; rfl) (by kernel_rfl); (focus (intro wv hgv _; have hcv : ∀ b o, b < _ → wv.cell? ⟨b, o, none⟩ = _ := fun b o hb => Below.cell hgv (p := ⟨b, o, none⟩) hb; go_simp; try rfl; done)); simp only [Act.put, List.setIfInBounds_toArray, List.set_cons_succ, List.set_cons_zero])
                refine hav_end (fun w8 hgw8 _ => ?_); simp only [List.filterMap]; have hcw8 : ∀ b o, b < _ → w8.cell? ⟨b, o, none⟩ = _ := fun b o hb => Below.cell hgw8 (p := ⟨b, o, none⟩) hb; have hfw8 : ∀ b o, b < _ → w8.frozen? ⟨b, o, none⟩ = _ := fun b o hb => Below.frozen hgw8 (p := ⟨b, o, none⟩) hb; have hzw8 := Below.size hgw8; (try simp at hzw8)
                have HB8 : Hid (Below W.heap.size W w8) := HBS'.out.trans (hgw8.mono HBS'.out.size)
                clear hgw8 hcw8 hfw8 x0 x1 x2 x3 x4 x5 x6 x7 x8
                obtain ⟨x0, x1, x2, x3, x4, x5, x6, x7, x8⟩ := HF.out _ HB8.out
                have e5 : spanR (checkE (atRate p 0) (whoB (atRate p 0) k) true) (wagesP (atRate p 0) k) = (⟨0, 0⟩, 0) := by
                  rw [spanR_ok (payB_rate0 HV.out) (by rw [wrongI_rate]; exact HT.out) (show whoB (atRate p 0) k = true from HWB.out), wagesP]
                  rw [show (atRate p 0).rate = 0 from rfl, wagesF_zero]
                have HE5 := Lib.hid e5
                have HB8s : Hid (Below W.heap.size W (w8.alloc (.cells (payCs people ra rl rc ca cl cc 0 bill da dl dc pa pl pc) 27))) := HB8.out.alloc (by omega) _
                clear e5
                go_wp2_with fail
                refine (PWages_any (p := atRate p 0) k _ (by exact (HPB.out _ HB8s.out).rate0)).mono ?_
                rw [HE5.out]
                simp only [spV]
                rintro e w9 ⟨rfl, hb9⟩
                have HB9 : Hid (Below W.heap.size W w9) := HB8s.out.trans (hb9.mono HB8s.out.size)
                clear hb9 x0 x1 x2 x3 x4 x5 x6 x7 x8
                have hs9 : W.heap.size ≤ w9.heap.size := HB9.out.size
                go_wp2
                go_roundw
                case rel => exact ⟨k + 1, by go_num, by omega, HB9.out.alloc (by omega) _⟩
                case measure => simp [intOf]; omega
      · have hke : ¬ (k : Int) < people := hlt
        go_wp2_with fail
        refine (awake_any _ (by exact HR.out.below (HBW.out.trans (HBR.out.mono (by omega))))).mono ?_
        rintro e w2 ⟨rfl, hb2⟩
        go_wp2
        go_ret
        exact ⟨rfl, HBW.out.trans ((HBR.out.trans (hb2.mono HBR.out.size)).mono (by omega))⟩
  · have HT := Lib.hid ht
    clear ht
    go_wp2
    clear x0 x1 x2 x3 x4 x5 x6 x7 x8
    go_loopw [26] (fun i wr => ∃ k : Nat, i = .int .i64 k ∧ (k : Int) ≤ people ∧ Hid (Below W.heap.size W wr)) (fun i _ => people.toNat - (intOf i).toNat)
    case atStart => exact ⟨0, rfl, by omega, HB1.out⟩
    case round =>
      obtain ⟨k, rfl, hk, HBR⟩ := hrel
      obtain ⟨x0, x1, x2, x3, x4, x5, x6, x7, x8⟩ := HF.out _ HBR.out
      by_cases hlt : (k : Int) < people
      · have HWB : Hid (whoB p k = true) := whoB_in (by omega) (by rw [HPE.out]; exact hlt)
        obtain ⟨S, HSH⟩ : ∃ S, Hid (((sharesR p)[k]?).getD 0 = S) := ⟨_, rfl⟩
        have e3 : messR p k = (S, 0) := by rw [messR_ok HV.out HWB.out, Int.toNat_natCast, HSH.out]
        have e1' : spanR (checkE p (whoB p k) true) (wagesP p k) = (⟨0, 0⟩, 10) := spanR_clash HV.out HT.out HWB.out _
        have e2' : spanR (checkE p (whoB p k) true) (leftP p k) = (⟨0, 0⟩, 10) := spanR_clash HV.out HT.out HWB.out _
        have HE1 := Lib.hid e1'
        have HE2 := Lib.hid e2'
        have HE3 := Lib.hid e3
        clear e3 e1' e2'
        go_wp2_with fail
        refine (PWages_any (p := p) k _ (by exact HPB.out _ HBR.out)).mono ?_
        rw [HE1.out]
        simp only [spV]
        rintro e w2 ⟨rfl, hb2⟩
        have HB2 : Hid (Below W.heap.size W w2) := HBR.out.trans (hb2.mono HBR.out.size)
        clear hb2 x0 x1 x2 x3 x4 x5 x6 x7 x8
        obtain ⟨x0, x1, x2, x3, x4, x5, x6, x7, x8⟩ := HF.out _ HB2.out
        go_wp2_with fail
        refine (PLeft_any (p := p) k _ (by exact HPB.out _ (HB2.out.alloc (by omega) _))).mono ?_
        rw [HE2.out]
        simp only [spV]
        rintro e w3 ⟨rfl, hb3⟩
        have HB3 : Hid (Below W.heap.size W w3) := (HB2.out.alloc (by omega) _).trans (hb3.mono (HB2.out.alloc (by omega) _).size)
        have HK3 : Hid (Blk w3 w2.heap.size 34 #[.int .i64 0, .int .i64 0]) := (Blk.new_ rfl _ _).below hb3 (by simp)
        clear hb3 x0 x1 x2 x3 x4 x5 x6 x7 x8
        obtain ⟨x0, x1, x2, x3, x4, x5, x6, x7, x8⟩ := HF.out _ HB3.out
        have ha3 : w2.heap.size < w3.heap.size := HK3.out.lt
        go_wp2_with fail
        refine (PMess_any (p := p) k _ (by exact HPB.out _ (HB3.out.alloc (by omega) _))).mono ?_
        rw [HE3.out]
        simp only
        rintro e w4 ⟨rfl, hb4⟩
        have HB4 : Hid (Below W.heap.size W w4) := (HB3.out.alloc (by omega) _).trans (hb4.mono (HB3.out.alloc (by omega) _).size)
        have HK4 : Hid (Blk w4 w2.heap.size 34 #[.int .i64 0, .int .i64 0]) := (HK3.out.alloc _).below hb4 (HK3.out.alloc _).lt
        have HL4 : Hid (Blk w4 w3.heap.size 34 #[.int .i64 0, .int .i64 0]) := (Blk.new_ rfl _ _).below hb4 (by simp)
        clear hb4 x0 x1 x2 x3 x4 x5 x6 x7 x8
        have y0 : w4.cell? ⟨w2.heap.size, 0, none⟩ = some (.int .i64 0) := HK4.out.cell 0
        have y1 : w4.cell? ⟨w2.heap.size, 1, none⟩ = some (.int .i64 0) := HK4.out.cell 1
        have y2 : w4.cell? ⟨w3.heap.size, 0, none⟩ = some (.int .i64 0) := HL4.out.cell 0
        have y3 : w4.cell? ⟨w3.heap.size, 1, none⟩ = some (.int .i64 0) := HL4.out.cell 1
        have y4 : w2.heap.size < w4.heap.size := HK4.out.lt
        have y5 : w3.heap.size < w4.heap.size := HL4.out.lt
        obtain ⟨x0, x1, x2, x3, x4, x5, x6, x7, x8⟩ := HF.out _ HB4.out
        go_wp2
        go_roundw
        case rel => exact ⟨k + 1, by go_num, by omega, HB4.out⟩
        case measure => simp [intOf]; omega
      · have hke : ¬ (k : Int) < people := hlt
        go_wp2_with fail
        refine (awake_any _ (by exact HR.out.below (HBW.out.trans (HBR.out.mono (by omega))))).mono ?_
        rintro e w2 ⟨rfl, hb2⟩
        go_wp2
        go_ret
        exact ⟨rfl, HBW.out.trans ((HBR.out.trans (hb2.mono HBR.out.size)).mono (by omega))⟩
end
end Go.Proofs.YtlcolpnniipgbaaDoor
