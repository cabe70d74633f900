/- The walk of PayCheck: for every pay whose payments' slice is no longer than it may be it answers true. -/
import Derived.Test.YtlcolpnniipgbaaDoorLawC0
import Derived.Test.YtlcolpnniipgbaaDoorLawWages
namespace Go.Proofs.YtlcolpnniipgbaaDoor
open Go.RowKit Go.Hav
section
variable {people rate bill : Int} {ra ca da pa : Option Addr} {rl rc cl cc dl dc pl pc : Nat} {p : PayD}
theorem RdG.take_ {α : Type} {f : α → List Value} {sz : Nat} {w : World} {B : Nat} {A : Option Addr} {l : List α} (h : RdG f sz w B A l) (k : Nat) : RdG f sz w B A (l.take k) := fun i x hx => by
  rw [List.getElem?_take] at hx
  split at hx
  · exact h i x hx
  · cases hx
theorem own_cut {w w7 : World} {B g1 c1 g2 c2 g3 c3 g4 c4 : Nat} (hP : PayIn w w.heap.size people ra rl ca cl rate bill da dl pa pl p) (h : OwnPay w7 B p g1 c1 g2 c2 g3 c3 g4 c4) {k : Nat} (hk : k ≤ pl) :
    k ≤ c4 ∧ PayIn w7 w7.heap.size people (some ⟨g1, 0, none⟩) rl (some ⟨g2, 0, none⟩) cl rate bill (some ⟨g3, 0, none⟩) dl (some ⟨g4, 0, none⟩) k (cutPaid p k) := by
  have hc : p.paid.length ≤ c4 := by
    rcases h.paid.2 with ⟨h1, _⟩ | ⟨g, c, cur, h1, _, _, h2, _⟩
    · cases h1
    · cases h1; exact h2
  have hl := hP.epl
  have hm := hP.mpl
  refine ⟨by omega, hP.epeople, hP.erate, hP.ebill, hP.erl, hP.ecl, hP.edl, ?_, hP.mrl, hP.mcl, hP.mdl, by omega, RdSpans.of_g (RdG.of_own spF_len (by decide) h.runs (Nat.le_refl _) rfl), RdCalls.of_g (RdG.of_own caF_len (by decide) h.calls (Nat.le_refl _) rfl), RdInts.of_g (RdG.of_own inF_len (by decide) h.days (Nat.le_refl _) rfl), RdPaid.of_g (RdG.take_ (RdG.of_own pdF_len (by decide) h.paid (Nat.le_refl _) rfl) k)⟩
  show (p.paid.take k).length = k
  rw [List.length_take]; omega
set_option maxRecDepth 100000 in
set_option maxHeartbeats 6400000 in
theorem PayCheck_cap (w : World) (hP : PayIn w w.heap.size people ra rl ca cl rate bill da dl pa pl p) (hR : RulesIn w) (hcap : pl ≤ pc) :
    Calls Tryd.prog 10 #[payV people ra rl rc ca cl cc rate bill da dl dc pa pl pc] w fun e w' => e = .returned (.bool true) ∧ Below w.heap.size w w' := by
  have HP := Lib.hid hP
  have HR := Lib.hid hR
  clear hP hR
  unfold payV
  go_enter Tryd.func10, Tryd.ntmps10
  go_wp2_with fail
  obtain ⟨W, hW⟩ : ∃ W, W = w.alloc (.cells (payCs people ra rl rc ca cl cc rate bill da dl dc pa pl pc) 27) := ⟨_, rfl⟩
  have HBK : Hid (Blk W w.heap.size 27 (payCs people ra rl rc ca cl cc rate bill da dl dc pa pl pc)) := by show Blk _ _ _ _; rw [hW]; exact Blk.new _ _ _
  have HBW : Hid (Below w.heap.size w W) := by show Below _ _ _; rw [hW]; exact (Below.refl _ _).alloc (Nat.le_refl _) _
  have hs0 : w.heap.size < W.heap.size := HBK.out.lt
  have hW' := hW.symm
  unfold payCs at hW'
  rw [hW']
  clear hW hW'
  have facts : ∀ wv, Below W.heap.size W wv → wv.cell? ⟨w.heap.size, 0, none⟩ = some (.int .i64 people) ∧ wv.cell? ⟨w.heap.size, 1, none⟩ = some (.slice ra rl rc) ∧ wv.cell? ⟨w.heap.size, 2, none⟩ = some (.slice ca cl cc) ∧
      wv.cell? ⟨w.heap.size, 3, none⟩ = some (.int .i64 rate) ∧ wv.cell? ⟨w.heap.size, 4, none⟩ = some (.int .i64 bill) ∧ wv.cell? ⟨w.heap.size, 5, none⟩ = some (.slice da dl dc) ∧ wv.cell? ⟨w.heap.size, 6, none⟩ = some (.slice pa pl pc) ∧ w.heap.size < wv.heap.size ∧ W.heap.size ≤ wv.heap.size := fun wv hb => by
    have h := HBK.out.below hb hs0
    exact ⟨h.cell 0, h.cell 1, h.cell 2, h.cell 3, h.cell 4, h.cell 5, h.cell 6, h.lt, hb.size⟩
  have HF := Lib.hid facts
  clear facts
  have HPB : Hid (∀ wv, Below W.heap.size W wv → PayIn wv wv.heap.size people ra rl ca cl rate bill da dl pa pl p) := fun wv hb => HP.out.grow (HBW.out.trans (hb.mono (by omega)))
  refine (fine_any (p := p) _ (by exact HP.out.grow HBW.out)).mono ?_
  rintro e w1 ⟨⟨b, rfl, hv⟩, hb1⟩
  have HB1 : Hid (Below W.heap.size W w1) := hb1
  clear hb1
  obtain ⟨x0, x1, x2, x3, x4, x5, x6, x7, x8⟩ := HF.out _ HB1.out
  cases b
  case false =>
    go_wp2_with fail
    refine (awake_any _ (by exact HR.out.below (HBW.out.trans (HB1.out.mono (by omega))))).mono ?_
    rintro e w2 ⟨rfl, hb2⟩
    go_wp2
    go_ret
    exact ⟨rfl, HBW.out.trans ((HB1.out.trans (hb2.mono HB1.out.size)).mono (by omega))⟩
  case true =>
  have hv := hv rfl
  have HV := Lib.hid hv
  obtain ⟨⟨a1, a2, a3, a4, a5, a6, a7, a8, a9, a10, a11⟩, _⟩ := payB_parts HP.out hv
  have HRL := Lib.hid HP.out.erl
  have HRT := Lib.hid HP.out.erate
  have HPL := Lib.hid HP.out.epl
  clear hv
  by_cases ht : wrongI p = 0
  · have HT := Lib.hid ht
    clear ht
    obtain ⟨⟨C1, C2, C3⟩, HCK⟩ : ∃ c, Hid (checkF p (ruleX p) pl 0 = c) := ⟨_, rfl⟩
    have HE1 : Hid (checkR p (ruleX p) = (C1, C2, C3)) := by
      show _ = _
      rw [checkR, if_pos (by rw [checkE_fine HV.out rfl]; simp [HT.out]), HPL.out, HCK.out]
    have HE2 : Hid (wrongR p = (0, 4)) := by
      show _ = _
      rw [wrongR, if_pos (by rw [checkE_fine HV.out rfl]; simp), if_pos HT.out]
    go_wp2_with fail
    refine (PCheck_any (p := p) _ (by exact HPB.out _ HB1.out) (by exact HR.out.below (HBW.out.trans (HB1.out.mono (by omega))))).mono ?_
    rw [HE1.out]
    simp only
    rintro e w2 ⟨rfl, hb2⟩
    have HB2 : Hid (Below W.heap.size W w2) := HB1.out.trans (hb2.mono HB1.out.size)
    clear hb2 x0 x1 x2 x3 x4 x5 x6 x7 x8
    obtain ⟨x0, x1, x2, x3, x4, x5, x6, x7, x8⟩ := HF.out _ HB2.out
    go_wp2_with fail
    refine (PWrong_any (p := p) _ (by exact HPB.out _ HB2.out)).mono ?_
    rw [HE2.out]
    simp only
    rintro e w3 ⟨rfl, hb3⟩
    have HB3 : Hid (Below W.heap.size W w3) := HB2.out.trans (hb3.mono HB2.out.size)
    clear hb3 x0 x1 x2 x3 x4 x5 x6 x7 x8
    obtain ⟨x0, x1, x2, x3, x4, x5, x6, x7, x8⟩ := HF.out _ HB3.out
    go_wp2
    clear x0 x1 x2 x3 x4 x5 x6 x7 x8
    go_loopw [58] (fun i wr => ∃ k : Nat, i = .int .i64 k ∧ k ≤ pl ∧ Hid (∀ (j : Nat) x, j < k → p.paid[j]? = some x → ruleX p x j = 0) ∧ Hid (checkF p (ruleX p) (pl - k) k = (C1, C2, C3)) ∧ Hid (Below W.heap.size W wr)) (fun i _ => pl - (intOf i).toNat)
    case atStart => exact ⟨0, rfl, Nat.zero_le _, fun j x h => absurd h (by omega), HCK.out, HB3.out⟩
    case round =>
      obtain ⟨k, rfl, hk, HZ, HCF, HBR⟩ := hrel
      obtain ⟨x0, x1, x2, x3, x4, x5, x6, x7, x8⟩ := HF.out _ HBR.out
      by_cases hlt : k < pl
      · obtain ⟨c, hc⟩ : ∃ c, p.paid[k]? = some c := ⟨p.paid[k]'(by have := HPL.out; omega), by simp⟩
        obtain ⟨p1, p2, p3, p4, p5, p6⟩ := payB_paid HV.out hc
        have HRX := Lib.hid (ruleX_eq HV.out HT.out hc)
        have HST : Hid (checkF p (ruleX p) (pl - k) k = if ruleX p c k = 0 then checkF p (ruleX p) (pl - (k + 1)) (k + 1) else ((k : Int), ruleX p c k, 0)) := by
          show _ = _
          rw [show pl - k = (pl - (k + 1)) + 1 by omega, checkF, hc]
        have HCC := Lib.hid hc
        obtain ⟨b, off, rfl, hbl, H0, H1, H2⟩ := (HPB.out _ HBR.out).hpaid k c hc
        obtain ⟨⟨SL, SU⟩, HSG⟩ : ∃ s, Hid (sheepS p c.who c.run = s) := ⟨_, rfl⟩
        obtain ⟨t1, t2, t3⟩ : 0 ≤ SL ∧ SL ≤ SU ∧ SU ≤ 100 := by
          have h := sheep_in HV.out HT.out p1 p2 p3 p4
          rw [HSG.out] at h
          exact h
        obtain ⟨v3, v4⟩ := wage_bd (n := SU) (by omega) t3 a6 a7
        have hm2 : IntKind.i64.wrap (SU * rate) = SU * rate := IntWalk.i64_in _ (by omega)
        have hm3 : (SU * rate).tdiv 100 = SU * rate / 100 := tdiv_eq v3
        have HE4 : Hid (spanR (checkE p (whoB p c.who && runB p c.run) true) (sheepS p c.who c.run) = (⟨SL, SU⟩, 0)) := by
          show _ = _
          rw [spanR_ok HV.out HT.out (by rw [whoB_in p1 p2, runB_in p3 p4]; rfl), HSG.out]
        obtain ⟨ST, SE, HE5, hse⟩ : ∃ ST SE, Hid (standsR p c.who c.run = (ST, SE)) ∧ ((standsI p c.who c.run < 0 ∧ SE = 4) ∨ (¬ standsI p c.who c.run < 0 ∧ SE = 0)) := by
          have he : checkE p (whoB p c.who && runB p c.run) false = 0 := by
            rw [checkE_fine HV.out (by rw [whoB_in p1 p2, runB_in p3 p4]; rfl)]; simp
          by_cases hs : standsI p c.who c.run < 0
          · exact ⟨0, 4, by show _ = _; rw [standsR, if_pos he, if_pos hs], .inl ⟨hs, rfl⟩⟩
          · exact ⟨_, 0, by show _ = _; rw [standsR, if_pos he, if_neg hs], .inr ⟨hs, rfl⟩⟩
        rw [HSG.out] at HRX
        obtain ⟨xw, xr, xp⟩ := c
        simp only at p1 p2 p3 p4 p5 p6 H0 H1 H2 HE4 HE5 HRX hse
        clear hc
        go_wp2_with fail
        refine (PSheep_any (p := p) xw xr _ (by exact HPB.out _ (HBR.out.alloc (by omega) _))).mono ?_
        rw [HE4.out]
        simp only [spV]
        rintro e w5 ⟨rfl, hb5⟩
        have HB5 : Hid (Below W.heap.size W w5) := (HBR.out.alloc (by omega) _).trans (hb5.mono (HBR.out.alloc (by omega) _).size)
        have HX5 : Hid (Blk w5 wr.heap.size 49 #[.int .i64 xw, .int .i64 xr, .int .i64 xp]) := (Blk.new_ rfl _ _).below hb5 (by simp)
        have hq5 : wr.heap.size < w5.heap.size := HX5.out.lt
        clear hb5 x0 x1 x2 x3 x4 x5 x6 x7 x8 H0 H1 H2 hbl
        obtain ⟨x0, x1, x2, x3, x4, x5, x6, x7, x8⟩ := HF.out _ HB5.out
        have y0 : w5.cell? ⟨wr.heap.size, 0, none⟩ = some (.int .i64 xw) := HX5.out.cell 0
        have y1 : w5.cell? ⟨wr.heap.size, 1, none⟩ = some (.int .i64 xr) := HX5.out.cell 1
        have y2 : w5.cell? ⟨wr.heap.size, 2, none⟩ = some (.int .i64 xp) := HX5.out.cell 2
        go_wp2_with fail
        refine (PStands_any (p := p) xw xr _ (by exact HPB.out _ (HB5.out.alloc (by omega) _))).mono ?_
        rw [HE5.out]
        simp only
        rintro e w6 ⟨rfl, hb6⟩
        have HB6 : Hid (Below W.heap.size W w6) := (HB5.out.alloc (by omega) _).trans (hb6.mono (HB5.out.alloc (by omega) _).size)
        have HX6 : Hid (Blk w6 wr.heap.size 49 #[.int .i64 xw, .int .i64 xr, .int .i64 xp]) := (HX5.out.alloc _).below hb6 (HX5.out.alloc _).lt
        have HS6 : Hid (Blk w6 w5.heap.size 34 #[.int .i64 SL, .int .i64 SU]) := (Blk.new_ rfl _ _).below hb6 (by simp)
        clear hb6 x0 x1 x2 x3 x4 x5 x6 x7 x8 y0 y1 y2
        obtain ⟨x0, x1, x2, x3, x4, x5, x6, x7, x8⟩ := HF.out _ HB6.out
        have y0 : w6.cell? ⟨wr.heap.size, 0, none⟩ = some (.int .i64 xw) := HX6.out.cell 0
        have y1 : w6.cell? ⟨wr.heap.size, 1, none⟩ = some (.int .i64 xr) := HX6.out.cell 1
        have y2 : w6.cell? ⟨wr.heap.size, 2, none⟩ = some (.int .i64 xp) := HX6.out.cell 2
        have y3 : w6.cell? ⟨w5.heap.size, 0, none⟩ = some (.int .i64 SL) := HS6.out.cell 0
        have y4 : w6.cell? ⟨w5.heap.size, 1, none⟩ = some (.int .i64 SU) := HS6.out.cell 1
        have y5 : wr.heap.size < w6.heap.size := HX6.out.lt
        have y6 : w5.heap.size < w6.heap.size := HS6.out.lt
        obtain ⟨V, HWV, hV⟩ : ∃ V, Hid (ruleX p ⟨xw, xr, xp⟩ k = if twiceF p.paid ⟨xw, xr, xp⟩ k then 1 else V) ∧ V = (if standsI p xw xr < 0 then 2 else if SU * rate / 100 < xp then 3 else 0) := ⟨_, by show _ = _; rw [HRX.out, HRT.out], rfl⟩
        clear HRX
        rcases hse with ⟨hs, rfl⟩ | ⟨hs, rfl⟩ <;> by_cases hm : SU * rate / 100 < xp <;> (first | rw [if_pos hs] at hV | rw [if_neg (show ¬ standsI p xw xr < 0 by omega), if_pos hm] at hV | rw [if_neg (show ¬ standsI p xw xr < 0 by omega), if_neg hm] at hV) <;> subst hV
        all_goals (first | (have hgt : decide (xp > (SU * rate).tdiv 100) = true := by rw [hm3]; simpa using hm) | (have hgt : decide (xp > (SU * rate).tdiv 100) = false := by rw [hm3]; simpa using hm))
        all_goals go_wp2
        all_goals (
          clear x0 x1 x2 x3 x4 x5 x6 x7 x8 y0 y1 y2 y3 y4 hgt
          obtain ⟨wo, rfl⟩ : ∃ wo : World, wo = wr := ⟨_, rfl⟩
          go_loopw [10, 107] (fun wt i wq => ∃ (j : Nat) (V : Int), i = .int .i64 j ∧ j ≤ k ∧ Hid (ruleX p ⟨xw, xr, xp⟩ k = if twiceF p.paid ⟨xw, xr, xp⟩ k then 1 else V) ∧ wt = .int .i64 (if twiceF p.paid ⟨xw, xr, xp⟩ j then 1 else V) ∧ Hid (Below w6.heap.size w6 wq)) (fun _ i _ => k - (intOf i).toNat)
          case atStart => exact ⟨0, _, rfl, Nat.zero_le _, HWV.out, rfl, Below.refl _ _⟩
          case round =>
            obtain ⟨j, V, rfl, hj, HV2, rfl, HBQ⟩ := hrel
            have HBQ' : Hid (Below W.heap.size W wr) := HB6.out.trans (HBQ.out.mono HB6.out.size)
            obtain ⟨x0, x1, x2, x3, x4, x5, x6, x7, x8⟩ := HF.out _ HBQ'.out
            have HX7 : Hid (Blk wr wo.heap.size 49 #[.int .i64 xw, .int .i64 xr, .int .i64 xp]) := HX6.out.below HBQ.out y5
            have y0 : wr.cell? ⟨wo.heap.size, 0, none⟩ = some (.int .i64 xw) := HX7.out.cell 0
            have y1 : wr.cell? ⟨wo.heap.size, 1, none⟩ = some (.int .i64 xr) := HX7.out.cell 1
            have y2 : wr.cell? ⟨wo.heap.size, 2, none⟩ = some (.int .i64 xp) := HX7.out.cell 2
            have y7 : wo.heap.size < wr.heap.size := HX7.out.lt
            have y8 : w6.heap.size ≤ wr.heap.size := HBQ.out.size
            by_cases hjl : j < k
            · obtain ⟨d, hd⟩ : ∃ d, p.paid[j]? = some d := ⟨p.paid[j]'(by have := HPL.out; omega), by simp⟩
              obtain ⟨b2, off2, e2, hbl, G0, G1, G2⟩ := (HPB.out _ HBQ'.out).hpaid j d hd
              obtain ⟨rfl, rfl⟩ : b = b2 ∧ off = off2 := by simpa using e2
              have HT2 : Hid (twiceF p.paid ⟨xw, xr, xp⟩ (j + 1) = (twiceF p.paid ⟨xw, xr, xp⟩ j || (decide (d.who = xw) && decide (d.run = xr)))) := by show _ = _; rw [twiceF, hd]
              obtain ⟨yw, yr, yp⟩ := d
              simp only at G0 G1 G2 HT2
              clear hd e2
              by_cases h1 : yw = xw
              · by_cases h2 : yr = xr
                · have HT3 : Hid (twiceF p.paid ⟨xw, xr, xp⟩ (j + 1) = true) := by show _ = _; rw [HT2.out]; simp [h1, h2]
                  go_wp2
                  go_roundw
                  case rel => exact ⟨j + 1, V, by go_num, by omega, HV2.out, by rw [HT3.out]; rfl, HBQ.out.alloc (by omega) _⟩
                  case measure => simp [intOf]; omega
                · have HT3 : Hid (twiceF p.paid ⟨xw, xr, xp⟩ (j + 1) = twiceF p.paid ⟨xw, xr, xp⟩ j) := by show _ = _; rw [HT2.out]; simp [h2]
                  go_wp2
                  go_roundw
                  case rel => exact ⟨j + 1, V, by go_num, by omega, HV2.out, by rw [HT3.out], HBQ.out.alloc (by omega) _⟩
                  case measure => simp [intOf]; omega
              · have HT3 : Hid (twiceF p.paid ⟨xw, xr, xp⟩ (j + 1) = twiceF p.paid ⟨xw, xr, xp⟩ j) := by show _ = _; rw [HT2.out]; simp [h1]
                go_wp2
                go_roundw
                case rel => exact ⟨j + 1, V, by go_num, by omega, HV2.out, by rw [HT3.out], HBQ.out.alloc (by omega) _⟩
                case measure => simp [intOf]; omega
            · obtain rfl : k = j := by omega
              obtain ⟨RX, hRX⟩ : ∃ RX, ruleX p ⟨xw, xr, xp⟩ k = RX := ⟨_, rfl⟩
              rw [← HV2.out, hRX]
              have HRXX := Lib.hid hRX
              clear hRX
              by_cases hz : RX = 0
              · subst hz
                go_wp2
                go_roundw
                case rel =>
                  refine ⟨k + 1, by go_num, by omega, ?_, ?_, HBQ'.out⟩
                  · show ∀ _, _
                    intro j' x' hj' hx'
                    rcases Nat.lt_or_ge j' k with h | h
                    · exact HZ.out j' x' h hx'
                    · obtain rfl : j' = k := by omega
                      obtain rfl : x' = ⟨xw, xr, xp⟩ := Option.some.inj (hx'.symm.trans HCC.out)
                      exact HRXX.out
                  · show _ = _
                    have := HCF.out
                    rw [HST.out, if_pos HRXX.out] at this
                    exact this
                case measure => simp [intOf]; omega
              · have HEQ : ((k : Int), RX, (0 : Int)) = (C1, C2, C3) := by
                  have := HCF.out
                  rw [HST.out, HRXX.out, if_neg hz] at this
                  exact this
                simp only [Prod.mk.injEq] at HEQ
                obtain ⟨rfl, rfl, rfl⟩ := HEQ
                go_wp2_with fail
                refine (copied_any (p := p) _ (by exact HPB.out _ HBQ'.out) (by omega) (by omega) (by omega) (by omega)).mono ?_
                simp only [payV]
                rintro e w7 ⟨⟨g1, c1, g2, c2, g3, c3, g4, c4, rfl, HO⟩, hb7⟩
                have HB7 : Hid (Below W.heap.size W w7) := HBQ'.out.trans (hb7.mono HBQ'.out.size)
                obtain ⟨hk4, HPC⟩ := own_cut (HPB.out _ HBQ'.out) HO (k := k) (by omega)
                have HPC' := Lib.hid HPC
                clear hb7 x0 x1 x2 x3 x4 x5 x6 x7 x8 y0 y1 y2 HPC HO
                have hs7 : W.heap.size ≤ w7.heap.size := HB7.out.size
                go_wp2_with fail
                refine (PCheck_any (p := cutPaid p k) _ (by exact HPC'.out.grow ((Below.refl _ _).alloc (Nat.le_refl _) _)) (by exact HR.out.below (HBW.out.trans ((HB7.out.alloc (by omega) _).mono (by omega))))).mono ?_
                rw [checkR_cut HV.out HT.out HZ.out]
                simp only
                rintro e w9 ⟨rfl, hb9⟩
                have HB9 : Hid (Below W.heap.size W w9) := (HB7.out.alloc (by omega) _).trans (hb9.mono (HB7.out.alloc (by omega) _).size)
                clear hb9
                go_wp2_with fail
                refine (awake_any _ (by exact HR.out.below (HBW.out.trans (HB9.out.mono (by omega))))).mono ?_
                rintro e wz ⟨rfl, hbz⟩
                go_wp2
                go_ret
                exact ⟨rfl, HBW.out.trans ((HB9.out.trans (hbz.mono HB9.out.size)).mono (by omega))⟩)
      · obtain rfl : pl = k := by omega
        have HEQ := HCF.out
        rw [Nat.sub_self, checkF] at HEQ
        simp only [Prod.mk.injEq] at HEQ
        obtain ⟨rfl, rfl, rfl⟩ := HEQ
        go_wp2_with fail
        refine (awake_any _ (by exact HR.out.below (HBW.out.trans (HBR.out.mono (by omega))))).mono ?_
        rintro e w4 ⟨rfl, hb4⟩
        go_wp2
        go_ret
        exact ⟨rfl, HBW.out.trans ((HBR.out.trans (hb4.mono HBR.out.size)).mono (by omega))⟩
  · have HT := Lib.hid ht
    clear ht
    have HE1 : Hid (checkR p (ruleX p) = (0, 0, 10)) := by
      have e : checkE p true true = 10 := by rw [checkE_fine HV.out rfl]; simp [HT.out]
      show _ = _
      rw [checkR, if_neg (by rw [e]; decide), e]
    have HE2 : Hid (wrongR p = (wrongI p, 0)) := by
      show _ = _
      rw [wrongR, if_pos (by rw [checkE_fine HV.out rfl]; simp), if_neg HT.out]
    go_wp2_with fail
    refine (PCheck_any (p := p) _ (by exact HPB.out _ HB1.out) (by exact HR.out.below (HBW.out.trans (HB1.out.mono (by omega))))).mono ?_
    rw [HE1.out]
    simp only
    rintro e w2 ⟨rfl, hb2⟩
    have HB2 : Hid (Below W.heap.size W w2) := HB1.out.trans (hb2.mono HB1.out.size)
    clear hb2 x0 x1 x2 x3 x4 x5 x6 x7 x8
    obtain ⟨x0, x1, x2, x3, x4, x5, x6, x7, x8⟩ := HF.out _ HB2.out
    go_wp2_with fail
    refine (PWrong_any (p := p) _ (by exact HPB.out _ HB2.out)).mono ?_
    rw [HE2.out]
    simp only
    rintro e w3 ⟨rfl, hb3⟩
    have HB3 : Hid (Below W.heap.size W w3) := HB2.out.trans (hb3.mono HB2.out.size)
    clear hb3 x0 x1 x2 x3 x4 x5 x6 x7 x8
    go_wp2_with fail
    refine (awake_any _ (by exact HR.out.below (HBW.out.trans (HB3.out.mono (by omega))))).mono ?_
    rintro e w4 ⟨rfl, hb4⟩
    go_wp2
    go_ret
    exact ⟨rfl, HBW.out.trans ((HB3.out.trans (hb4.mono HB3.out.size)).mono (by omega))⟩
end
end Go.Proofs.YtlcolpnniipgbaaDoor
