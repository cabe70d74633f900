/- The walk of PayShares: for every pay it answers true. -/
import Derived.Test.YtlcolpnniipgbaaDoorLawS1
import Derived.Test.YtlcolpnniipgbaaDoorLawWages
namespace Go.Proofs.YtlcolpnniipgbaaDoor
open Go.RowKit Go.Hav
section
variable {people rate bill : Int} {ra ca da pa : Option Addr} {rl rc cl cc dl dc pl pc : Nat} {p : PayD}
theorem PayIn.toBill {w : World} {B : Nat} (h : PayIn w B people ra rl ca cl rate bill da dl pa pl p) (b : Int) : PayIn w B people ra rl ca cl rate b da dl pa pl (atBill p b) :=
  ⟨h.epeople, h.erate, rfl, h.erl, h.ecl, h.edl, h.epl, h.mrl, h.mcl, h.mdl, h.mpl, h.hruns, h.hcalls, h.hdays, h.hpaid⟩
set_option maxRecDepth 100000 in
set_option maxHeartbeats 6400000 in
theorem PayShares_any (w : World) (hP : PayIn w w.heap.size people ra rl ca cl rate bill da dl pa pl p) (hR : RulesIn w) :
    Calls Tryd.prog 9 #[payV people ra rl rc ca cl cc rate bill da dl dc pa pl pc] w fun e w' => e = .returned (.bool true) ∧ Below w.heap.size w w' := by
  have HP := Lib.hid hP
  have HR := Lib.hid hR
  obtain ⟨i0, hi, hz0, hz1, hz2⟩ := info_parts Tryd.infoE4
  have HI := Lib.hid hi
  have HI0 := Lib.hid hz0
  have HI1 := Lib.hid hz1
  have HI2 := Lib.hid hz2
  clear hP hR hi hz0 hz1 hz2
  unfold payV
  go_enter Tryd.func9, Tryd.ntmps9
  go_wp2_with fail
  obtain ⟨W, hW⟩ : ∃ W, W = w.alloc (.cells (payCs people ra rl rc ca cl cc rate bill da dl dc pa pl pc) 27) := ⟨_, rfl⟩
  have HBK : Hid (Blk W w.heap.size 27 (payCs people ra rl rc ca cl cc rate bill da dl dc pa pl pc)) := by show Blk _ _ _ _; rw [hW]; exact Blk.new _ _ _
  have HBW : Hid (Below w.heap.size w W) := by show Below _ _ _; rw [hW]; exact (Below.refl _ _).alloc (Nat.le_refl _) _
  have hs0 : w.heap.size < W.heap.size := HBK.out.lt
  have hW' := hW.symm
  unfold payCs at hW'
  rw [hW']
  clear hW hW'
  have facts : ∀ wv, Below W.heap.size W wv → wv.cell? ⟨w.heap.size, 0, none⟩ = some (.int .i64 people) ∧ wv.cell? ⟨w.heap.size, 1, none⟩ = some (.slice ra rl rc) ∧ wv.cell? ⟨w.heap.size, 2, none⟩ = some (.slice ca cl cc) ∧
      wv.cell? ⟨w.heap.size, 3, none⟩ = some (.int .i64 rate) ∧ wv.cell? ⟨w.heap.size, 4, none⟩ = some (.int .i64 bill) ∧ wv.cell? ⟨w.heap.size, 5, none⟩ = some (.slice da dl dc) ∧ wv.cell? ⟨w.heap.size, 6, none⟩ = some (.slice pa pl pc) ∧ w.heap.size < wv.heap.size ∧ W.heap.size ≤ wv.heap.size := fun wv hb => by
    have h := HBK.out.below hb hs0
    exact ⟨h.cell 0, h.cell 1, h.cell 2, h.cell 3, h.cell 4, h.cell 5, h.cell 6, h.lt, hb.size⟩
  have HF := Lib.hid facts
  clear facts
  have HPB : Hid (∀ wv, Below W.heap.size W wv → PayIn wv wv.heap.size people ra rl ca cl rate bill da dl pa pl p) := fun wv hb => HP.out.grow (HBW.out.trans (hb.mono (by omega)))
  refine (fine_any (p := p) _ (by exact HP.out.grow HBW.out)).mono ?_
  rintro e w1 ⟨⟨b, rfl, hv⟩, hb1⟩
  have HB1 : Hid (Below W.heap.size W w1) := hb1
  clear hb1
  obtain ⟨x0, x1, x2, x3, x4, x5, x6, x7, x8⟩ := HF.out _ HB1.out
  cases b
  case false =>
    go_wp2_with fail
    refine (awake_any _ (by exact HR.out.below (HBW.out.trans (HB1.out.mono (by omega))))).mono ?_
    rintro e w2 ⟨rfl, hb2⟩
    go_wp2
    go_ret
    exact ⟨rfl, HBW.out.trans ((HB1.out.trans (hb2.mono HB1.out.size)).mono (by omega))⟩
  case true =>
  have hv := hv rfl
  have HV := Lib.hid hv
  obtain ⟨⟨a1, a2, a3, a4, a5, a6, a7, a8, a9, a10, a11⟩, _⟩ := payB_parts HP.out hv
  have HPE := Lib.hid HP.out.epeople
  have HBI := Lib.hid HP.out.ebill
  have HDL := Lib.hid HP.out.edl
  have HDB : Hid (∀ (k : Nat) x, p.days[k]? = some x → 0 ≤ x ∧ x ≤ 10) := fun k x hx => payB_day HV.out hx
  clear hv
  have HPD : Hid (people = dl) := by show _ = _; have := HPE.out; have := HDL.out; have := (payB_rate HV.out); omega
  have n1 : dl ≤ 4 := by have := payB_people HV.out; have := HPE.out; omega
  have n0 : 1 ≤ dl := by have := payB_people HV.out; have := HPE.out; omega
  clear a10
  go_wp2
  clear x0 x1 x2 x3 x4 x6
  go_loop [3, 29] (fun all i => ∃ k : Nat, k ≤ dl ∧ i = .int .i64 k ∧ all = .int .i64 (sumF p.days k)) (fun _ i => dl - (intOf i).toNat)
  case atStart => exact ⟨0, Nat.zero_le _, rfl, rfl⟩
  case round =>
    obtain ⟨k, hk, rfl, rfl⟩ := hrel
    obtain ⟨s0, s1⟩ := sumF_bd HDB.out k
    by_cases hlt : k < dl
    · obtain ⟨c, hc⟩ : ∃ c, p.days[k]? = some c := ⟨p.days[k]'(by have := HDL.out; omega), by simp⟩
      obtain ⟨d0, d1⟩ := HDB.out k c hc
      have HST : Hid (sumF p.days (k + 1) = sumF p.days k + c) := by show _ = _; rw [sumF, hc]; rfl
      obtain ⟨b, off, rfl, hbl, H0⟩ := (HPB.out _ HB1.out).hdays k c hc
      clear hc
      go_wp2
      go_round
      case rel => exact ⟨k + 1, by omega, by go_num, by rw [HST.out]⟩
      case measure => simp [intOf]; omega
    · obtain rfl : dl = k := by omega
      obtain ⟨all, HALL⟩ : ∃ all, Hid (sumF p.days dl = all) := ⟨_, rfl⟩
      rw [HALL.out] at s0 s1 ⊢
      clear x5 x7 x8
      obtain ⟨x0, x1, x2, x3, x4, x5, x6, x7, x8⟩ := HF.out _ HB1.out
      have s2 : all ≤ 40 := by omega
      clear s1
      obtain ⟨mb, hmb, HMB, mb0, mb1⟩ : ∃ mb : Int, (∀ w, (Builtin.min_ #[3, 3] 3 #[.int .i64 10000, .int .i64 (bill + 1)]).run Tryd.prog w = .ok (.int .i64 mb) w) ∧ Hid (mb = min 10000 (bill + 1)) ∧ 0 ≤ mb ∧ mb ≤ 10000 := by
        refine ⟨min 10000 (bill + 1), fun w => ?_, rfl, by omega, by omega⟩
        have e : (if bill + 1 < 10000 then bill + 1 else 10000) = min 10000 (bill + 1) := by split <;> omega
        simp [Builtin.min_, Builtin.min2, e]
      go_wp2_with fail
      obtain ⟨M, hM⟩ : ∃ M, M = w1.alloc (.cells (payCs people ra rl rc ca cl cc rate mb da dl dc pa pl pc) 27) := ⟨_, rfl⟩
      have HMK : Hid (Blk M w1.heap.size 27 (payCs people ra rl rc ca cl cc rate mb da dl dc pa pl pc)) := by show Blk _ _ _ _; rw [hM]; exact Blk.new _ _ _
      have HMW : Hid (Below W.heap.size W M) := by show Below _ _ _; rw [hM]; exact HB1.out.alloc (by omega) _
      have hm0 : w1.heap.size < M.heap.size := HMK.out.lt
      have hmw : W.heap.size ≤ M.heap.size := HMW.out.size
      have hM' := hM.symm
      unfold payCs at hM'
      rw [hM']
      clear hM hM' hmb
      have facts2 : ∀ wv, Below M.heap.size M wv → wv.cell? ⟨w1.heap.size, 0, none⟩ = some (.int .i64 people) ∧ wv.cell? ⟨w1.heap.size, 1, none⟩ = some (.slice ra rl rc) ∧ wv.cell? ⟨w1.heap.size, 2, none⟩ = some (.slice ca cl cc) ∧
          wv.cell? ⟨w1.heap.size, 3, none⟩ = some (.int .i64 rate) ∧ wv.cell? ⟨w1.heap.size, 4, none⟩ = some (.int .i64 mb) ∧ wv.cell? ⟨w1.heap.size, 5, none⟩ = some (.slice da dl dc) ∧ wv.cell? ⟨w1.heap.size, 6, none⟩ = some (.slice pa pl pc) ∧ w1.heap.size < wv.heap.size ∧ M.heap.size ≤ wv.heap.size := fun wv hb => by
        have h := HMK.out.below hb hm0
        exact ⟨h.cell 0, h.cell 1, h.cell 2, h.cell 3, h.cell 4, h.cell 5, h.cell 6, h.lt, hb.size⟩
      have HG := Lib.hid facts2
      have HVQ : Hid (payB (atBill p mb) = true) := payB_bill HV.out mb0 mb1
      clear facts2 x0 x1 x2 x3 x4 x5 x6 x7 x8
      go_loopw [7, 8, 9, 46] (fun s n up i wr => ∃ k : Nat, i = .int .i64 k ∧ k ≤ dl ∧ s = .int .i64 (sumF (sharesR p) k) ∧ n = .int .i64 (sumF (sharesR (atBill p mb)) k) ∧ Hid (wr.ownsRow M.heap.size 4 1 up k ((upL p all k).flatMap boF)) ∧ Hid (Below M.heap.size M wr)) (fun _ _ _ i _ => dl - (intOf i).toNat)
      case atStart => exact ⟨0, rfl, Nat.zero_le _, rfl, rfl, World.ownsRow_nil _ _ _ _, Below.refl _ _⟩
      case round =>
        obtain ⟨k, rfl, hk, rfl, rfl, HO, HBR⟩ := hrel
        have HBR' : Hid (Below W.heap.size W wr) := HMW.out.trans (HBR.out.mono hmw)
        obtain ⟨x0, x1, x2, x3, x4, x5, x6, x7, x8⟩ := HF.out _ HBR'.out
        obtain ⟨z0, z1, z2, z3, z4, z5, z6, z7, z8⟩ := HG.out _ HBR.out
        obtain ⟨t0, t1⟩ := sumS_bd HV.out k (by rw [HDL.out]; exact hk)
        obtain ⟨t2, t3⟩ := sumS_bd HVQ.out k (by show k ≤ p.days.length; rw [HDL.out]; exact hk)
        by_cases hlt : k < dl
        · obtain ⟨c, hc⟩ : ∃ c, p.days[k]? = some c := ⟨p.days[k]'(by have := HDL.out; omega), by simp⟩
          obtain ⟨d0, d1⟩ := HDB.out k c hc
          have HWB : Hid (whoB p k = true) := whoB_in (by omega) (by rw [HPE.out, HPD.out]; omega)
          obtain ⟨S, HS⟩ : ∃ S, Hid (rv (sharesR p) k = S) := ⟨_, rfl⟩
          obtain ⟨S', HS'⟩ : ∃ S, Hid (rv (sharesR (atBill p mb)) k = S) := ⟨_, rfl⟩
          have hso := share_ok HV.out hc
          rw [HS.out, HDL.out, HALL.out] at hso
          obtain ⟨q0, q1, q2, q3, q4, q5, q6, q7⟩ := hso
          rw [HBI.out] at q2 q3 q7
          have hso' := share_ok HVQ.out hc
          rw [HS'.out] at hso'
          have r0 := hso'.s0
          have r1 := hso'.s1
          clear hso'
          have HST : Hid (sumF (sharesR p) (k + 1) = sumF (sharesR p) k + S) := by show _ = _; rw [← HS.out]; rfl
          have HST' : Hid (sumF (sharesR (atBill p mb)) (k + 1) = sumF (sharesR (atBill p mb)) k + S') := by show _ = _; rw [← HS'.out]; rfl
          have HUP : Hid (upL p all (k + 1) = upL p all k ++ [decide (0 < all) && decide (bill * c < S * all)]) := by show _ = _; rw [upL, rv_some hc, HS.out, HBI.out]
          have HE1 : Hid (messR p k = (S, 0)) := by show _ = _; rw [messR_ok HV.out HWB.out, Int.toNat_natCast]; rw [← HS.out]; rfl
          have HE2 : Hid (messR (atBill p mb) k = (S', 0)) := by show _ = _; rw [messR_ok HVQ.out (show whoB (atBill p mb) k = true from HWB.out), Int.toNat_natCast]; rw [← HS'.out]; rfl
          obtain ⟨b, off, rfl, hbl, H0⟩ := (HPB.out _ HBR'.out).hdays k c hc
          clear hc
          generalize sumF (sharesR p) k = s at *
          generalize sumF (sharesR (atBill p mb)) k = s' at *
          go_wp2_with fail
          refine (PMess_any (p := p) k _ (by exact HPB.out _ HBR'.out)).mono ?_
          rw [HE1.out]
          simp only
          rintro e w2 ⟨rfl, hb2⟩
          have HB2 : Hid (Below M.heap.size M w2) := HBR.out.trans (hb2.mono HBR.out.size)
          have HB2' : Hid (Below W.heap.size W w2) := HMW.out.trans (HB2.out.mono hmw)
          have HO2 := Lib.hid (own_below HO.out hb2)
          clear hb2 H0 hbl x0 x1 x2 x3 x4 x5 x6 x7 x8 z0 z1 z2 z3 z4 z5 z6 z7 z8
          obtain ⟨x0, x1, x2, x3, x4, x5, x6, x7, x8⟩ := HF.out _ HB2'.out
          obtain ⟨z0, z1, z2, z3, z4, z5, z6, z7, z8⟩ := HG.out _ HB2.out
          go_wp2_with fail
          refine (PMess_any (p := atBill p mb) k _ (by exact (HPB.out _ HB2'.out).toBill mb)).mono ?_
          rw [HE2.out]
          simp only
          rintro e w3 ⟨rfl, hb3⟩
          have HB3 : Hid (Below M.heap.size M w3) := HB2.out.trans (hb3.mono HB2.out.size)
          have HB3' : Hid (Below W.heap.size W w3) := HMW.out.trans (HB3.out.mono hmw)
          have HO3 := Lib.hid (own_below HO2.out hb3)
          clear hb3 x0 x1 x2 x3 x4 x5 x6 x7 x8 z0 z1 z2 z3 z4 z5 z6 z7 z8
          obtain ⟨x0, x1, x2, x3, x4, x5, x6, x7, x8⟩ := HF.out _ HB3'.out
          have hmw3 : M.heap.size ≤ w3.heap.size := HB3.out.size
          have HOWN : Hid (∀ b : Bool, (w3.alloc (.cells #[.bool b] 4)).ownsRow M.heap.size 4 1 u9 k ((upL p all k).flatMap boF)) := fun b => HO3.out.alloc _
          have hcs : (c = 0 ∧ S = 0) ∨ ¬ c = 0 := by
            by_cases h : c = 0
            · exact .inl ⟨h, q6 h⟩
            · exact .inr h
          have hal : (all = 0 ∧ Hid (upL p all (k + 1) = upL p all k ++ [false])) ∨ (0 < all ∧ ¬ S * all ≤ bill * c - all ∧ ¬ bill * c + all ≤ S * all ∧ bill * c < S * all ∧ Hid (upL p all (k + 1) = upL p all k ++ [true])) ∨
              (0 < all ∧ ¬ S * all ≤ bill * c - all ∧ ¬ bill * c + all ≤ S * all ∧ ¬ bill * c < S * all ∧ Hid (upL p all (k + 1) = upL p all k ++ [false])) := by
            by_cases h : all = 0
            · exact .inl ⟨h, by show _ = _; rw [HUP.out, decide_eq_false (show ¬ 0 < all by omega)]; rfl⟩
            · have := q7 (by omega)
              by_cases h2 : bill * c < S * all
              · exact .inr (.inl ⟨by omega, by omega, by omega, h2, by show _ = _; rw [HUP.out, decide_eq_true h2, decide_eq_true (show 0 < all by omega)]; rfl⟩)
              · exact .inr (.inr ⟨by omega, by omega, by omega, h2, by show _ = _; rw [HUP.out, decide_eq_false h2, Bool.and_false]⟩)
          clear q6 q7 HUP
          rcases hcs with ⟨rfl, rfl⟩ | hcz <;> rcases hal with ⟨rfl, HUB⟩ | ⟨g0, g1, g2, g3, HUB⟩ | ⟨g0, g1, g2, g3, HUB⟩
          all_goals first
            | (exfalso; simp at g3; done)
            | (
              go_wp2_with (go_loud (at_builtin; refine wpList_append_own _ rfl _ _ 58 rfl M.heap.size 4 i0 _ 1 1 Tryd.underlying58 HI.out HI0.out HI1.out HI2.out rfl (by decide) _ _ _ rfl (HOWN.out _) ⟨w3.heap.size, 0, none⟩ 1 1 (boF _) rfl rfl (news1 w3 _ _) (by simp [boF, Value.oneCell']) (by unfold maxLen; omega) (by omega) (by simp; omega) ?_))
              intro v' w4 hown4 hgrow4 _
              have HO4 := Lib.hid hown4
              have HB4 : Hid (Below M.heap.size M w4) := Below.grown (HB3.out.alloc (by omega) _) hgrow4 (by simp; omega) (fun k' hk' => by have := ((HOWN.out true).lt k' hk').1; omega)
              clear hown4 hgrow4 x0 x1 x2 x3 x4 x5 x6
              go_wp2
              go_roundw
              case rel => exact ⟨k + 1, by go_num, by omega, by rw [HST.out]; (try go_num), by rw [HST'.out], by (show World.ownsRow _ _ _ _ _ _ _; rw [HUB.out, List.flatMap_append, List.flatMap_singleton]; first | exact HO4.out | (have := HO4.out; rw [decide_eq_false (show ¬ bill * c < S * all by omega)] at this; exact this)), HB4.out⟩
              case measure => simp [intOf]; omega)
        · obtain rfl : dl = k := by omega
          have hsm : sumF (sharesR p) dl = if all = 0 then 0 else bill := by have := sumS_all HV.out; rw [HDL.out, HALL.out, HBI.out] at this; exact this
          have hsq : sumF (sharesR (atBill p mb)) dl = if all = 0 then 0 else mb := by have := sumS_all HVQ.out; rw [show (atBill p mb).days = p.days from rfl, HDL.out, HALL.out] at this; exact this
          clear t0 t1 t2 t3
          by_cases ha : all = 0
          · rw [if_pos ha] at hsm hsq
            rw [hsm, hsq]
            clear hsm hsq
            subst ha
            go_wp2_with fail
            refine (awake_any _ (by exact HR.out.below (HBW.out.trans (HBR'.out.mono (by omega))))).mono ?_
            rintro e w2 ⟨rfl, hb2⟩
            go_wp2
            go_ret
            exact ⟨rfl, HBW.out.trans ((HBR'.out.trans (hb2.mono HBR'.out.size)).mono (by omega))⟩
          · rw [if_neg ha] at hsm hsq
            rw [hsm, hsq]
            have ha1 : 1 ≤ all := by omega
            have hn0 : ¬ all = 0 := ha
            have haz : (all == 0) = false := by simpa using hn0
            clear hsm hsq ha
            have hU := own_bools (l := upL p all dl) (by rw [upL_len]; exact HO.out) (by rw [upL_len]; omega)
            rw [upL_len] at hU
            obtain ⟨g, cp, rfl, hg0, hg1, hUC⟩ := hU
            have HUC := Lib.hid hUC
            obtain ⟨wo, rfl⟩ : ∃ wo : World, wo = wr := ⟨_, rfl⟩
            clear hUC HO z0 z1 z2 z3 z4 z5 z6 z7 z8
            go_wp2
            clear x0 x1 x2 x3 x4 x5 x6 x7 x8
            go_loopw [143] (fun i wr => ∃ a : Nat, i = .int .i64 a ∧ a ≤ dl ∧ Hid (Below wo.heap.size wo wr)) (fun i _ => dl - (intOf i).toNat)
            case atStart => exact ⟨0, rfl, Nat.zero_le _, Below.refl _ _⟩
            case round =>
              obtain ⟨a, rfl, ha, HBQ⟩ := hrel
              have HBQ' : Hid (Below W.heap.size W wr) := HBR'.out.trans (HBQ.out.mono HBR'.out.size)
              obtain ⟨x0, x1, x2, x3, x4, x5, x6, x7, x8⟩ := HF.out _ HBQ'.out
              by_cases hal : a < dl
              · obtain ⟨c, hc⟩ : ∃ c, p.days[a]? = some c := ⟨p.days[a]'(by have := HDL.out; omega), by simp⟩
                obtain ⟨b, off, rfl, hbl, H0⟩ := (HPB.out _ HBQ'.out).hdays a c hc
                have HC := Lib.hid hc
                clear hc
                go_wp2
                obtain ⟨wa, rfl⟩ : ∃ wa : World, wa = wr := ⟨_, rfl⟩
                clear x0 x1 x2 x3 x4 x5 x6 x7 x8 H0 hbl
                go_loopw [151] (fun i wr => ∃ m : Nat, i = .int .i64 m ∧ m ≤ dl ∧ Hid (Below wa.heap.size wa wr)) (fun i _ => dl - (intOf i).toNat)
                case atStart => exact ⟨0, rfl, Nat.zero_le _, Below.refl _ _⟩
                case round =>
                  obtain ⟨m, rfl, hm, HBT⟩ := hrel
                  have HBT0 : Hid (Below wo.heap.size wo wr) := HBQ.out.trans (HBT.out.mono HBQ.out.size)
                  have HBT' : Hid (Below W.heap.size W wr) := HBQ'.out.trans (HBT.out.mono HBQ'.out.size)
                  obtain ⟨x0, x1, x2, x3, x4, x5, x6, x7, x8⟩ := HF.out _ HBT'.out
                  by_cases hml : m < dl
                  · obtain ⟨d, hd⟩ : ∃ d, p.days[m]? = some d := ⟨p.days[m]'(by have := HDL.out; omega), by simp⟩
                    obtain ⟨b2, off2, e2, hbl, H0⟩ := (HPB.out _ HBT'.out).hdays m d hd
                    obtain ⟨rfl, rfl⟩ : b = b2 ∧ off = off2 := by simpa using e2
                    have hc1 := HDB.out a c HC.out
                    have hd1 := HDB.out m d hd
                    obtain ⟨v0, v1⟩ := share_bd (bill := bill) (c := c) a8 a9 hc1.1 hc1.2
                    obtain ⟨v2, v3⟩ := share_bd (bill := bill) (c := d) a8 a9 hd1.1 hd1.2
                    have y0 : wr.cell? ⟨g, a, none⟩ = some (.bool (decide (bill * c < rv (sharesR p) a * all))) := by
                      rw [HBT0.out.cell (p := ⟨g, a, none⟩) hg1, HUC.out a _ (upL_get p all dl a hal), rv_some HC.out, HBI.out, decide_eq_true (show 0 < all by omega), Bool.true_and]
                    have y1 : wr.cell? ⟨g, m, none⟩ = some (.bool (decide (bill * d < rv (sharesR p) m * all))) := by
                      rw [HBT0.out.cell (p := ⟨g, m, none⟩) hg1, HUC.out m _ (upL_get p all dl m hml), rv_some hd, HBI.out, decide_eq_true (show 0 < all by omega), Bool.true_and]
                    have hgw : g < wr.heap.size := by have := HBT0.out.size; omega
                    have htie : ∀ (_ : bill * c < rv (sharesR p) a * all) (_ : ¬ bill * d < rv (sharesR p) m * all), bill * d % all < bill * c % all ∨ bill * d % all = bill * c % all ∧ a < m := fun u1 u2 => by
                      have := up_tie HV.out HC.out hd (by rw [HDL.out, HALL.out]; omega) (by rw [HDL.out, HALL.out, HBI.out]; exact u1) (by rw [HDL.out, HALL.out, HBI.out]; exact u2)
                      rw [HDL.out, HALL.out, HBI.out] at this
                      exact this
                    clear hd e2 hc1 hd1
                    obtain ⟨A, B, HA, HB, hAB⟩ : ∃ A B, Hid (decide (bill * c < rv (sharesR p) a * all) = A) ∧ Hid (decide (bill * d < rv (sharesR p) m * all) = B) ∧ (A = false ∨ (A = true ∧ B = true) ∨ (A = true ∧ B = false ∧ ¬ bill * c % all < bill * d % all ∧ ¬ bill * d % all = bill * c % all) ∨ (A = true ∧ B = false ∧ ¬ bill * c % all < bill * d % all ∧ ¬ m < a)) := by
                      refine ⟨_, _, rfl, rfl, ?_⟩
                      by_cases u1 : bill * c < rv (sharesR p) a * all
                      · by_cases u2 : bill * d < rv (sharesR p) m * all
                        · exact .inr (.inl ⟨decide_eq_true u1, decide_eq_true u2⟩)
                        · rcases htie u1 u2 with h | ⟨h1, h2⟩
                          · exact .inr (.inr (.inl ⟨decide_eq_true u1, decide_eq_false u2, by omega, by omega⟩))
                          · exact .inr (.inr (.inr ⟨decide_eq_true u1, decide_eq_false u2, by omega, by omega⟩))
                      · exact .inl (decide_eq_false u1)
                    rw [HA.out] at y0
                    rw [HB.out] at y1
                    clear HA HB htie
                    go_wp2
                    refine wp_region_havoc [(0,false),(1,false),(2,false),(3,false),(4,false),(5,false),(6,false),(7,false),(8,false),(9,false),(10,false),(11,false),(12,false),(13,false)] [] (fun _ _ => False) (by kernel_rfl) (by kernel_rfl) (fun _ _ _ _ h => h.elim) ?_
                    iterate 14 (apply hav_same (by simp only [List.getElem?_toArray, List.getElem?_cons_succ, List.getElem?_cons_zero]; rfl) (by kernel_rfl); (focus (intro wv hgv _; have hcv : ∀ b o, b < _ → wv.cell? ⟨b, o, none⟩ = _ := fun b o hb => Below.cell hgv (p := ⟨b, o, none⟩) hb; go_simp; try rfl; done)); simp only [Act.put, List.setIfInBounds_toArray, List.set_cons_succ, List.set_cons_zero])
                    refine hav_end (fun w6 hgw6 _ => ?_); simp only [List.filterMap]; have hcw6 : ∀ b o, b < _ → w6.cell? ⟨b, o, none⟩ = _ := fun b o hb => Below.cell hgw6 (p := ⟨b, o, none⟩) hb; have hfw6 : ∀ b o, b < _ → w6.frozen? ⟨b, o, none⟩ = _ := fun b o hb => Below.frozen hgw6 (p := ⟨b, o, none⟩) hb; have hzw6 := Below.size hgw6; (try simp at hzw6)
                    have HB6 : Hid (Below wa.heap.size wa w6) := HBT.out.trans (hgw6.mono HBT.out.size)
                    clear hgw6 hfw6 x0 x1 x2 x3 x4 x5 x6
                    rcases hAB with rfl | ⟨rfl, rfl⟩ | ⟨rfl, rfl, j1, j2⟩ | ⟨rfl, rfl, j1, j2⟩
                    all_goals (
                      go_wp2 <;> (
                        go_roundw
                        case rel => exact ⟨m + 1, by go_num, by omega, HB6.out⟩
                        case measure => simp [intOf]; omega))
                  · obtain rfl : dl = m := by omega
                    go_wp2
                    go_roundw
                    case rel => exact ⟨a + 1, by go_num, by omega, HBT0.out⟩
                    case measure => simp [intOf]; omega
              · obtain rfl : dl = a := by omega
                obtain ⟨z0, z1, z2, z3, z4, z5, z6, z7, z8⟩ := HG.out _ (HBR.out.trans (HBQ.out.mono HBR.out.size))
                go_wp2_with fail
                refine (awake_any _ (by exact HR.out.below (HBW.out.trans (HBQ'.out.mono (by omega))))).mono ?_
                rintro e w2 ⟨rfl, hb2⟩
                go_wp2
                go_ret
                exact ⟨rfl, HBW.out.trans ((HBQ'.out.trans (hb2.mono HBQ'.out.size)).mono (by omega))⟩
end
end Go.Proofs.YtlcolpnniipgbaaDoor
