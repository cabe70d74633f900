/- The walks of the reference's Mess and Left. -/
import Derived.Test.YtlcolpnniipgbaaDoorRef13
import Derived.Test.YtlcolpnniipgbaaDoorRef9
namespace Go.Proofs.YtlcolpnniipgbaaDoor
open Go.RowKit Go.Hav

section
variable {people rate bill : Int} {ra ca da pa : Option Addr} {rl rc cl cc dl dc pl pc : Nat} {p : PayD}

def messR (p : PayD) (who : Int) : Int × Int :=
  if checkE p (whoB p who) false = 0 then (((sharesR p)[who.toNat]?).getD 0, 0) else (0, checkE p (whoB p who) false)
/-- What was paid to who, among the first k. -/
def paidF (l : List Pd) (who : Int) : Nat → Int
  | 0 => 0
  | k + 1 => paidF l who k + (match l[k]? with
    | some x => if x.who = who then x.pence else 0
    | none => 0)
def offS (s : Sp) (d : Int) : Sp := ⟨s.lo - d, s.hi - d⟩
def leftS (p : PayD) (who : Int) : Sp := offS (wagesF (fun r => shornS p who r) p.rate p.runs.length) (((sharesR p)[who.toNat]?).getD 0 + paidF p.paid who p.paid.length)

theorem paidF_bd (hv : payB p = true) (who : Int) : ∀ k : Nat, 0 ≤ paidF p.paid who k ∧ paidF p.paid who k ≤ 10000 * k := by
  intro k
  induction k with
  | zero => simp [paidF]
  | succ k ih =>
    rw [paidF]
    cases hx : p.paid[k]? with
    | none => simp; omega
    | some x =>
      have := payB_paid hv hx
      simp only
      split <;> omega
theorem wages_bd (hv : payB p = true) (ht : wrongI p = 0) (who : Int) (h0 : 0 ≤ who) (h1 : who < p.people) :
    0 ≤ (wagesF (fun r => shornS p who r) p.rate p.runs.length).lo ∧ (wagesF (fun r => shornS p who r) p.rate p.runs.length).lo ≤ 4000 ∧ 0 ≤ (wagesF (fun r => shornS p who r) p.rate p.runs.length).hi ∧ (wagesF (fun r => shornS p who r) p.rate p.runs.length).hi ≤ 4000 := by
  have hb := payB_people hv
  have hra := payB_rate hv
  have := wagesF_bd (g := fun r => shornS p who r) (rate := p.rate) (n := p.runs.length) (by omega) (by omega) (fun r hr => by
    have ho : okRun p r = true := (wrongI_zero p).1 ht r (by omega)
    show 0 ≤ (shornS p who r).lo ∧ (shornS p who r).lo ≤ 100 ∧ 0 ≤ (shornS p who r).hi ∧ (shornS p who r).hi ≤ 100
    rw [shornS_eq hv who r h0 (by omega) (by omega) (by omega) ho]
    have := sheepS_ok hv who r h0 (by omega) (by omega) (by omega) ho
    omega) p.runs.length (Nat.le_refl _)
  omega

set_option maxHeartbeats 6400000 in
theorem RMess_any (who : Int) (w : World) (hP : PayIn w w.heap.size people ra rl ca cl rate bill da dl pa pl p) :
    Calls Tryd.prog 23 #[payV people ra rl rc ca cl cc rate bill da dl dc pa pl pc, .int .i64 who] w fun e w' => e = .returned (.tuple #[.int .i64 (messR p who).1, .int .i64 (messR p who).2]) ∧ Below w.heap.size w w' := by
  have HP := Lib.hid hP
  have HPE := Lib.hid hP.epeople
  have HDL := Lib.hid hP.edl
  have mdl := hP.mdl
  have HCE := Lib.hid (checkE_who (p := p) who true false)
  clear hP
  unfold payV
  have HX : Hid (checkE p (whoB p who) false = checkE p (inB who 0 (wrap64 (people - 1))) false) := by
    have h := HCE.out
    rw [Bool.and_true, Bool.and_true, HPE.out] at h
    exact h.symm
  go_enter Tryd.func23, Tryd.ntmps23
  go_wp2
  refine wp_region_havoc [(0,false),(1,false),(2,false),(3,false),(4,false),(5,false)] [] (fun _ _ => False) (by kernel_rfl) (by kernel_rfl) (fun _ _ _ _ h => h.elim) ?_
  iterate 3 (apply hav_same (by simp only [List.getElem?_toArray, List.getElem?_cons_succ, List.getElem?_cons_zero]; rfl) (by kernel_rfl); (focus (intro wv hgv _; have hcv : ∀ b o, b < _ → wv.cell? ⟨b, o, none⟩ = _ := fun b o hb => Below.cell hgv (p := ⟨b, o, none⟩) hb; go_simp; try rfl; done)); simp only [Act.put, List.setIfInBounds_toArray, List.set_cons_succ, List.set_cons_zero])
  (apply hav_call (by simp only [List.getElem?_toArray, List.getElem?_cons_succ, List.getElem?_cons_zero]; rfl) (by kernel_rfl); (focus (intro wv; go_simp; try exact ⟨rfl, rfl⟩; done)); (focus (intro wv hgv _; exact Who_gen who _; done)); simp only [Act.put, List.setIfInBounds_toArray, List.set_cons_succ, List.set_cons_zero])
  (apply hav_call (by simp only [List.getElem?_toArray, List.getElem?_cons_succ, List.getElem?_cons_zero]; rfl) (by kernel_rfl); (focus (intro wv; go_simp; try exact ⟨rfl, rfl⟩; done)); (focus (intro wv hgv _; exact check_any (p := p) _ _ _ (by exact HP.out.grow (Below.trans (by repeat (first | exact Below.refl _ _ | assumption | refine Below.drew ?_ | refine below_drewN ?_ _ | refine Below.alloc ?_ (by (try simp) <;> omega) _ | refine Below.setCell ?_ (by (try simp) <;> omega) _ | refine Below.trans ?_ (Below.mono (by assumption) (by (try simp) <;> omega)))) (Below.mono hgv (by simp <;> omega)))); done)); simp only [Act.put, List.setIfInBounds_toArray, List.set_cons_succ, List.set_cons_zero])
  (apply hav_same (by simp only [List.getElem?_toArray, List.getElem?_cons_succ, List.getElem?_cons_zero]; rfl) (by kernel_rfl); (focus (intro wv hgv _; have hcv : ∀ b o, b < _ → wv.cell? ⟨b, o, none⟩ = _ := fun b o hb => Below.cell hgv (p := ⟨b, o, none⟩) hb; go_simp; try rfl; done)); simp only [Act.put, List.setIfInBounds_toArray, List.set_cons_succ, List.set_cons_zero])
  refine hav_end (fun w1 hgw1 _ => ?_); simp only [List.filterMap]; have hcw1 : ∀ b o, b < _ → w1.cell? ⟨b, o, none⟩ = _ := fun b o hb => Below.cell hgw1 (p := ⟨b, o, none⟩) hb; have hfw1 : ∀ b o, b < _ → w1.frozen? ⟨b, o, none⟩ = _ := fun b o hb => Below.frozen hgw1 (p := ⟨b, o, none⟩) hb; have hzw1 := Below.size hgw1; (try simp at hzw1)
  have HG1 := Lib.hid hgw1
  clear hgw1
  have HBW : Hid (Below w.heap.size w w1) := Below.trans ((Below.refl w.heap.size w).alloc (by simp) _) (Below.mono HG1.out (by simp <;> omega))
  by_cases hz : checkE p (inB who 0 (wrap64 (people - 1))) false = 0
  · have hne : (checkE p (inB who 0 (wrap64 (people - 1))) false != 0) = false := by simp [hz]
    have HZ : Hid (messR p who = (((sharesR p)[who.toNat]?).getD 0, 0)) := by show _ = _; rw [messR, HX.out, if_pos hz]
    obtain ⟨z1, z2, z3⟩ := checkE_zero hz
    have zr : 0 ≤ who ∧ who ≤ p.people - 1 := by
      rw [← HPE.out, whoW z1] at z2
      exact inB_iff.1 z2
    have hb := payB_people z1
    have hra := payB_rate z1
    obtain ⟨zr0, zr2⟩ := zr
    have zr1 : who < dl := by have := HPE.out; have := HDL.out; omega
    have Z1 := Lib.hid z1
    clear hz z1 z2 z3 zr2 hb hra
    have q1 : w.heap.size < w1.heap.size := by omega
    go_wp2_with fail
    refine (Shares_any (p := p) Z1.out _ (by exact HP.out.grow HBW.out)).mono ?_
    rintro e w2 ⟨⟨g, rfl, hg, hbk, hle, _⟩, hbw2⟩
    obtain ⟨n, rfl⟩ : ∃ n : Nat, who = n := ⟨who.toNat, by omega⟩
    have hnl : n < (sharesR p).length := by omega
    obtain ⟨v, HVV⟩ : ∃ v, Hid (((sharesR p)[n]?).getD 0 = v) := ⟨_, rfl⟩
    have u0 : w2.cell? ⟨g, n, none⟩ = some (.int .i64 v) := by
      rw [← HVV.out, hbk.cell, intsA_get, List.getElem?_eq_getElem hnl]; rfl
    have hbe : Hid (Below w1.heap.size w1 w2) := hbw2
    clear hbk hle hbw2
    go_wp2
    go_ret2
    exact ⟨by rw [HZ.out, Int.toNat_natCast, HVV.out]; rfl, HBW.out.trans (hbe.out.mono (by omega))⟩
  · have hne : (checkE p (inB who 0 (wrap64 (people - 1))) false != 0) = true := by simp [hz]
    have HZ : Hid (messR p who = (0, checkE p (inB who 0 (wrap64 (people - 1))) false)) := by show _ = _; rw [messR, HX.out, if_neg hz]
    clear hz
    go_wp2
    go_ret2
    exact ⟨by rw [HZ.out]; rfl, HBW.out⟩

set_option maxHeartbeats 6400000 in
theorem RLeft_any (who : Int) (w : World) (hP : PayIn w w.heap.size people ra rl ca cl rate bill da dl pa pl p) :
    Calls Tryd.prog 25 #[payV people ra rl rc ca cl cc rate bill da dl dc pa pl pc, .int .i64 who] w fun e w' => e = .returned (.tuple #[spV (spanR (checkE p (whoB p who) true) (leftS p who)).1, .int .i64 (spanR (checkE p (whoB p who) true) (leftS p who)).2]) ∧ Below w.heap.size w w' := by
  have HP := Lib.hid hP
  have HPE := Lib.hid hP.epeople
  have HDL := Lib.hid hP.edl
  have HRL := Lib.hid hP.erl
  have HPL := Lib.hid hP.epl
  have HRT := Lib.hid hP.erate
  have mpl := hP.mpl
  have HCE := Lib.hid (checkE_who (p := p) who true true)
  clear hP
  unfold payV
  have HX : Hid (checkE p (whoB p who) true = checkE p (inB who 0 (wrap64 (people - 1))) true) := by
    have h := HCE.out
    rw [Bool.and_true, Bool.and_true, HPE.out] at h
    exact h.symm
  go_enter Tryd.func25, Tryd.ntmps25
  go_wp2
  refine wp_region_havoc [(0,false),(1,false),(2,false),(3,false),(4,false),(5,false)] [] (fun _ _ => False) (by kernel_rfl) (by kernel_rfl) (fun _ _ _ _ h => h.elim) ?_
  iterate 3 (apply hav_same (by simp only [List.getElem?_toArray, List.getElem?_cons_succ, List.getElem?_cons_zero]; rfl) (by kernel_rfl); (focus (intro wv hgv _; have hcv : ∀ b o, b < _ → wv.cell? ⟨b, o, none⟩ = _ := fun b o hb => Below.cell hgv (p := ⟨b, o, none⟩) hb; go_simp; try rfl; done)); simp only [Act.put, List.setIfInBounds_toArray, List.set_cons_succ, List.set_cons_zero])
  (apply hav_call (by simp only [List.getElem?_toArray, List.getElem?_cons_succ, List.getElem?_cons_zero]; rfl) (by kernel_rfl); (focus (intro wv; go_simp; try exact ⟨rfl, rfl⟩; done)); (focus (intro wv hgv _; exact Who_gen who _; done)); simp only [Act.put, List.setIfInBounds_toArray, List.set_cons_succ, List.set_cons_zero])
  (apply hav_call (by simp only [List.getElem?_toArray, List.getElem?_cons_succ, List.getElem?_cons_zero]; rfl) (by kernel_rfl); (focus (intro wv; go_simp; try exact ⟨rfl, rfl⟩; done)); (focus (intro wv hgv _; exact check_any (p := p) _ _ _ (by exact HP.out.grow (Below.trans (by repeat (first | exact Below.refl _ _ | assumption | refine Below.drew ?_ | refine below_drewN ?_ _ | refine Below.alloc ?_ (by (try simp) <;> omega) _ | refine Below.setCell ?_ (by (try simp) <;> omega) _ | refine Below.trans ?_ (Below.mono (by assumption) (by (try simp) <;> omega)))) (Below.mono hgv (by simp <;> omega)))); done)); simp only [Act.put, List.setIfInBounds_toArray, List.set_cons_succ, List.set_cons_zero])
  (apply hav_same (by simp only [List.getElem?_toArray, List.getElem?_cons_succ, List.getElem?_cons_zero]; rfl) (by kernel_rfl); (focus (intro wv hgv _; have hcv : ∀ b o, b < _ → wv.cell? ⟨b, o, none⟩ = _ := fun b o hb => Below.cell hgv (p := ⟨b, o, none⟩) hb; go_simp; try rfl; done)); simp only [Act.put, List.setIfInBounds_toArray, List.set_cons_succ, List.set_cons_zero])
  refine hav_end (fun w1 hgw1 _ => ?_); simp only [List.filterMap]; have hcw1 : ∀ b o, b < _ → w1.cell? ⟨b, o, none⟩ = _ := fun b o hb => Below.cell hgw1 (p := ⟨b, o, none⟩) hb; have hfw1 : ∀ b o, b < _ → w1.frozen? ⟨b, o, none⟩ = _ := fun b o hb => Below.frozen hgw1 (p := ⟨b, o, none⟩) hb; have hzw1 := Below.size hgw1; (try simp at hzw1)
  have HRB1 : Hid (Blk w1 (w.heap.size + 1) 34 #[.int .i64 0, .int .i64 0]) := (Blk.new_ (by simp) _ _).below hgw1 (by simp)
  have r0 : w1.cell? ⟨w.heap.size + 1, 0, none⟩ = some (.int .i64 0) := HRB1.out.cell 0
  have r1 : w1.cell? ⟨w.heap.size + 1, 1, none⟩ = some (.int .i64 0) := HRB1.out.cell 1
  have g0 : w1.frozen? ⟨w.heap.size + 1, 0, none⟩ = false := HRB1.out.frozen 0
  have g1 : w1.frozen? ⟨w.heap.size + 1, 1, none⟩ = false := HRB1.out.frozen 1
  have HG1 := Lib.hid hgw1
  clear hgw1
  have HBW : Hid (Below w.heap.size w w1) := Below.trans (((Below.refl w.heap.size w).alloc (by simp) _).alloc (by simp) _) (Below.mono HG1.out (by simp <;> omega))
  by_cases hz : checkE p (inB who 0 (wrap64 (people - 1))) true = 0
  · have hne : (checkE p (inB who 0 (wrap64 (people - 1))) true != 0) = false := by simp [hz]
    have HZ : Hid (spanR (checkE p (inB who 0 (wrap64 (people - 1))) true) (leftS p who) = (leftS p who, 0)) := spanR_zero hz
    obtain ⟨z1, z2, z3⟩ := checkE_zero hz
    have zr : 0 ≤ who ∧ who ≤ p.people - 1 := by
      rw [← HPE.out, whoW z1] at z2
      exact inB_iff.1 z2
    obtain ⟨zr0, zr2⟩ := zr
    have hb := payB_people z1
    have hra := payB_rate z1
    have zr1 : who < people := by have := HPE.out; omega
    have zr3 : who < dl := by have := HPE.out; have := HDL.out; omega
    have zpl : pl ≤ 8 := by have := HPL.out; omega
    have HWB := Lib.hid (wages_bd z1 (z3 (by first | trivial | rfl)) who zr0 (by omega))
    have Z1 := Lib.hid z1
    have Z3 := Lib.hid z3
    clear hz z1 z2 z3 hb hra zr2
    have q1 : w.heap.size < w1.heap.size := by omega
    have q2 : w.heap.size + 1 < w1.heap.size := by omega
    go_wp2_with fail
    refine (Shares_any (p := p) Z1.out _ (by exact HP.out.grow HBW.out)).mono ?_
    rintro e w2 ⟨⟨g, rfl, hg, hbk, hle, hsb⟩, hbw2⟩
    obtain ⟨n, rfl⟩ : ∃ n : Nat, who = n := ⟨who.toNat, by omega⟩
    have hnl : n < (sharesR p).length := by omega
    obtain ⟨v, HVV⟩ : ∃ v, Hid (((sharesR p)[n]?).getD 0 = v) := ⟨_, rfl⟩
    have u0 : w2.cell? ⟨g, n, none⟩ = some (.int .i64 v) := by
      rw [← HVV.out, hbk.cell, intsA_get, List.getElem?_eq_getElem hnl]; rfl
    have vb := hsb v (by rw [← HVV.out, List.getElem?_eq_getElem hnl]; exact List.getElem_mem hnl)
    obtain ⟨vb0, vb1⟩ := vb
    obtain ⟨hcw2, hfw2⟩ := bcell hbw2
    have hzw2 := hbw2.size
    have HB2 : Hid (Below w1.heap.size w1 w2) := hbw2
    have HBX : Hid (Below w.heap.size w w2) := HBW.out.trans (HB2.out.mono (by omega))
    clear hbk hle hsb hbw2 hnl
    have q3 : w.heap.size < w2.heap.size := by omega
    have q4 : w.heap.size + 1 < w2.heap.size := by omega
    go_wp2
    go_loop [7, 8] (fun s i => ∃ k : Nat, k ≤ pl ∧ i = .int .i64 k ∧ s = .int .i64 (v + paidF p.paid n k)) (fun _ i => pl - (intOf i).toNat)
    case atStart => exact ⟨0, Nat.zero_le _, rfl, by simp [paidF]⟩
    case round =>
      obtain ⟨k, hk, rfl, rfl⟩ := hrel
      obtain ⟨s0, s1⟩ := paidF_bd Z1.out n k
      by_cases hlt : k < pl
      · obtain ⟨c, hc⟩ : ∃ c, p.paid[k]? = some c := ⟨p.paid[k]'(by have := HPL.out; omega), by simp⟩
        obtain ⟨_, _, _, _, d0, d1⟩ := payB_paid Z1.out hc
        have HST : Hid (paidF p.paid n (k + 1) = paidF p.paid n k + if c.who = n then c.pence else 0) := by show _ = _; rw [paidF, hc]
        obtain ⟨b, off, rfl, hbl, H0, H1, H2⟩ := (HP.out.grow HBX.out).hpaid k c hc
        obtain ⟨cw, cr, cp⟩ := c
        simp only at d0 d1 H0 H1 H2 HST
        clear hc H1
        by_cases hwho : cw = n
        · subst hwho
          go_wp2
          go_round
          case rel => exact ⟨k + 1, by omega, by go_num, by rw [HST.out, if_pos rfl]; go_num⟩
          case measure => simp [intOf]; omega
        · go_wp2
          go_round
          case rel => exact ⟨k + 1, by omega, by go_num, by rw [HST.out, if_neg hwho]; go_num⟩
          case measure => simp [intOf]; omega
      · obtain rfl : pl = k := by omega
        have HLL : Hid (leftS p n = offS (wagesF (fun r => shornS p n r) rate rl) (v + paidF p.paid n pl)) := by
          show _ = _; rw [leftS, HRT.out, HRL.out, HPL.out, Int.toNat_natCast, HVV.out]
        have hwb := HWB.out
        rw [HRT.out, HRL.out] at hwb
        obtain ⟨x0, x1, x2, x3⟩ := hwb
        go_wp2_with fail
        refine (wages_any (p := p) Z1.out (Z3.out (by first | trivial | rfl)) n zr0 zr1 _ (by exact HP.out.grow HBX.out)).mono ?_
        unfold spV
        rintro e w3 ⟨rfl, hbw3⟩; obtain ⟨hcw3, hfw3⟩ := bcell hbw3; have hzw3 := hbw3.size; (try simp at hzw3)
        obtain ⟨ws, HWS⟩ : ∃ ws, Hid (wagesF (fun r => shornS p n r) rate rl = ws) := ⟨_, rfl⟩
        rw [HWS.out] at x0 x1 x2 x3 HLL ⊢
        have q5 : w.heap.size < w3.heap.size := by omega
        have q6 : w.heap.size + 1 < w3.heap.size := by omega
        generalize paidF p.paid n pl = pf at *
        go_wp2
        have e0 := (((((HRB1.out.below HB2.out (by omega)).below hbw3 (by omega)).set_ 0 (.int .i64 (ws.lo - (v + pf)))).set_ 1 (.int .i64 (ws.hi - (v + pf)))).alloc (Obj.cells #[Value.int IntKind.i64 ws.lo, Value.int IntKind.i64 ws.hi] 34)).cell 0
        have e1 := (((((HRB1.out.below HB2.out (by omega)).below hbw3 (by omega)).set_ 0 (.int .i64 (ws.lo - (v + pf)))).set_ 1 (.int .i64 (ws.hi - (v + pf)))).alloc (Obj.cells #[Value.int IntKind.i64 ws.lo, Value.int IntKind.i64 ws.hi] 34)).cell 1
        refine bodyPost_ret (v := .tuple #[spV (offS ws (v + pf)), .int .i64 0]) (by simp [results, Tryd.results25, go_sem, e0, e1, spV, offS]) rfl ⟨by rw [HX.out, HZ.out, HLL.out], ?_⟩
        exact (((HBX.out.trans (hbw3.mono (by omega))).setCell (by simp) _).setCell (by simp) _).alloc (by simp; omega) _
  · have hne : (checkE p (inB who 0 (wrap64 (people - 1))) true != 0) = true := by simp [hz]
    have HZ : Hid (spanR (checkE p (inB who 0 (wrap64 (people - 1))) true) (leftS p who) = (⟨0, 0⟩, checkE p (inB who 0 (wrap64 (people - 1))) true)) := spanR_err hz
    clear hz
    go_wp2
    have e0 := ((HRB1.out.set_ 0 (.int .i64 0)).set_ 1 (.int .i64 0)).cell 0
    have e1 := ((HRB1.out.set_ 0 (.int .i64 0)).set_ 1 (.int .i64 0)).cell 1
    refine bodyPost_ret (v := .tuple #[spV ⟨0, 0⟩, .int .i64 (checkE p (inB who 0 (wrap64 (people - 1))) true)]) (by simp [results, Tryd.results25, go_sem, e0, e1, spV]) rfl ⟨by rw [HX.out, HZ.out], ?_⟩
    exact (HBW.out.setCell (by simp) _).setCell (by simp) _
end
end Go.Proofs.YtlcolpnniipgbaaDoor
