/- The walks of the reference's Sheep and Wages. -/
import Derived.Test.YtlcolpnniipgbaaDoorPlain1
namespace Go.Proofs.YtlcolpnniipgbaaDoor
open Go.RowKit Go.Hav

section
variable {people rate bill : Int} {ra ca da pa : Option Addr} {rl rc cl cc dl dc pl pc : Nat} {p : PayD}

theorem spanR_zero {e : Int} {s : Sp} (h : e = 0) : spanR e s = (s, 0) := if_pos h
theorem spanR_err {e : Int} {s : Sp} (h : e ≠ 0) : spanR e s = (⟨0, 0⟩, e) := if_neg h

set_option maxHeartbeats 6400000 in
theorem RSheep_any (who run : Int) (w : World) (hP : PayIn w w.heap.size people ra rl ca cl rate bill da dl pa pl p) :
    Calls Tryd.prog 17 #[payV people ra rl rc ca cl cc rate bill da dl dc pa pl pc, .int .i64 who, .int .i64 run] w fun e w' => e = .returned (.tuple #[spV (spanR (checkE p (whoB p who && runB p run) true) (shornS p who run)).1, .int .i64 (spanR (checkE p (whoB p who && runB p run) true) (shornS p who run)).2]) ∧ Below w.heap.size w w' := by
  have HP := Lib.hid hP
  have HPE := Lib.hid hP.epeople
  have HE2 := Lib.hid hP.erl
  have m1 := hP.mrl
  have HCE := Lib.hid (checkE_who (p := p) who (runB p run) true)
  clear hP
  unfold payV
  cases hv : inB who 0 (wrap64 (people - 1))
  all_goals
    have HV1 := Lib.hid hv
    have HX0 := HCE.out
    rw [HPE.out, hv] at HX0
    clear hv
    go_enter Tryd.func17, Tryd.ntmps17
    go_wp2
    refine wp_region_havoc [(0,false),(1,false),(2,false),(3,false),(4,false),(5,false),(6,false),(7,false),(8,false),(9,false),(10,false)] [] (fun _ _ => False) (by kernel_rfl) (by kernel_rfl) (fun _ _ _ _ h => h.elim) ?_
    iterate 3 (apply hav_same (by simp only [List.getElem?_toArray, List.getElem?_cons_succ, List.getElem?_cons_zero]; rfl) (by kernel_rfl); (focus (intro wv hgv _; have hcv : ∀ b o, b < _ → wv.cell? ⟨b, o, none⟩ = _ := fun b o hb => Below.cell hgv (p := ⟨b, o, none⟩) hb; go_simp; try rfl; done)); simp only [Act.put, List.setIfInBounds_toArray, List.set_cons_succ, List.set_cons_zero])
    (apply hav_call (by simp only [List.getElem?_toArray, List.getElem?_cons_succ, List.getElem?_cons_zero]; rfl) (by kernel_rfl); (focus (intro wv; go_simp; try exact ⟨rfl, rfl⟩; done)); (focus (intro wv hgv _; exact (Who_gen who _).mono fun e w' h => by rw [HV1.out] at h; exact h; done)); simp only [Act.put, List.setIfInBounds_toArray, List.set_cons_succ, List.set_cons_zero])
  · have HX : Hid (checkE p (whoB p who && runB p run) true = checkE p false true) := by show _ = _; rw [← HX0]; rfl
    clear HX0
    (apply hav_same (by simp only [List.getElem?_toArray, List.getElem?_cons_succ, List.getElem?_cons_zero]; rfl) (by kernel_rfl); (focus (intro wv hgv _; have hcv : ∀ b o, b < _ → wv.cell? ⟨b, o, none⟩ = _ := fun b o hb => Below.cell hgv (p := ⟨b, o, none⟩) hb; go_simp; try rfl; done)); simp only [Act.put, List.setIfInBounds_toArray, List.set_cons_succ, List.set_cons_zero])
    iterate 3 (refine hav_skip (by simp only [List.getElem?_toArray, List.getElem?_cons_succ, List.getElem?_cons_zero]; rfl) (by kernel_rfl) ?_; simp only [Act.put, List.setIfInBounds_toArray, List.set_cons_succ, List.set_cons_zero])
    (apply hav_same (by simp only [List.getElem?_toArray, List.getElem?_cons_succ, List.getElem?_cons_zero]; rfl) (by kernel_rfl); (focus (intro wv hgv _; have hcv : ∀ b o, b < _ → wv.cell? ⟨b, o, none⟩ = _ := fun b o hb => Below.cell hgv (p := ⟨b, o, none⟩) hb; go_simp; try rfl; done)); simp only [Act.put, List.setIfInBounds_toArray, List.set_cons_succ, List.set_cons_zero])
    (apply hav_call (by simp only [List.getElem?_toArray, List.getElem?_cons_succ, List.getElem?_cons_zero]; rfl) (by kernel_rfl); (focus (intro wv; go_simp; try exact ⟨rfl, rfl⟩; done)); (focus (intro wv hgv _; exact check_any (p := p) _ _ _ (by exact HP.out.grow (Below.trans (by repeat (first | exact Below.refl _ _ | assumption | refine Below.drew ?_ | refine below_drewN ?_ _ | refine Below.alloc ?_ (by (try simp) <;> omega) _ | refine Below.setCell ?_ (by (try simp) <;> omega) _ | refine Below.trans ?_ (Below.mono (by assumption) (by (try simp) <;> omega)))) (Below.mono hgv (by simp <;> omega)))); done)); simp only [Act.put, List.setIfInBounds_toArray, List.set_cons_succ, List.set_cons_zero])
    (apply hav_same (by simp only [List.getElem?_toArray, List.getElem?_cons_succ, List.getElem?_cons_zero]; rfl) (by kernel_rfl); (focus (intro wv hgv _; have hcv : ∀ b o, b < _ → wv.cell? ⟨b, o, none⟩ = _ := fun b o hb => Below.cell hgv (p := ⟨b, o, none⟩) hb; go_simp; try rfl; done)); simp only [Act.put, List.setIfInBounds_toArray, List.set_cons_succ, List.set_cons_zero])
    refine hav_end (fun w1 hgw1 _ => ?_); simp only [List.filterMap]; have hcw1 : ∀ b o, b < _ → w1.cell? ⟨b, o, none⟩ = _ := fun b o hb => Below.cell hgw1 (p := ⟨b, o, none⟩) hb; have hfw1 : ∀ b o, b < _ → w1.frozen? ⟨b, o, none⟩ = _ := fun b o hb => Below.frozen hgw1 (p := ⟨b, o, none⟩) hb; have hzw1 := Below.size hgw1; (try simp at hzw1)
    have HRB1 : Hid (Blk w1 (w.heap.size + 1) 34 #[.int .i64 0, .int .i64 0]) := (Blk.new_ (by simp) _ _).below hgw1 (by simp)
    have r0 : w1.cell? ⟨w.heap.size + 1, 0, none⟩ = some (.int .i64 0) := HRB1.out.cell 0
    have r1 : w1.cell? ⟨w.heap.size + 1, 1, none⟩ = some (.int .i64 0) := HRB1.out.cell 1
    have g0 : w1.frozen? ⟨w.heap.size + 1, 0, none⟩ = false := HRB1.out.frozen 0
    have g1 : w1.frozen? ⟨w.heap.size + 1, 1, none⟩ = false := HRB1.out.frozen 1
    have HG1 := Lib.hid hgw1
    clear hgw1
    have HBW : Hid (Below w.heap.size w w1) := Below.trans (((Below.refl w.heap.size w).alloc (by simp) _).alloc (by simp) _) (Below.mono HG1.out (by simp <;> omega))
    by_cases hz : checkE p false true = 0
    · have hne : (checkE p false true != 0) = false := by simp [hz]
      have HZ : Hid (spanR (checkE p false true) (shornS p who run) = (shornS p who run, 0)) := spanR_zero hz
      obtain ⟨z1, z2, z3⟩ := checkE_zero hz
      exact absurd z2 (by simp)
    · have hne : (checkE p false true != 0) = true := by simp [hz]
      have HZ : Hid (spanR (checkE p false true) (shornS p who run) = (⟨0, 0⟩, checkE p false true)) := spanR_err hz
      clear hz
      go_wp2
      have e0 := ((HRB1.out.set_ 0 (.int .i64 0)).set_ 1 (.int .i64 0)).cell 0
      have e1 := ((HRB1.out.set_ 0 (.int .i64 0)).set_ 1 (.int .i64 0)).cell 1
      refine bodyPost_ret (v := .tuple #[spV ⟨0, 0⟩, .int .i64 (checkE p false true)]) (by simp [results, Tryd.results17, go_sem, e0, e1, spV]) rfl ⟨by rw [HX.out, HZ.out], ?_⟩
      exact (HBW.out.setCell (by simp) _).setCell (by simp) _
  · have HX : Hid (checkE p (whoB p who && runB p run) true = checkE p (runB p run) true) := by show _ = _; rw [← HX0]; rfl
    clear HX0
    iterate 3 (apply hav_same (by simp only [List.getElem?_toArray, List.getElem?_cons_succ, List.getElem?_cons_zero]; rfl) (by kernel_rfl); (focus (intro wv hgv _; have hcv : ∀ b o, b < _ → wv.cell? ⟨b, o, none⟩ = _ := fun b o hb => Below.cell hgv (p := ⟨b, o, none⟩) hb; go_simp; try rfl; done)); simp only [Act.put, List.setIfInBounds_toArray, List.set_cons_succ, List.set_cons_zero])
    (apply hav_call (by simp only [List.getElem?_toArray, List.getElem?_cons_succ, List.getElem?_cons_zero]; rfl) (by kernel_rfl); (focus (intro wv; go_simp; try exact ⟨rfl, rfl⟩; done)); (focus (intro wv hgv _; exact Run_any (p := p) run _ HE2.out m1; done)); simp only [Act.put, List.setIfInBounds_toArray, List.set_cons_succ, List.set_cons_zero])
    (apply hav_same (by simp only [List.getElem?_toArray, List.getElem?_cons_succ, List.getElem?_cons_zero]; rfl) (by kernel_rfl); (focus (intro wv hgv _; have hcv : ∀ b o, b < _ → wv.cell? ⟨b, o, none⟩ = _ := fun b o hb => Below.cell hgv (p := ⟨b, o, none⟩) hb; go_simp; try rfl; done)); simp only [Act.put, List.setIfInBounds_toArray, List.set_cons_succ, List.set_cons_zero])
    (apply hav_call (by simp only [List.getElem?_toArray, List.getElem?_cons_succ, List.getElem?_cons_zero]; rfl) (by kernel_rfl); (focus (intro wv; go_simp; try exact ⟨rfl, rfl⟩; done)); (focus (intro wv hgv _; exact check_any (p := p) _ _ _ (by exact HP.out.grow (Below.trans (by repeat (first | exact Below.refl _ _ | assumption | refine Below.drew ?_ | refine below_drewN ?_ _ | refine Below.alloc ?_ (by (try simp) <;> omega) _ | refine Below.setCell ?_ (by (try simp) <;> omega) _ | refine Below.trans ?_ (Below.mono (by assumption) (by (try simp) <;> omega)))) (Below.mono hgv (by simp <;> omega)))); done)); simp only [Act.put, List.setIfInBounds_toArray, List.set_cons_succ, List.set_cons_zero])
    (apply hav_same (by simp only [List.getElem?_toArray, List.getElem?_cons_succ, List.getElem?_cons_zero]; rfl) (by kernel_rfl); (focus (intro wv hgv _; have hcv : ∀ b o, b < _ → wv.cell? ⟨b, o, none⟩ = _ := fun b o hb => Below.cell hgv (p := ⟨b, o, none⟩) hb; go_simp; try rfl; done)); simp only [Act.put, List.setIfInBounds_toArray, List.set_cons_succ, List.set_cons_zero])
    refine hav_end (fun w1 hgw1 _ => ?_); simp only [List.filterMap]; have hcw1 : ∀ b o, b < _ → w1.cell? ⟨b, o, none⟩ = _ := fun b o hb => Below.cell hgw1 (p := ⟨b, o, none⟩) hb; have hfw1 : ∀ b o, b < _ → w1.frozen? ⟨b, o, none⟩ = _ := fun b o hb => Below.frozen hgw1 (p := ⟨b, o, none⟩) hb; have hzw1 := Below.size hgw1; (try simp at hzw1)
    have HRB1 : Hid (Blk w1 (w.heap.size + 1) 34 #[.int .i64 0, .int .i64 0]) := (Blk.new_ (by simp) _ _).below hgw1 (by simp)
    have r0 : w1.cell? ⟨w.heap.size + 1, 0, none⟩ = some (.int .i64 0) := HRB1.out.cell 0
    have r1 : w1.cell? ⟨w.heap.size + 1, 1, none⟩ = some (.int .i64 0) := HRB1.out.cell 1
    have g0 : w1.frozen? ⟨w.heap.size + 1, 0, none⟩ = false := HRB1.out.frozen 0
    have g1 : w1.frozen? ⟨w.heap.size + 1, 1, none⟩ = false := HRB1.out.frozen 1
    have HG1 := Lib.hid hgw1
    clear hgw1
    have HBW : Hid (Below w.heap.size w w1) := Below.trans (((Below.refl w.heap.size w).alloc (by simp) _).alloc (by simp) _) (Below.mono HG1.out (by simp <;> omega))
    by_cases hz : checkE p (runB p run) true = 0
    · have hne : (checkE p (runB p run) true != 0) = false := by simp [hz]
      have HZ : Hid (spanR (checkE p (runB p run) true) (shornS p who run) = (shornS p who run, 0)) := spanR_zero hz
      obtain ⟨z1, z2, z3⟩ := checkE_zero hz
      obtain ⟨zr0, zr1⟩ := inB_iff.1 z2
      have zl : run < rl := by have := HE2.out; omega
      have Z1 := Lib.hid z1
      have Z3 := Lib.hid z3
      clear hz z1 z2 z3
      have q1 : w.heap.size < w1.heap.size := by omega
      have q2 : w.heap.size + 1 < w1.heap.size := by omega
      go_wp2_with fail
      refine (shorn_any (p := p) Z1.out who run zr0 zl _ (by exact HP.out.grow HBW.out)).mono ?_
      unfold spV
      rintro e w2 ⟨rfl, hbw2⟩; obtain ⟨hcw2, hfw2⟩ := bcell hbw2; have hzw2 := hbw2.size; (try simp at hzw2)
      go_wp2
      have e0 := (((HRB1.out.below hbw2 (by omega)).set_ 0 (.int .i64 (shornS p who run).lo)).set_ 1 (.int .i64 (shornS p who run).hi)).cell 0
      have e1 := (((HRB1.out.below hbw2 (by omega)).set_ 0 (.int .i64 (shornS p who run).lo)).set_ 1 (.int .i64 (shornS p who run).hi)).cell 1
      refine bodyPost_ret (v := .tuple #[spV (shornS p who run), .int .i64 0]) (by simp [results, Tryd.results17, go_sem, e0, e1, spV]) rfl ⟨by rw [HX.out, HZ.out], ?_⟩
      exact ((HBW.out.trans (hbw2.mono (by omega))).setCell (by simp) _).setCell (by simp) _
    · have hne : (checkE p (runB p run) true != 0) = true := by simp [hz]
      have HZ : Hid (spanR (checkE p (runB p run) true) (shornS p who run) = (⟨0, 0⟩, checkE p (runB p run) true)) := spanR_err hz
      clear hz
      go_wp2
      have e0 := ((HRB1.out.set_ 0 (.int .i64 0)).set_ 1 (.int .i64 0)).cell 0
      have e1 := ((HRB1.out.set_ 0 (.int .i64 0)).set_ 1 (.int .i64 0)).cell 1
      refine bodyPost_ret (v := .tuple #[spV ⟨0, 0⟩, .int .i64 (checkE p (runB p run) true)]) (by simp [results, Tryd.results17, go_sem, e0, e1, spV]) rfl ⟨by rw [HX.out, HZ.out], ?_⟩
      exact (HBW.out.setCell (by simp) _).setCell (by simp) _

set_option maxHeartbeats 6400000 in
theorem RWages_any (who : Int) (w : World) (hP : PayIn w w.heap.size people ra rl ca cl rate bill da dl pa pl p) :
    Calls Tryd.prog 21 #[payV people ra rl rc ca cl cc rate bill da dl dc pa pl pc, .int .i64 who] w fun e w' => e = .returned (.tuple #[spV (spanR (checkE p (whoB p who) true) (wagesF (fun r => shornS p who r) rate rl)).1, .int .i64 (spanR (checkE p (whoB p who) true) (wagesF (fun r => shornS p who r) rate rl)).2]) ∧ Below w.heap.size w w' := by
  have HP := Lib.hid hP
  have HPE := Lib.hid hP.epeople
  have HE2 := Lib.hid hP.erl
  have m1 := hP.mrl
  have HCE := Lib.hid (checkE_who (p := p) who true true)
  clear hP
  unfold payV
  have HX : Hid (checkE p (whoB p who) true = checkE p (inB who 0 (wrap64 (people - 1))) true) := by
    have h := HCE.out
    rw [Bool.and_true, Bool.and_true, HPE.out] at h
    exact h.symm
  go_enter Tryd.func21, Tryd.ntmps21
  go_wp2
  refine wp_region_havoc [(0,false),(1,false),(2,false),(3,false),(4,false),(5,false)] [] (fun _ _ => False) (by kernel_rfl) (by kernel_rfl) (fun _ _ _ _ h => h.elim) ?_
  iterate 3 (apply hav_same (by simp only [List.getElem?_toArray, List.getElem?_cons_succ, List.getElem?_cons_zero]; rfl) (by kernel_rfl); (focus (intro wv hgv _; have hcv : ∀ b o, b < _ → wv.cell? ⟨b, o, none⟩ = _ := fun b o hb => Below.cell hgv (p := ⟨b, o, none⟩) hb; go_simp; try rfl; done)); simp only [Act.put, List.setIfInBounds_toArray, List.set_cons_succ, List.set_cons_zero])
  (apply hav_call (by simp only [List.getElem?_toArray, List.getElem?_cons_succ, List.getElem?_cons_zero]; rfl) (by kernel_rfl); (focus (intro wv; go_simp; try exact ⟨rfl, rfl⟩; done)); (focus (intro wv hgv _; exact Who_gen who _; done)); simp only [Act.put, List.setIfInBounds_toArray, List.set_cons_succ, List.set_cons_zero])
  (apply hav_call (by simp only [List.getElem?_toArray, List.getElem?_cons_succ, List.getElem?_cons_zero]; rfl) (by kernel_rfl); (focus (intro wv; go_simp; try exact ⟨rfl, rfl⟩; done)); (focus (intro wv hgv _; exact check_any (p := p) _ _ _ (by exact HP.out.grow (Below.trans (by repeat (first | exact Below.refl _ _ | assumption | refine Below.drew ?_ | refine below_drewN ?_ _ | refine Below.alloc ?_ (by (try simp) <;> omega) _ | refine Below.setCell ?_ (by (try simp) <;> omega) _ | refine Below.trans ?_ (Below.mono (by assumption) (by (try simp) <;> omega)))) (Below.mono hgv (by simp <;> omega)))); done)); simp only [Act.put, List.setIfInBounds_toArray, List.set_cons_succ, List.set_cons_zero])
  (apply hav_same (by simp only [List.getElem?_toArray, List.getElem?_cons_succ, List.getElem?_cons_zero]; rfl) (by kernel_rfl); (focus (intro wv hgv _; have hcv : ∀ b o, b < _ → wv.cell? ⟨b, o, none⟩ = _ := fun b o hb => Below.cell hgv (p := ⟨b, o, none⟩) hb; go_simp; try rfl; done)); simp only [Act.put, List.setIfInBounds_toArray, List.set_cons_succ, List.set_cons_zero])
  refine hav_end (fun w1 hgw1 _ => ?_); simp only [List.filterMap]; have hcw1 : ∀ b o, b < _ → w1.cell? ⟨b, o, none⟩ = _ := fun b o hb => Below.cell hgw1 (p := ⟨b, o, none⟩) hb; have hfw1 : ∀ b o, b < _ → w1.frozen? ⟨b, o, none⟩ = _ := fun b o hb => Below.frozen hgw1 (p := ⟨b, o, none⟩) hb; have hzw1 := Below.size hgw1; (try simp at hzw1)
  have HRB1 : Hid (Blk w1 (w.heap.size + 1) 34 #[.int .i64 0, .int .i64 0]) := (Blk.new_ (by simp) _ _).below hgw1 (by simp)
  have r0 : w1.cell? ⟨w.heap.size + 1, 0, none⟩ = some (.int .i64 0) := HRB1.out.cell 0
  have r1 : w1.cell? ⟨w.heap.size + 1, 1, none⟩ = some (.int .i64 0) := HRB1.out.cell 1
  have g0 : w1.frozen? ⟨w.heap.size + 1, 0, none⟩ = false := HRB1.out.frozen 0
  have g1 : w1.frozen? ⟨w.heap.size + 1, 1, none⟩ = false := HRB1.out.frozen 1
  have HG1 := Lib.hid hgw1
  clear hgw1
  have HBW : Hid (Below w.heap.size w w1) := Below.trans (((Below.refl w.heap.size w).alloc (by simp) _).alloc (by simp) _) (Below.mono HG1.out (by simp <;> omega))
  by_cases hz : checkE p (inB who 0 (wrap64 (people - 1))) true = 0
  · have hne : (checkE p (inB who 0 (wrap64 (people - 1))) true != 0) = false := by simp [hz]
    have HZ : Hid (spanR (checkE p (inB who 0 (wrap64 (people - 1))) true) (wagesF (fun r => shornS p who r) rate rl) = (wagesF (fun r => shornS p who r) rate rl, 0)) := spanR_zero hz
    obtain ⟨z1, z2, z3⟩ := checkE_zero hz
    have zr : 0 ≤ who ∧ who ≤ p.people - 1 := by
      rw [← HPE.out, whoW z1] at z2
      exact inB_iff.1 z2
    obtain ⟨zr0, zr2⟩ := zr
    have zr1 : who < people := by have := HPE.out; omega
    have Z1 := Lib.hid z1
    have Z3 := Lib.hid z3
    clear hz z1 z2 z3
    have q1 : w.heap.size < w1.heap.size := by omega
    have q2 : w.heap.size + 1 < w1.heap.size := by omega
    go_wp2_with fail
    refine (wages_any (p := p) Z1.out (Z3.out (by first | trivial | rfl)) who zr0 zr1 _ (by exact HP.out.grow HBW.out)).mono ?_
    unfold spV
    rintro e w2 ⟨rfl, hbw2⟩; obtain ⟨hcw2, hfw2⟩ := bcell hbw2; have hzw2 := hbw2.size; (try simp at hzw2)
    go_wp2
    have e0 := (((HRB1.out.below hbw2 (by omega)).set_ 0 (.int .i64 (wagesF (fun r => shornS p who r) rate rl).lo)).set_ 1 (.int .i64 (wagesF (fun r => shornS p who r) rate rl).hi)).cell 0
    have e1 := (((HRB1.out.below hbw2 (by omega)).set_ 0 (.int .i64 (wagesF (fun r => shornS p who r) rate rl).lo)).set_ 1 (.int .i64 (wagesF (fun r => shornS p who r) rate rl).hi)).cell 1
    refine bodyPost_ret (v := .tuple #[spV (wagesF (fun r => shornS p who r) rate rl), .int .i64 0]) (by simp [results, Tryd.results21, go_sem, e0, e1, spV]) rfl ⟨by rw [HX.out, HZ.out], ?_⟩
    exact ((HBW.out.trans (hbw2.mono (by omega))).setCell (by simp) _).setCell (by simp) _
  · have hne : (checkE p (inB who 0 (wrap64 (people - 1))) true != 0) = true := by simp [hz]
    have HZ : Hid (spanR (checkE p (inB who 0 (wrap64 (people - 1))) true) (wagesF (fun r => shornS p who r) rate rl) = (⟨0, 0⟩, checkE p (inB who 0 (wrap64 (people - 1))) true)) := spanR_err hz
    clear hz
    go_wp2
    have e0 := ((HRB1.out.set_ 0 (.int .i64 0)).set_ 1 (.int .i64 0)).cell 0
    have e1 := ((HRB1.out.set_ 0 (.int .i64 0)).set_ 1 (.int .i64 0)).cell 1
    refine bodyPost_ret (v := .tuple #[spV ⟨0, 0⟩, .int .i64 (checkE p (inB who 0 (wrap64 (people - 1))) true)]) (by simp [results, Tryd.results21, go_sem, e0, e1, spV]) rfl ⟨by rw [HX.out, HZ.out], ?_⟩
    exact (HBW.out.setCell (by simp) _).setCell (by simp) _
end
end Go.Proofs.YtlcolpnniipgbaaDoor
