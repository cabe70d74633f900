/- The walks of the rules of payments: twice, none, much. -/
import Derived.Test.YtlcolpnniipgbaaDoorApi4
import Derived.Test.YtlcolpnniipgbaaDoorRef10
namespace Go.Proofs.YtlcolpnniipgbaaDoor
open Go.RowKit Go.Hav
theorem twiceF_hit {l : List Pd} {x y : Pd} {k : Nat} (hy : l[k]? = some y) (h1 : y.who = x.who) (h2 : y.run = x.run) : ∀ n, k < n → twiceF l x n = true := by
  intro n
  induction n with
  | zero => intro h; omega
  | succ n ih =>
    intro h
    rw [twiceF]
    by_cases e : k = n
    · subst e; rw [hy]; simp [h1, h2]
    · have := ih (by omega)
      split <;> simp [this]
theorem twiceF_miss {l : List Pd} {x y : Pd} {k : Nat} (hy : l[k]? = some y) (h0 : twiceF l x k = false) (h : ¬ (y.who = x.who ∧ y.run = x.run)) : twiceF l x (k + 1) = false := by
  rw [twiceF, hy, h0]
  simp only [Bool.false_or, Bool.and_eq_false_imp, decide_eq_true_eq, decide_eq_false_iff_not]
  exact fun h1 h2 => h ⟨h1, h2⟩
section
variable {B d r : Nat} {people rate bill : Int} {ra ca da pa : Option Addr} {rl rc cl cc dl dc pl pc : Nat} {p : PayD}
set_option maxRecDepth 100000 in
set_option maxHeartbeats 1600000 in
theorem twice_any (n : Nat) (x : Pd) (hx : p.paid[n]? = some x) (hpl : pl ≤ 8) (w : World) (hD : DeskIn w B d r people ra rl rc ca cl cc rate bill da dl dc pa pl pc p) :
    Calls Tryd.prog 119 #[.agg #[], (.pointer (some ⟨d, 0, none⟩)), .int .i64 n] w fun e w' => e = .returned (.bool (twiceF p.paid x n)) ∧ Below w.heap.size w w' := by
  have HD := Lib.hid hD
  have HX := Lib.hid hx
  have hn : n < pl := by have := (List.getElem?_eq_some_iff.1 hx).1; have := hD.pay.epl; omega
  have HPL := Lib.hid hD.pay.epl
  clear hD hx
  go_enter Tryd.func119, Tryd.ntmps119
  go_wp2
  go_loopw [7, 9] (fun _ i wr => ∃ k : Nat, i = .int .i64 k ∧ k ≤ n ∧ Hid (twiceF p.paid x k = false) ∧ Hid (Below w.heap.size w wr)) (fun _ i _ => n - (intOf i).toNat)
  case atStart => exact ⟨0, rfl, Nat.zero_le _, rfl, (by repeat (first | exact Below.refl _ _ | assumption | refine Below.drew ?_ | refine below_drewN ?_ _ | refine Below.alloc ?_ (by (try simp) <;> omega) _ | refine Below.setCell ?_ (by (try simp) <;> omega) _ | refine Below.trans ?_ (Below.mono (by assumption) (by (try simp) <;> omega))))⟩
  case round =>
    obtain ⟨k, rfl, hk, HT, HB⟩ := hrel
    have hsz := HB.out.size
    by_cases hlt : k < n
    · obtain ⟨y, hy⟩ : ∃ y, p.paid[k]? = some y := ⟨p.paid[k]'(by have := HPL.out; omega), by simp⟩
      have HY := Lib.hid hy
      clear hy
      go_wp2_with fail
      refine (of_any (p := p) k y HY.out _ (by exact HD.out.grow HB.out)).mono ?_
      rintro e w1 ⟨rfl, hbw1⟩; obtain ⟨hcw1, hfw1⟩ := bcell hbw1; have hzw1 := hbw1.size; (try simp at hzw1)
      have HB1 : Hid (Below w.heap.size w w1) := HB.out.trans (hbw1.mono (by omega))
      clear hbw1 hcw1 hfw1
      go_wp2_with fail
      refine (of_any (p := p) n x HX.out _ (by exact HD.out.grow HB1.out)).mono ?_
      rintro e w2 ⟨rfl, hbw2⟩; obtain ⟨hcw2, hfw2⟩ := bcell hbw2; have hzw2 := hbw2.size; (try simp at hzw2)
      have HB2 : Hid (Below w.heap.size w w2) := HB1.out.trans (hbw2.mono (by omega))
      clear hbw2 hcw2 hfw2
      go_wp2
      · have h1 : y.who = x.who := by assumption
        have h2 : y.run = x.run := by assumption
        go_ret
        exact ⟨ret_bool (twiceF_hit HY.out h1 h2 n hlt).symm, HB2.out⟩
      · have h2 : ¬ y.run = x.run := by assumption
        go_roundw
        case rel => exact ⟨k + 1, by go_num, by omega, twiceF_miss HY.out HT.out (fun h => h2 h.2), HB2.out⟩
        case measure => simp [intOf]; omega
      · have h2 : ¬ y.who = x.who := by assumption
        go_roundw
        case rel => exact ⟨k + 1, by go_num, by omega, twiceF_miss HY.out HT.out (fun h => h2 h.1), HB2.out⟩
        case measure => simp [intOf]; omega
    · obtain rfl : n = k := by omega
      go_wp2
      go_ret
      exact ⟨ret_bool HT.out.symm, HB.out⟩
set_option maxRecDepth 100000 in
set_option maxHeartbeats 1600000 in
theorem none_any (hv : payB p = true) (n : Nat) (x : Pd) (hx : p.paid[n]? = some x) (w : World) (hD : DeskM w B d r people ra rl rc ca cl cc rate bill da dl dc pa pl pc p) :
    Calls Tryd.prog 121 #[.agg #[], (.pointer (some ⟨d, 0, none⟩)), .int .i64 n] w fun e w' => e = .returned (.bool (decide (standsI p x.who x.run < 0))) ∧ Below w.heap.size w w' := by
  have HD := Lib.hid hD
  have HX := Lib.hid hx
  obtain ⟨x0, x1, x2, x3, _, _⟩ := payB_paid hv hx
  obtain ⟨e0, e1, e2, e3⟩ := payB_people hv
  have p7 := hD.desk.c7
  have hdw : d < w.heap.size := Nat.lt_of_lt_of_le hD.desk.hd hD.desk.hB
  have hd1 : d < w.heap.size + 1 := by omega
  obtain ⟨z, HZ⟩ : ∃ z, Hid ((if 0 ≤ standsI p x.who x.run then standsI p x.who x.run else 0) = z) := ⟨_, rfl⟩
  obtain ⟨b, HBB⟩ : ∃ b, Hid (decide (0 ≤ standsI p x.who x.run) = b) := ⟨_, rfl⟩
  have HFIN : Hid ((!b) = decide (standsI p x.who x.run < 0)) := by
    show _ = _
    rw [← HBB.out]
    by_cases h : 0 ≤ standsI p x.who x.run
    · rw [show decide (0 ≤ standsI p x.who x.run) = true by simp [h], show decide (standsI p x.who x.run < 0) = false by simp; omega]; rfl
    · rw [show decide (0 ≤ standsI p x.who x.run) = false by simp; omega, show decide (standsI p x.who x.run < 0) = true by simp; omega]; rfl
  have HK : Hid (∀ wv : World, Below w.heap.size w wv → (Instr.lookup 68 (.map (some r)) (.agg #[.int .i64 x.who, .int .i64 x.run]) true).run Tryd.prog wv = .ok (.tuple #[.int .i64 z, .bool b]) wv) := fun wv hb => by
    have := (HD.out.grow hb).look x.who x.run x0 (by omega) x2 (by omega)
    rwa [HZ.out, HBB.out] at this
  clear hD hx
  go_enter Tryd.func121, Tryd.ntmps121
  go_wp2
  refine wp_region_havoc [(0,false),(1,false),(2,false),(3,false),(4,false),(5,false),(6,false),(7,false),(8,false),(9,false),(10,false),(11,false),(12,false)] [] (fun _ _ => False) (by kernel_rfl) (by kernel_rfl) (fun _ _ _ _ h => h.elim) ?_
  iterate 6 (apply hav_same (by simp only [List.getElem?_toArray, List.getElem?_cons_succ, List.getElem?_cons_zero]; rfl) (by kernel_rfl); (focus (intro wv hgv _; have hcv : ∀ b o, b < _ → wv.cell? ⟨b, o, none⟩ = _ := fun b o hb => Below.cell hgv (p := ⟨b, o, none⟩) hb; go_simp; try rfl; done)); simp only [Act.put, List.setIfInBounds_toArray, List.set_cons_succ, List.set_cons_zero])
  (apply hav_call (by simp only [List.getElem?_toArray, List.getElem?_cons_succ, List.getElem?_cons_zero]; rfl) (by kernel_rfl); (focus (intro wv; go_simp; try exact ⟨rfl, rfl⟩; done)); (focus (intro wv hgv _; exact of_any (p := p) n x HX.out _ (by exact (HD.out.grow (Below.trans (by repeat (first | exact Below.refl _ _ | assumption | refine Below.drew ?_ | refine below_drewN ?_ _ | refine Below.alloc ?_ (by (try simp) <;> omega) _ | refine Below.setCell ?_ (by (try simp) <;> omega) _ | refine Below.trans ?_ (Below.mono (by assumption) (by (try simp) <;> omega)))) (Below.mono hgv (by simp <;> omega)))).desk); done)); simp only [Act.put, List.setIfInBounds_toArray, List.set_cons_succ, List.set_cons_zero])
  (apply hav_same (by simp only [List.getElem?_toArray, List.getElem?_cons_succ, List.getElem?_cons_zero]; rfl) (by kernel_rfl); (focus (intro wv hgv _; have hcv : ∀ b o, b < _ → wv.cell? ⟨b, o, none⟩ = _ := fun b o hb => Below.cell hgv (p := ⟨b, o, none⟩) hb; have hlk := HK.out wv (Below.trans (by repeat (first | exact Below.refl _ _ | assumption | refine Below.drew ?_ | refine below_drewN ?_ _ | refine Below.alloc ?_ (by (try simp) <;> omega) _ | refine Below.setCell ?_ (by (try simp) <;> omega) _ | refine Below.trans ?_ (Below.mono (by assumption) (by (try simp) <;> omega)))) (Below.mono hgv (by simp <;> omega))); go_simp; try rfl; done)); simp only [Act.put, List.setIfInBounds_toArray, List.set_cons_succ, List.set_cons_zero])
  iterate 5 (apply hav_same (by simp only [List.getElem?_toArray, List.getElem?_cons_succ, List.getElem?_cons_zero]; rfl) (by kernel_rfl); (focus (intro wv hgv _; have hcv : ∀ b o, b < _ → wv.cell? ⟨b, o, none⟩ = _ := fun b o hb => Below.cell hgv (p := ⟨b, o, none⟩) hb; go_simp; try rfl; done)); simp only [Act.put, List.setIfInBounds_toArray, List.set_cons_succ, List.set_cons_zero])
  refine hav_end (fun w1 hgw1 _ => ?_); simp only [List.filterMap]; have hcw1 : ∀ b o, b < _ → w1.cell? ⟨b, o, none⟩ = _ := fun b o hb => Below.cell hgw1 (p := ⟨b, o, none⟩) hb; have hfw1 : ∀ b o, b < _ → w1.frozen? ⟨b, o, none⟩ = _ := fun b o hb => Below.frozen hgw1 (p := ⟨b, o, none⟩) hb; have hzw1 := Below.size hgw1; (try simp at hzw1)
  go_wp2
  go_ret
  exact ⟨ret_bool HFIN.out, ((Below.refl w.heap.size w).alloc (Nat.le_refl _) _).trans (hgw1.mono (by simp))⟩
set_option maxRecDepth 100000 in
set_option maxHeartbeats 6400000 in
theorem much_any (hv : payB p = true) (ht : wrongI p = 0) (n : Nat) (x : Pd) (hx : p.paid[n]? = some x) (w : World) (hD : DeskM w B d r people ra rl rc ca cl cc rate bill da dl dc pa pl pc p) :
    Calls Tryd.prog 122 #[.agg #[], (.pointer (some ⟨d, 0, none⟩)), .int .i64 n] w fun e w' => e = .returned (.bool (muchB p x)) ∧ Below w.heap.size w w' := by
  have HD := Lib.hid hD
  have HX := Lib.hid hx
  have HV := Lib.hid hv
  obtain ⟨x0, x1, x2, x3, _, _⟩ := payB_paid hv hx
  obtain ⟨e0, e1, e2, e3⟩ := payB_people hv
  have hra := payB_rate hv
  have hrt := hD.desk.pay.erate
  have hr1 : 0 ≤ rate := by omega
  have hr2 : rate ≤ 1000 := by omega
  have hrl := hD.desk.pay.erl
  have ho : okRun p x.run.toNat = true := (wrongI_zero p).1 ht _ (by omega)
  have hso := sheepS_ok hv x.who x.run x0 x1 x2 (by omega) ho
  have HSH : Hid (shornS p x.who x.run = sheepS p x.who x.run) := shornS_eq hv x.who x.run x0 x1 x2 (by omega) ho
  have HFIN : Hid (muchB p x = decide ((sheepS p x.who x.run).hi * rate / 100 < x.pence)) := by show _ = _; rw [muchB, HSH.out, hrt]
  have hdw : d < w.heap.size := Nat.lt_of_lt_of_le hD.desk.hd hD.desk.hB
  have hd1 : d < w.heap.size + 1 := by omega
  have hn : n < pl := by have := (List.getElem?_eq_some_iff.1 hx).1; have := hD.desk.pay.epl; omega
  have mpl := hD.desk.pay.mpl
  have p6 := hD.desk.c6
  obtain ⟨b, off, rfl, hbl, H0, H1, H2⟩ := hD.desk.pay.hpaid n x hx
  have hbw : b < w.heap.size := Nat.lt_of_lt_of_le hbl hD.desk.hB
  have hbw1 : b < w.heap.size + 1 := by omega
  have hnl : (n : Int) < (pl : Int) := by omega
  obtain ⟨s, HSS⟩ : ∃ s, Hid (sheepS p x.who x.run = s) := ⟨_, rfl⟩
  rw [HSS.out] at HFIN hso
  obtain ⟨s0, s1, s2, s3⟩ : 0 ≤ s.lo ∧ s.lo ≤ 1000000 ∧ 0 ≤ s.hi ∧ s.hi ≤ 1000000 := by omega
  have hfd : ∀ (a b : Int) (w : World), (Instr.field 80 (.agg #[.int .i64 a, .int .i64 b]) 0).run Tryd.prog w = .ok (.agg #[.int .i64 a, .int .i64 b]) w := fun _ _ _ => by kernel_rfl
  have hfe := field34_1
  have hw3 : x.who ≤ 1000 := by omega
  have hrn : x.run < (rl : Int) := by omega
  clear hD hx H0 H1 hrt hrl hra ho hso ht hv e0 e1 e2 e3
  go_enter Tryd.func122, Tryd.ntmps122
  go_wp2
  refine wp_region_havoc [(0,false),(1,false),(2,false),(3,false),(4,false),(5,false),(6,false),(7,false),(8,false),(9,false),(10,false),(11,false),(12,false),(13,false),(14,false),(15,false),(16,false),(17,false),(18,false),(19,false)] [] (fun _ _ => False) (by kernel_rfl) (by kernel_rfl) (fun _ _ _ _ h => h.elim) ?_
  iterate 13 (apply hav_same (by simp only [List.getElem?_toArray, List.getElem?_cons_succ, List.getElem?_cons_zero]; rfl) (by kernel_rfl); (focus (intro wv hgv _; have hcv : ∀ b o, b < _ → wv.cell? ⟨b, o, none⟩ = _ := fun b o hb => Below.cell hgv (p := ⟨b, o, none⟩) hb; go_simp; try rfl; done)); simp only [Act.put, List.setIfInBounds_toArray, List.set_cons_succ, List.set_cons_zero])
  (apply hav_call (by simp only [List.getElem?_toArray, List.getElem?_cons_succ, List.getElem?_cons_zero]; rfl) (by kernel_rfl); (focus (intro wv; go_simp; try exact ⟨rfl, rfl⟩; done)); (focus (intro wv hgv _; exact of_any (p := p) n x HX.out _ (by exact (HD.out.grow (Below.trans (by repeat (first | exact Below.refl _ _ | assumption | refine Below.drew ?_ | refine below_drewN ?_ _ | refine Below.alloc ?_ (by (try simp) <;> omega) _ | refine Below.setCell ?_ (by (try simp) <;> omega) _ | refine Below.trans ?_ (Below.mono (by assumption) (by (try simp) <;> omega)))) (Below.mono hgv (by simp <;> omega)))).desk); done)); simp only [Act.put, List.setIfInBounds_toArray, List.set_cons_succ, List.set_cons_zero])
  (apply hav_call (by simp only [List.getElem?_toArray, List.getElem?_cons_succ, List.getElem?_cons_zero]; rfl) (by kernel_rfl); (focus (intro wv; go_simp; try exact ⟨rfl, rfl⟩; done)); (focus (intro wv hgv _; exact sheep_any (p := p) HV.out x.who x.run x0 hw3 x2 hrn _ (by exact HD.out.grow (Below.trans (by repeat (first | exact Below.refl _ _ | assumption | refine Below.drew ?_ | refine below_drewN ?_ _ | refine Below.alloc ?_ (by (try simp) <;> omega) _ | refine Below.setCell ?_ (by (try simp) <;> omega) _ | refine Below.trans ?_ (Below.mono (by assumption) (by (try simp) <;> omega)))) (Below.mono hgv (by simp <;> omega)))); done)); simp only [Act.put, List.setIfInBounds_toArray, List.set_cons_succ, List.set_cons_zero])
  rw [HSS.out]
  (apply hav_call (by simp only [List.getElem?_toArray, List.getElem?_cons_succ, List.getElem?_cons_zero]; rfl) (by kernel_rfl); (focus (intro wv; go_simp; try exact ⟨rfl, rfl⟩; done)); (focus (intro wv hgv _; exact wage_any (p := p) (d := d) s _ (by exact (HD.out.grow (Below.trans (by repeat (first | exact Below.refl _ _ | assumption | refine Below.drew ?_ | refine below_drewN ?_ _ | refine Below.alloc ?_ (by (try simp) <;> omega) _ | refine Below.setCell ?_ (by (try simp) <;> omega) _ | refine Below.trans ?_ (Below.mono (by assumption) (by (try simp) <;> omega)))) (Below.mono hgv (by simp <;> omega)))).desk) hr1 hr2 s0 s1 s2 s3; done)); simp only [Act.put, List.setIfInBounds_toArray, List.set_cons_succ, List.set_cons_zero])
  simp only [spV, wageS]
  iterate 4 (apply hav_same (by simp only [List.getElem?_toArray, List.getElem?_cons_succ, List.getElem?_cons_zero]; rfl) (by kernel_rfl); (focus (intro wv hgv _; have hcv : ∀ b o, b < _ → wv.cell? ⟨b, o, none⟩ = _ := fun b o hb => Below.cell hgv (p := ⟨b, o, none⟩) hb; go_simp; try rfl; done)); simp only [Act.put, List.setIfInBounds_toArray, List.set_cons_succ, List.set_cons_zero])
  refine hav_end (fun w1 hgw1 _ => ?_); simp only [List.filterMap]; have hcw1 : ∀ b o, b < _ → w1.cell? ⟨b, o, none⟩ = _ := fun b o hb => Below.cell hgw1 (p := ⟨b, o, none⟩) hb; have hfw1 : ∀ b o, b < _ → w1.frozen? ⟨b, o, none⟩ = _ := fun b o hb => Below.frozen hgw1 (p := ⟨b, o, none⟩) hb; have hzw1 := Below.size hgw1; (try simp at hzw1)
  go_wp2
  go_ret
  exact ⟨ret_bool HFIN.out.symm, ((Below.refl w.heap.size w).alloc (Nat.le_refl _) _).trans (hgw1.mono (by simp))⟩
end
end Go.Proofs.YtlcolpnniipgbaaDoor
