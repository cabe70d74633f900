/- The walk of heavy: it answers, whatever it answers. -/
import Derived.Test.YtlcolpnniipgbaaDoorLaw2
import Derived.Test.YtlcolpnniipgbaaDoorPlain1
namespace Go.Proofs.YtlcolpnniipgbaaDoor
open Go.RowKit Go.Hav
def bd : Nat → Int
  | 0 => 1
  | k + 1 => bd k * 101
theorem bd_le : ∀ k, k ≤ 4 → bd k ≤ 104060401
  | 0, _ => by decide
  | 1, _ => by decide
  | 2, _ => by decide
  | 3, _ => by decide
  | 4, _ => by decide
  | k + 5, h => by omega
theorem bd_step {x m : Int} {k : Nat} (h0 : 0 ≤ x) (h1 : x ≤ bd k) (m0 : 0 ≤ m) (m1 : m ≤ 101) : 0 ≤ x * m ∧ x * m ≤ bd (k + 1) := by
  refine ⟨Int.mul_nonneg h0 m0, ?_⟩
  rw [bd]
  exact Int.le_trans (Int.mul_le_mul_of_nonneg_right h1 m0) (Int.mul_le_mul_of_nonneg_left m1 (Int.le_trans h0 h1))
theorem bd_mono {x : Int} {k : Nat} (h0 : 0 ≤ x) (h1 : x ≤ bd k) : x ≤ bd (k + 1) := by rw [bd]; omega
section
variable {people rate bill : Int} {ra ca da pa : Option Addr} {rl rc cl cc dl dc pl pc : Nat} {p : PayD}
set_option maxRecDepth 100000 in
set_option maxHeartbeats 6400000 in
theorem heavy_any (most : Int) (w : World) (hP : PayIn w w.heap.size people ra rl ca cl rate bill da dl pa pl p) :
    Calls Tryd.prog 12 #[payV people ra rl rc ca cl cc rate bill da dl dc pa pl pc, .int .i64 most] w fun e w' => (∃ b, e = .returned (.bool b)) ∧ Below w.heap.size w w' := by
  have HP := Lib.hid hP
  have m1 := hP.mrl
  have m2 := hP.mcl
  have m3 := hP.mdl
  have m4 := hP.mpl
  clear hP
  unfold payV
  go_enter Tryd.func12, Tryd.ntmps12
  go_wp2_with fail
  obtain ⟨W, hW⟩ : ∃ W, W = w.alloc (.cells (payCs people ra rl rc ca cl cc rate bill da dl dc pa pl pc) 27) := ⟨_, rfl⟩
  have HBK : Hid (Blk W w.heap.size 27 (payCs people ra rl rc ca cl cc rate bill da dl dc pa pl pc)) := by show Blk _ _ _ _; rw [hW]; exact Blk.new _ _ _
  have HBW : Hid (Below w.heap.size w W) := by show Below _ _ _; rw [hW]; exact (Below.refl _ _).alloc (Nat.le_refl _) _
  have hs0 : w.heap.size < W.heap.size := HBK.out.lt
  have hW' := hW.symm
  unfold payCs at hW'
  rw [hW']
  clear hW hW'
  have facts : ∀ wv, Below W.heap.size W wv → wv.cell? ⟨w.heap.size, 0, none⟩ = some (.int .i64 people) ∧ wv.cell? ⟨w.heap.size, 1, none⟩ = some (.slice ra rl rc) ∧ wv.cell? ⟨w.heap.size, 2, none⟩ = some (.slice ca cl cc) ∧
      wv.cell? ⟨w.heap.size, 3, none⟩ = some (.int .i64 rate) ∧ wv.cell? ⟨w.heap.size, 4, none⟩ = some (.int .i64 bill) ∧ wv.cell? ⟨w.heap.size, 5, none⟩ = some (.slice da dl dc) ∧ wv.cell? ⟨w.heap.size, 6, none⟩ = some (.slice pa pl pc) ∧ w.heap.size < wv.heap.size := fun wv hb => by
    have h := HBK.out.below hb hs0
    exact ⟨h.cell 0, h.cell 1, h.cell 2, h.cell 3, h.cell 4, h.cell 5, h.cell 6, h.lt⟩
  have HF := Lib.hid facts
  clear facts
  refine (far_any _ m1 m2 m3 m4).mono ?_
  rintro e w1 ⟨⟨b, rfl, _⟩, hb1⟩
  obtain ⟨x0, x1, x2, x3, x4, x5, x6, x7⟩ := HF.out _ hb1
  have HB1 : Hid (Below W.heap.size W w1) := hb1
  clear hb1
  cases b
  case true =>
    go_wp2_with fail
    refine (far_any _ m1 m2 m3 m4).mono ?_
    rintro e w2 ⟨⟨b, rfl, _⟩, hb2⟩
    go_wp2
    go_ret
    exact ⟨⟨_, rfl⟩, HBW.out.trans ((HB1.out.trans (hb2.mono HB1.out.size)).mono (by omega))⟩
  case false =>
    go_wp2_with fail
    refine (Pay_any (p := p) _ (by exact HP.out.grow (HBW.out.trans (HB1.out.mono (by omega))))).mono ?_
    rintro e w2 ⟨rfl, hb2⟩
    have HB2 : Hid (Below W.heap.size W w2) := HB1.out.trans (hb2.mono HB1.out.size)
    clear hb2 x0 x1 x2 x3 x4 x5 x6 x7
    obtain ⟨x0, x1, x2, x3, x4, x5, x6, x7⟩ := HF.out _ HB2.out
    cases hv : payB p
    case false =>
      go_wp2_with fail
      refine (far_any _ m1 m2 m3 m4).mono ?_
      rintro e w3 ⟨⟨b, rfl, _⟩, hb3⟩
      go_wp2
      go_ret
      exact ⟨⟨_, rfl⟩, HBW.out.trans ((HB2.out.trans (hb3.mono HB2.out.size)).mono (by omega))⟩
    case true =>
      have HV := Lib.hid hv
      obtain ⟨⟨a1, a2, a3, a4, a5, _⟩, _⟩ := payB_parts HP.out hv
      clear hv
      go_wp2
      clear x0 x1 x2 x3 x4 x5 x6 x7
      go_loopw [5, 6, 7, 8, 9, 22] (fun _ _ _ _ _ i wr => ∃ r : Nat, i = .int .i64 r ∧ r ≤ rl ∧ Hid (Below W.heap.size W wr)) (fun _ _ _ _ _ i _ => rl - (intOf i).toNat)
      case atStart => exact ⟨0, rfl, Nat.zero_le _, HB2.out⟩
      case round =>
        obtain ⟨r, rfl, hr, HBR⟩ := hrel
        obtain ⟨x0, x1, x2, x3, x4, x5, x6, x7⟩ := HF.out _ HBR.out
        by_cases hlt : r < rl
        · go_wp2
          clear x0 x1 x2 x3 x4 x5 x6 x7
          go_loopw [6, 7, 8, 9, 27] (fun n _ _ _ i wq => ∃ (k : Nat) (x : Int), i = .int .i64 k ∧ (k : Int) ≤ people ∧ n = .int .i64 x ∧ 0 ≤ x ∧ Hid (x ≤ bd k) ∧ Hid (Below W.heap.size W wq)) (fun _ _ _ _ i _ => people.toNat - (intOf i).toNat)
          case atStart => exact ⟨0, 1, rfl, by omega, rfl, by omega, Int.le_refl _, HBR.out⟩
          case round =>
            obtain ⟨k, x, rfl, hk, rfl, hx0, HX, HBQ⟩ := hrel
            obtain ⟨x0, x1, x2, x3, x4, x5, x6, x7⟩ := HF.out _ HBQ.out
            have hxm : x ≤ 104060401 := Int.le_trans HX.out (bd_le k (by omega))
            by_cases hkl : (k : Int) < people
            · go_wp2_with fail
              refine (RStands_any (p := p) k r _ (by exact HP.out.grow (HBW.out.trans (HBQ.out.mono (by omega))))).mono ?_
              have he : checkE p (whoB p k && runB p r) false = 0 := by
                have h1 := HP.out.epeople
                have h2 := HP.out.erl
                rw [checkE_fine HV.out]
                · simp
                · simp only [whoB, runB, Bool.and_eq_true, inB_iff]; omega
              rw [standsR, if_pos he]
              clear he
              by_cases hs : standsI p k r < 0
              · rw [if_pos hs]
                rintro e w4 ⟨rfl, hb4⟩
                have HB4 : Hid (Below W.heap.size W w4) := HBQ.out.trans (hb4.mono HBQ.out.size)
                clear hb4 hs
                go_wp2
                go_roundw
                case rel => exact ⟨k + 1, x, by go_num, by omega, rfl, hx0, bd_mono hx0 HX.out, HB4.out⟩
                case measure => simp [intOf]; omega
              · rw [if_neg hs]
                obtain ⟨hs1, hs2, hs3⟩ := standsF_lt p.calls k r p.calls.length
                change standsI p k r < _ at hs2
                change 0 ≤ standsI p k r → ∃ c, p.calls[(standsI p k r).toNat]? = some c ∧ _ at hs3
                obtain ⟨c, hc, _⟩ := hs3 (by omega)
                obtain ⟨i, hi⟩ : ∃ i : Nat, standsI p k r = i := ⟨(standsI p k r).toNat, by omega⟩
                have hil : (i : Int) < (cl : Int) := by have := HP.out.ecl; omega
                rw [hi] at hc ⊢
                rw [Int.toNat_natCast] at hc
                have hcb : 0 ≤ c.sh.lo ∧ c.sh.lo ≤ c.sh.hi ∧ c.sh.hi ≤ 100 := by
                  have h := HV.out
                  simp only [payB, Bool.and_eq_true, List.all_eq_true] at h
                  have h2 := h.1.1.2 c (List.mem_of_getElem? hc)
                  simp only [callB, Bool.and_eq_true, spanB_iff] at h2
                  exact h2.2
                rintro e w4 ⟨rfl, hb4⟩
                have HB4 : Hid (Below W.heap.size W w4) := HBQ.out.trans (hb4.mono HBQ.out.size)
                clear hb4 hs hs1 hs2 hs3 hi x0 x1 x2 x3 x4 x5 x6 x7
                obtain ⟨x0, x1, x2, x3, x4, x5, x6, x7⟩ := HF.out _ HB4.out
                obtain ⟨b, off, rfl, hbl, H0, H1, H2, H3, H4⟩ := (HP.out.grow (HBW.out.trans (HB4.out.mono (by omega)))).hcalls i c hc
                obtain ⟨cw, cr, ⟨clo, chi⟩, cst⟩ := c
                simp only at hcb H2 H3
                obtain ⟨c0, c1, c2⟩ := hcb
                have hm := bd_step (m := chi - clo + 1) hx0 HX.out (by omega) (by omega)
                have hmm : 0 ≤ x * (chi - clo + 1) ∧ x * (chi - clo + 1) ≤ 10510100501 := by
                  refine ⟨hm.1, Int.le_trans (Int.mul_le_mul_of_nonneg_right hxm (by omega)) (by omega)⟩
                have HM := Lib.hid hm
                obtain ⟨hmm0, hmm1⟩ := hmm
                clear hc hm H0 H1 H4
                go_wp2
                refine wp_region_havoc [(0,false),(1,false),(2,false),(3,false),(4,false),(5,false),(6,false),(7,false),(8,false),(9,false),(10,false),(11,false),(12,false),(13,false),(14,false),(15,false),(16,false),(17,false),(18,false)] [] (fun _ _ => False) (by kernel_rfl) (by kernel_rfl) (fun _ _ _ _ h => h.elim) ?_
                iterate 19 (apply hav_same (by simp only [List.getElem?_toArray, List.getElem?_cons_succ, List.getElem?_cons_zero]; rfl) (by kernel_rfl); (focus (intro wv hgv _; have hcv : ∀ b o, b < _ → wv.cell? ⟨b, o, none⟩ = _ := fun b o hb => Below.cell hgv (p := ⟨b, o, none⟩) hb; go_simp; try rfl; done)); simp only [Act.put, List.setIfInBounds_toArray, List.set_cons_succ, List.set_cons_zero])
                refine hav_end (fun w5 hgw5 _ => ?_); simp only [List.filterMap]; have hcw5 : ∀ b o, b < _ → w5.cell? ⟨b, o, none⟩ = _ := fun b o hb => Below.cell hgw5 (p := ⟨b, o, none⟩) hb; have hfw5 : ∀ b o, b < _ → w5.frozen? ⟨b, o, none⟩ = _ := fun b o hb => Below.frozen hgw5 (p := ⟨b, o, none⟩) hb; have hzw5 := Below.size hgw5; (try simp at hzw5)
                have HB5 : Hid (Below W.heap.size W w5) := HB4.out.trans (hgw5.mono HB4.out.size)
                clear hgw5 hcw5 hfw5
                go_wp2
                go_roundw
                case rel => exact ⟨k + 1, x * (chi - clo + 1), by go_num, by omega, by rw [IntWalk.i64_in (chi - clo) (by omega), IntWalk.i64_in (chi - clo + 1) (by omega), IntWalk.i64_in _ (by omega)], HM.out.1, HM.out.2, HB5.out⟩
                case measure => simp [intOf]; omega
            · have hke : ¬ (k : Int) < people := hkl
              obtain ⟨R, hR⟩ : ∃ R, p.runs[r]? = some R := ⟨p.runs[r]'(by have := HP.out.erl; omega), by simp⟩
              have hRb := payB_run HV.out hR
              obtain ⟨b, off, rfl, hbl, H0, H1⟩ := (HP.out.grow (HBW.out.trans (HBQ.out.mono (by omega)))).hruns r R hR
              obtain ⟨R0, R1⟩ := R
              simp only at H0 H1 hRb
              obtain ⟨R2, R3, R4⟩ := hRb
              have hrl : (r : Int) < (rl : Int) := by omega
              clear hR
              by_cases hmost : most < x
              · have hmd : decide (x > most) = true := by simp; omega
                go_wp2
                refine wp_region_havoc [(0,false),(1,false),(2,false),(3,false),(4,false),(5,false),(6,false),(7,false),(8,false),(9,false),(10,false),(11,false),(12,false),(13,false),(14,false),(15,false),(16,false),(17,false),(18,false)] [] (fun _ _ => False) (by kernel_rfl) (by kernel_rfl) (fun _ _ _ _ h => h.elim) ?_
                iterate 4 (apply hav_same (by simp only [List.getElem?_toArray, List.getElem?_cons_succ, List.getElem?_cons_zero]; rfl) (by kernel_rfl); (focus (intro wv hgv _; have hcv : ∀ b o, b < _ → wv.cell? ⟨b, o, none⟩ = _ := fun b o hb => Below.cell hgv (p := ⟨b, o, none⟩) hb; go_simp; try rfl; done)); simp only [Act.put, List.setIfInBounds_toArray, List.set_cons_succ, List.set_cons_zero])
                iterate 14 (refine hav_skip (by simp only [List.getElem?_toArray, List.getElem?_cons_succ, List.getElem?_cons_zero]; rfl) (by kernel_rfl) ?_; simp only [Act.put, List.setIfInBounds_toArray, List.set_cons_succ, List.set_cons_zero])
                (apply hav_same (by simp only [List.getElem?_toArray, List.getElem?_cons_succ, List.getElem?_cons_zero]; rfl) (by kernel_rfl); (focus (intro wv hgv _; have hcv : ∀ b o, b < _ → wv.cell? ⟨b, o, none⟩ = _ := fun b o hb => Below.cell hgv (p := ⟨b, o, none⟩) hb; go_simp; try rfl; done)); simp only [Act.put, List.setIfInBounds_toArray, List.set_cons_succ, List.set_cons_zero])
                refine hav_end (fun w5 hgw5 _ => ?_); simp only [List.filterMap]; have hcw5 : ∀ b o, b < _ → w5.cell? ⟨b, o, none⟩ = _ := fun b o hb => Below.cell hgw5 (p := ⟨b, o, none⟩) hb; have hfw5 : ∀ b o, b < _ → w5.frozen? ⟨b, o, none⟩ = _ := fun b o hb => Below.frozen hgw5 (p := ⟨b, o, none⟩) hb; have hzw5 := Below.size hgw5; (try simp at hzw5)
                have HB5 : Hid (Below W.heap.size W w5) := HBQ.out.trans (hgw5.mono HBQ.out.size)
                clear hgw5 hcw5 hfw5
                go_wp2
                go_ret
                exact ⟨⟨_, rfl⟩, HBW.out.trans (HB5.out.mono (by omega))⟩
              · have hmd : decide (x > most) = false := by simp; omega
                have hwr : IntKind.i64.wrap (R1 - R0) = R1 - R0 := IntWalk.i64_in _ (by omega)
                by_cases hw : R1 - R0 > 60
                · have hbb : decide (R1 - R0 > 60) = true := by simp; omega
                  go_wp2
                  refine wp_region_havoc [(0,false),(1,false),(2,false),(3,false),(4,false),(5,false),(6,false),(7,false),(8,false),(9,false),(10,false),(11,false),(12,false),(13,false),(14,false),(15,false),(16,false),(17,false),(18,false)] [] (fun _ _ => False) (by kernel_rfl) (by kernel_rfl) (fun _ _ _ _ h => h.elim) ?_
                  iterate 19 (apply hav_same (by simp only [List.getElem?_toArray, List.getElem?_cons_succ, List.getElem?_cons_zero]; rfl) (by kernel_rfl); (focus (intro wv hgv _; have hcv : ∀ b o, b < _ → wv.cell? ⟨b, o, none⟩ = _ := fun b o hb => Below.cell hgv (p := ⟨b, o, none⟩) hb; go_simp; try rfl; done)); simp only [Act.put, List.setIfInBounds_toArray, List.set_cons_succ, List.set_cons_zero])
                  refine hav_end (fun w5 hgw5 _ => ?_); simp only [List.filterMap]; have hcw5 : ∀ b o, b < _ → w5.cell? ⟨b, o, none⟩ = _ := fun b o hb => Below.cell hgw5 (p := ⟨b, o, none⟩) hb; have hfw5 : ∀ b o, b < _ → w5.frozen? ⟨b, o, none⟩ = _ := fun b o hb => Below.frozen hgw5 (p := ⟨b, o, none⟩) hb; have hzw5 := Below.size hgw5; (try simp at hzw5)
                  have HB5 : Hid (Below W.heap.size W w5) := HBQ.out.trans (hgw5.mono HBQ.out.size)
                  clear hgw5 hcw5 hfw5
                  go_wp2
                  go_ret
                  exact ⟨⟨_, rfl⟩, HBW.out.trans (HB5.out.mono (by omega))⟩
                · have hbb : decide (R1 - R0 > 60) = false := by simp; omega
                  go_wp2
                  refine wp_region_havoc [(0,false),(1,false),(2,false),(3,false),(4,false),(5,false),(6,false),(7,false),(8,false),(9,false),(10,false),(11,false),(12,false),(13,false),(14,false),(15,false),(16,false),(17,false),(18,false)] [] (fun _ _ => False) (by kernel_rfl) (by kernel_rfl) (fun _ _ _ _ h => h.elim) ?_
                  iterate 19 (apply hav_same (by simp only [List.getElem?_toArray, List.getElem?_cons_succ, List.getElem?_cons_zero]; rfl) (by kernel_rfl); (focus (intro wv hgv _; have hcv : ∀ b o, b < _ → wv.cell? ⟨b, o, none⟩ = _ := fun b o hb => Below.cell hgv (p := ⟨b, o, none⟩) hb; go_simp; try rfl; done)); simp only [Act.put, List.setIfInBounds_toArray, List.set_cons_succ, List.set_cons_zero])
                  refine hav_end (fun w5 hgw5 _ => ?_); simp only [List.filterMap]; have hcw5 : ∀ b o, b < _ → w5.cell? ⟨b, o, none⟩ = _ := fun b o hb => Below.cell hgw5 (p := ⟨b, o, none⟩) hb; have hfw5 : ∀ b o, b < _ → w5.frozen? ⟨b, o, none⟩ = _ := fun b o hb => Below.frozen hgw5 (p := ⟨b, o, none⟩) hb; have hzw5 := Below.size hgw5; (try simp at hzw5)
                  have HB5 : Hid (Below W.heap.size W w5) := HBQ.out.trans (hgw5.mono HBQ.out.size)
                  clear hgw5 hcw5 hfw5
                  go_wp2
                  go_roundw
                  case rel => exact ⟨r + 1, by go_num, by omega, HB5.out⟩
                  case measure => simp [intOf]; omega
        · obtain rfl : rl = r := by omega
          go_wp2
          go_ret
          exact ⟨⟨_, rfl⟩, HBW.out.trans (HBR.out.mono (by omega))⟩
end
end Go.Proofs.YtlcolpnniipgbaaDoor
