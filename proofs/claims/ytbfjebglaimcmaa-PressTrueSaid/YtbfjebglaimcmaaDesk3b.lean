/- The walk of wrong; conditions: the shed is read, its press is valid. -/
import Derived.Test.YtbfjebglaimcmaaDesk3
import Derived.Test.YtbfjebglaimcmaaConv
namespace Go.Proofs.Ytbfjebglaimcmaa
open Go.RowKit Go.Hav
section
variable {B d : Nat} {low top bales : Int} {fa wa : Option Addr} {fl fc wl wc : Nat} {p : PressD}
theorem or_pow (p : PressD) (k : Nat) (hk : k < 4) (h : p.wrongB k = true) : bits BinOp.or IntKind.i64 (p.wrongF k : Int) (2 ^ k) = (p.wrongF (k + 1) : Int) := by
  have h1 := PressD.wrongF_lt p k
  have h2 := Nat.pow_le_pow_right (n := 2) (by omega) (show k ≤ 4 by omega)
  rw [PressD.wrongF, if_pos h, ← pow_cast, or_i64 _ _ (by omega) (by omega)]
set_option maxRecDepth 100000 in
set_option maxHeartbeats 6400000 in
theorem wrong_any (hv : p.ok = true) (w : World) (hD : ShedIn w B d fa fl fc low top bales wa wl wc p) :
    Calls Try.prog 70 #[(.pointer (some ⟨d, 0, none⟩))] w fun e w' => e = .returned (.int .i64 (p.wrong : Nat)) ∧ Below w.heap.size w w' := by
  have HD := Lib.hid hD
  have HV := Lib.hid hv
  have HN := Lib.hid (PressD.n_pow hv)
  have p0 := hD.c4
  have hdw : d < w.heap.size := Nat.lt_of_lt_of_le hD.hd hD.hB
  have hn := (PressD.ok_head hv).2.2.2.2.2.2
  have hwl : wl ≤ 4 := by have := hD.rd.ewl; omega
  have HW := Lib.hid hD.rd.ewl
  clear hv hD hn
  go_enter Try.func70, Try.ntmps70
  go_wp2
  go_loopw [2, 12] (fun r i wr => ∃ k : Nat, k ≤ wl ∧ i = .int .i64 k ∧ r = .int .i64 (p.wrongF k : Nat) ∧ Below w.heap.size w wr) (fun _ i _ => wl - (intOf i).toNat)
  case atStart => exact ⟨0, Nat.zero_le _, rfl, rfl, Below.refl _ _⟩
  case round =>
    obtain ⟨k, hk, rfl, rfl, hbw⟩ := hrel
    have HB := Lib.hid hbw
    have hsz := hbw.size
    clear hbw
    by_cases hlt : k < wl
    · obtain ⟨c, hc⟩ : ∃ c, p.weighed[k]? = some c := ⟨p.weighed[k]'(by have := HW.out; omega), by simp⟩
      have hkl : k < p.weighed.length := by have := HW.out; omega
      have hok := PressD.ok_ba HV.out hkl
      rw [ba_of hc] at hok
      obtain ⟨q0, q1, q2, q3, q4, q5, q6⟩ := hok
      have hN := HN.out
      have HWB : Hid (p.wrongB k = decide ((knownS (p.bare (p.bs k)) ⟨0, 0⟩ c.w).hi < (knownS (p.bare (p.bs k)) ⟨0, 0⟩ c.w).lo)) := by show _ = _; rw [PressD.wrongB, ba_of hc]
      obtain ⟨S, HS⟩ : ∃ S, Hid (p.bs k = S) := ⟨_, rfl⟩
      rw [HS.out] at q0 q1 q2 HWB
      have HS1 : Hid (S < 1024) := by show S < 1024; omega
      obtain ⟨b, off, rfl, hbl, H0, H1, H2⟩ := rd_ba ((HD.out.grow HB.out).rd.hwl) k c hc
      have hbw : b < wr.heap.size := Nat.lt_of_lt_of_le hbl (HD.out.grow HB.out).hB
      obtain ⟨cs, ⟨c0, c1⟩⟩ := c
      simp only at H0 H1 H2 HWB q0 q4 q5 q6
      subst q0
      have hS0 : (0 : Int) ≤ S := by omega
      have hS9 : (S : Int) ≤ 1024 := by omega
      have HCW : Hid (midS 1000000000 ⟨c0, c1⟩) := by show midS _ _; unfold midS; simp only; omega
      have HM0 : Hid (midS 1000000000 ⟨0, 0⟩) := by show midS _ _; unfold midS; simp
      have hdr : d < wr.heap.size := by have := (HD.out.grow HB.out); exact Nat.lt_of_lt_of_le this.hd this.hB
      have hp0 : (0 : Int) ≤ 2 ^ k := Int.pow_nonneg (by omega)
      have hp1 : (2 : Int) ^ k ≤ 16 := by
        have := Nat.pow_le_pow_right (n := 2) (by omega) (show k ≤ 4 by omega)
        have h2 : ((2 ^ k : Nat) : Int) ≤ ((2 ^ 4 : Nat) : Int) := by exact_mod_cast this
        simpa using h2
      have HOR : Hid (p.wrongB k = true → bits BinOp.or IntKind.i64 (p.wrongF k : Int) (2 ^ k) = (p.wrongF (k + 1) : Int)) := or_pow p k (by omega)
      have HNO : Hid (p.wrongB k = false → p.wrongF (k + 1) = p.wrongF k) := fun h => by rw [PressD.wrongF, if_neg (by rw [h]; simp)]
      clear hc hkl hN
      go_wp2_with fail
      refine wp_region_havoc [(0,false),(1,false),(2,false),(3,false),(4,false),(5,false),(6,false),(7,false),(8,false),(9,true)] [10] (fun _ _ => False) (by kernel_rfl) (by kernel_rfl) (fun _ _ _ _ h => h.elim) ?_
      iterate 3 (apply hav_same (by simp only [List.getElem?_toArray, List.getElem?_cons_succ, List.getElem?_cons_zero]; rfl) (by kernel_rfl); (focus (intro wv hgv _; have hcv : ∀ b o, b < _ → wv.cell? ⟨b, o, none⟩ = _ := fun b o hb => Below.cell hgv (p := ⟨b, o, none⟩) hb; (try go_simp); try rfl; done)); simp only [Act.put, List.setIfInBounds_toArray, List.set_cons_succ, List.set_cons_zero])
      (apply hav_same (by simp only [List.getElem?_toArray, List.getElem?_cons_succ, List.getElem?_cons_zero]; rfl) (by kernel_rfl); (focus (intro wv hgv _; exact convU rfl rfl hS0 (by omega) _)); simp only [Act.put, List.setIfInBounds_toArray, List.set_cons_succ, List.set_cons_zero])
      (apply hav_call (by simp only [List.getElem?_toArray, List.getElem?_cons_succ, List.getElem?_cons_zero]; rfl) (by kernel_rfl); (focus (intro wv; go_simp; try exact ⟨rfl, rfl⟩; done)); (focus (intro wv hgv _; exact bare_any HV.out S HS1.out _ (by exact HD.out.grow (HB.out.trans (((Below.refl wr.heap.size wr).alloc (Nat.le_refl _) _).trans (Below.mono hgv (by simp)) |>.mono (by omega)))); done)); simp only [Act.put, List.setIfInBounds_toArray, List.set_cons_succ, List.set_cons_zero])
      iterate 3 (apply hav_same (by simp only [List.getElem?_toArray, List.getElem?_cons_succ, List.getElem?_cons_zero]; rfl) (by kernel_rfl); (focus (intro wv hgv _; have hcv : ∀ b o, b < _ → wv.cell? ⟨b, o, none⟩ = _ := fun b o hb => Below.cell hgv (p := ⟨b, o, none⟩) hb; (try go_simp); try rfl; done)); simp only [Act.put, List.setIfInBounds_toArray, List.set_cons_succ, List.set_cons_zero])
      (apply hav_call (by simp only [List.getElem?_toArray, List.getElem?_cons_succ, List.getElem?_cons_zero]; rfl) (by kernel_rfl); (focus (intro wv; go_simp; try exact ⟨rfl, rfl⟩; done)); (focus (intro wv hgv _; exact known_any (p.bare S) ⟨0, 0⟩ ⟨c0, c1⟩ HM0.out HCW.out _; done)); simp only [Act.put, List.setIfInBounds_toArray, List.set_cons_succ, List.set_cons_zero])
      obtain ⟨K, HKK⟩ : ∃ K, Hid (knownS (p.bare S) ⟨0, 0⟩ ⟨c0, c1⟩ = K) := ⟨_, rfl⟩
      rw [HKK.out] at HWB ⊢
      unfold spV
      (apply hav_new (fun g => .pointer (some ⟨g, 0, none⟩)) (.cells #[.int .i64 0, .int .i64 0] 87) (by simp only [List.getElem?_toArray, List.getElem?_cons_succ, List.getElem?_cons_zero]; rfl) (by kernel_rfl); (focus (intro wv hgv _; have hcv : ∀ b o, b < _ → wv.cell? ⟨b, o, none⟩ = _ := fun b o hb => Below.cell hgv (p := ⟨b, o, none⟩) hb; (try go_simp); try rfl; done)); intro v; simp only [Act.put, List.setIfInBounds_toArray, List.set_cons_succ, List.set_cons_zero])
      refine hav_end (fun w1 hgw1 hF => ?_); simp only [List.filterMap]; have hcw1 : ∀ b o, b < _ → w1.cell? ⟨b, o, none⟩ = _ := fun b o hb => Below.cell hgw1 (p := ⟨b, o, none⟩) hb; have hfw1 : ∀ b o, b < _ → w1.frozen? ⟨b, o, none⟩ = _ := fun b o hb => Below.frozen hgw1 (p := ⟨b, o, none⟩) hb; have hzw1 := Below.size hgw1; (try simp at hzw1)
      obtain ⟨_, g, rfl, hg, hgb⟩ := hF
      have HGB : Hid (Blk w1 g 87 #[.int .i64 0, .int .i64 0]) := hgb
      have HG1 : Hid (Below wr.heap.size wr w1) := ((Below.refl wr.heap.size wr).alloc (Nat.le_refl _) _).trans (hgw1.mono (by simp))
      have hg2 : wr.heap.size ≤ g := by simp at hg; omega
      have r0 : w1.cell? ⟨g, 0, none⟩ = some (.int .i64 0) := HGB.out.cell 0
      have r1 : w1.cell? ⟨g, 1, none⟩ = some (.int .i64 0) := HGB.out.cell 1
      have f0 : w1.frozen? ⟨g, 0, none⟩ = false := HGB.out.frozen 0
      have f1 : w1.frozen? ⟨g, 1, none⟩ = false := HGB.out.frozen 1
      clear hgb hgw1 hcw1 hfw1 hg
      have HBE : Hid (Below w.heap.size w ((w1.setCell ⟨g, 0, none⟩ (.int .i64 K.lo)).setCell ⟨g, 1, none⟩ (.int .i64 K.hi))) :=
        setCell_below (setCell_below (HB.out.trans (HG1.out.mono (by have := HB.out.size; omega))) (by have := HB.out.size; omega) _ _) (by have := HB.out.size; omega) _ _
      cases hgt : decide (K.hi < K.lo)
      · rw [hgt] at HWB
        have HN2 := Lib.hid (HNO.out HWB.out)
        have hgt' : ¬ K.hi < K.lo := by simpa using hgt
        go_wp2
        go_roundw
        case rel => exact ⟨k + 1, by omega, by go_num, by rw [HN2.out], HBE.out⟩
        case measure => simp [intOf]; omega
      · rw [hgt] at HWB
        have hor := HOR.out HWB.out
        have hgt' : K.hi < K.lo := by simpa using hgt
        go_wp2
        go_roundw
        case rel => exact ⟨k + 1, by omega, by go_num, rfl, HBE.out⟩
        case measure => simp [intOf]; omega
    · obtain rfl : wl = k := by omega
      go_wp2
      go_ret
      exact ⟨ret_int (by rw [PressD.wrong, HW.out]), HB.out⟩
end
end Go.Proofs.Ytbfjebglaimcmaa
