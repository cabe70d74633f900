/- The walk of the reference's right: are the looks of a set right? Conditions: the river is valid; the truth's numbers are small. -/
import Derived.Test.YtiodmkokpfgkkaaRefD
namespace Go.Proofs.Ytiodmkokpfgkkaa
open Go.RowKit Go.Hav Go.Shelf Go.Sq
attribute [local go_sem] Oper.semAt_some
theorem rightN_no {r : Riv} {set : Nat} {t : Tr} {k : Nat} (h : okP r set t k = false) (hk : k < r.lk.length) : rightP r set t = false := by
  cases hr : rightP r set t
  · rfl
  · have := (rightN_iff _).1 hr k hk
    rw [h] at this; cases this
section
variable {fa la dA rA : Option Addr} {fl fc ll lc n dc rc : Nat} {r : IRiv} {t : Tr}
set_option maxRecDepth 100000 in
set_option maxHeartbeats 1600000 in
theorem right_any (hv : okR r = true) (ht : t.Small n) {s : Nat} (hs : s < 32) (w : World) (hP : RvIn w w.heap.size fa fl la ll r) (hT : TrIn w t dA rA) :
    Calls Try.prog 112 #[(.agg #[.int .i64 r.depth.lo, .int .i64 r.depth.hi, .int .i64 r.fall.lo, .int .i64 r.fall.hi, .int .i64 r.days, .slice fa fl fc, .slice la ll lc]), .agg #[.int .i64 t.d, .int .i64 t.by_, .slice dA n dc, .slice rA n rc], .int .i64 s] w fun e w' => e = .returned (.bool (rightP r.nat s t)) ∧ Below w.heap.size w w' := by
  have HP := Lib.hid hP
  have HT := Lib.hid hT
  have HS := Lib.hid ht
  have HEL := Lib.hid hP.ell
  have HV := Lib.hid hv
  have hll : ll ≤ 5 := by have := (okR_parts hv).1.2.2.2.2; have := HEL.out; omega
  obtain ⟨W, hW⟩ : ∃ W, W = (w.alloc (.cells #[.int .i64 r.depth.lo, .int .i64 r.depth.hi, .int .i64 r.fall.lo, .int .i64 r.fall.hi, .int .i64 r.days, .slice fa fl fc, .slice la ll lc] 27)).alloc (.cells #[.int .i64 t.d, .int .i64 t.by_, .slice dA n dc, .slice rA n rc] 86) := ⟨_, rfl⟩
  have HX : Hid (Blk W w.heap.size 27 #[.int .i64 r.depth.lo, .int .i64 r.depth.hi, .int .i64 r.fall.lo, .int .i64 r.fall.hi, .int .i64 r.days, .slice fa fl fc, .slice la ll lc]) := by rw [hW]; exact (Blk.new w 27 _).alloc _
  have HX4 : Hid (Blk W (w.heap.size + 1) 86 #[.int .i64 t.d, .int .i64 t.by_, .slice dA n dc, .slice rA n rc]) := by rw [hW]; exact Blk.new_ (by simp) 86 _
  have HBW : Hid (Below w.heap.size w W) := by rw [hW]; exact ((Below.refl _ _).alloc (Nat.le_refl _) _).alloc (by simp) _
  clear hP hT ht hv
  go_enter Try.func112, Try.ntmps112
  go_wp2_with fail
  rw [← hW]
  clear hW
  go_wp2
  go_loopw [7] (fun i wr => ∃ (k : Nat), k ≤ ll ∧ i = .int .i64 k ∧ Hid (rightN r.nat s t k = true) ∧ Hid (Below W.heap.size W wr)) (fun i _ => ll - (intOf i).toNat)
  case atStart => exact ⟨0, Nat.zero_le _, rfl, rfl, Below.refl _ _⟩
  case round =>
    obtain ⟨k, hk, rfl, HR, HBX⟩ := hrel
    have HKR : Hid (Blk wr w.heap.size 27 #[.int .i64 r.depth.lo, .int .i64 r.depth.hi, .int .i64 r.fall.lo, .int .i64 r.fall.hi, .int .i64 r.days, .slice fa fl fc, .slice la ll lc]) := HX.out.below HBX.out HX.out.lt
    have HTR : Hid (Blk wr (w.heap.size + 1) 86 #[.int .i64 t.d, .int .i64 t.by_, .slice dA n dc, .slice rA n rc]) := HX4.out.below HBX.out HX4.out.lt
    have hsz : w.heap.size < wr.heap.size := HKR.out.lt
    have hsz4 : w.heap.size + 1 < wr.heap.size := HTR.out.lt
    have xb0 : wr.cell? ⟨w.heap.size, 0, none⟩ = some (.int .i64 r.depth.lo) := HKR.out.cell 0
    have xb1 : wr.cell? ⟨w.heap.size, 1, none⟩ = some (.int .i64 r.depth.hi) := HKR.out.cell 1
    have xb2 : wr.cell? ⟨w.heap.size, 2, none⟩ = some (.int .i64 r.fall.lo) := HKR.out.cell 2
    have xb3 : wr.cell? ⟨w.heap.size, 3, none⟩ = some (.int .i64 r.fall.hi) := HKR.out.cell 3
    have xb4 : wr.cell? ⟨w.heap.size, 4, none⟩ = some (.int .i64 r.days) := HKR.out.cell 4
    have xb5 : wr.cell? ⟨w.heap.size, 5, none⟩ = some (.slice fa fl fc) := HKR.out.cell 5
    have xb6 : wr.cell? ⟨w.heap.size, 6, none⟩ = some (.slice la ll lc) := HKR.out.cell 6
    have HBR : Hid (Below w.heap.size w wr) := HBW.out.trans (HBX.out.mono HBW.out.size)
    by_cases hlt : k < ll
    · obtain ⟨c, hc⟩ : ∃ c, r.lk[k]? = some c := ⟨r.lk[k]'(by have := HEL.out; omega), by simp⟩
      obtain ⟨b, off, hA, hbl, H0, H1, H2⟩ := rd_lkI ((HP.out.grow HBR.out).hlk) k c hc
      subst hA
      have hlk := List.all_eq_true.1 (okR_parts HV.out).2.2 c (List.mem_of_getElem? hc)
      unfold lkB at hlk
      rw [Bool.and_eq_true] at hlk
      obtain ⟨g1, g2⟩ := hlk
      have g1 := inB_iff.1 g1
      obtain ⟨g3, g4, g5, _⟩ := spB_iff.1 g2
      have gd := inB_iff.1 (okR_parts HV.out).1.2.2.1
      have hcn : r.nat.lk[k]? = some c.nat := by show (r.lk.map (·.nat))[k]? = _; rw [List.getElem?_map, hc]; rfl
      have HOK : Hid (okP r.nat s t k = !(s.testBit k && !inB (t.at_ c.day.toNat) c.dep.lo c.dep.hi)) := by
        show _ = _
        unfold okP
        rw [hcn]
        show (!(s.testBit k && !inB (t.at_ c.day.toNat) ((c.dep.lo.toNat : Nat) : Int) ((c.dep.hi.toNat : Nat) : Int))) = _
        rw [show ((c.dep.lo.toNat : Nat) : Int) = c.dep.lo by omega, show ((c.dep.hi.toNat : Nat) : Int) = c.dep.hi by omega]
      have HKL : Hid (k < r.nat.lk.length) := (List.getElem?_eq_some_iff.1 hcn).1
      obtain ⟨cd, ⟨c0, c1⟩⟩ := c
      simp only at H0 H1 H2 HOK g1 g3 g4 g5
      obtain ⟨d, hd⟩ : ∃ d : Nat, cd = d := ⟨cd.toNat, by omega⟩
      subst hd
      rw [Int.toNat_natCast] at HOK
      have hd10 : d ≤ 10 := by omega
      clear hc hcn g1 g2 g3 g4 g5 gd
      have HH : Hid (∀ wv : World, Calls Try.prog 67 #[.int .i64 s, .int .i64 k] wv fun e w' => e = .returned (.bool (s.testBit k)) ∧ Below wv.heap.size wv w') := fun wv => (rhas_any s k (by omega) (by omega) wv).mono (by rintro e w' ⟨rfl, rfl⟩; exact ⟨rfl, Below.refl _ _⟩)
      go_upto_region 5 with (fail)
      obtain ⟨W7, hW7⟩ : ∃ W7, W7 = wr.alloc (.cells #[.int .i64 d, .int .i64 c0, .int .i64 c1] 58) := ⟨_, rfl⟩
      have HX7 : Hid (Blk W7 wr.heap.size 58 #[.int .i64 d, .int .i64 c0, .int .i64 c1]) := by rw [hW7]; exact Blk.new wr 58 _
      have HB7 : Hid (Below wr.heap.size wr W7) := by rw [hW7]; exact (Below.refl _ _).alloc (Nat.le_refl _) _
      rw [← hW7]
      have y0 := HX7.out.cell 0
      have y1 := HX7.out.cell 1
      have y2 := HX7.out.cell 2
      have yl := HX7.out.lt
      simp at y0 y1 y2
      have HT7 := HTR.out.below HB7.out hsz4
      have z0 := HT7.cell 0
      have z1 := HT7.cell 1
      have z2 := HT7.cell 2
      have z3 := HT7.cell 3
      have zl := HT7.lt
      simp at z0 z1 z2 z3
      have HB7W : Hid (Below w.heap.size w W7) := HBR.out.trans (HB7.out.mono (by omega))
      clear hW7 H0 H1 H2 HT7
      cases hbit : s.testBit k
      · have HN : Hid (rightN r.nat s t (k + 1) = true) := by show _ = _; rw [rightN, HR.out, HOK.out, hbit]; rfl
        rw [hbit] at HH
        clear hbit
        refine wp_region_havoc [(0,false),(1,false),(2,false),(3,false),(4,false),(5,false),(6,false),(7,false),(8,false),(9,false),(10,false),(11,false),(12,false),(13,false),(14,false),(15,false),(16,false)] [] (fun _ _ => False) (by kernel_rfl) (by kernel_rfl) (fun _ _ _ _ h => h.elim) ?_
        (apply hav_same (by simp only [List.getElem?_toArray, List.getElem?_cons_zero]; rfl) (by kernel_rfl); (focus (intro wv hgv _; have hcv : ∀ b o, b < _ → wv.cell? ⟨b, o, none⟩ = _ := fun b o hb => Below.cell hgv (p := ⟨b, o, none⟩) hb; (try go_simp); try rfl; done)); simp only [Act.put, List.setIfInBounds_toArray, List.set_cons_succ, List.set_cons_zero])
        (apply hav_same (by simp only [List.getElem?_toArray, List.getElem?_cons_succ, List.getElem?_cons_zero]; rfl) (by kernel_rfl); (focus (intro wv hgv _; have hcv : ∀ b o, b < _ → wv.cell? ⟨b, o, none⟩ = _ := fun b o hb => Below.cell hgv (p := ⟨b, o, none⟩) hb; (try go_simp); try rfl; done)); simp only [Act.put, List.setIfInBounds_toArray, List.set_cons_succ, List.set_cons_zero])
        (apply hav_call (by simp only [List.getElem?_toArray, List.getElem?_cons_succ, List.getElem?_cons_zero]; rfl) (by kernel_rfl); (focus (intro wv; go_simp; try exact ⟨rfl, rfl⟩; done)); (focus (intro wv hgv _; exact HH.out wv; done)); simp only [Act.put, List.setIfInBounds_toArray, List.set_cons_succ, List.set_cons_zero])
        (apply hav_same (by simp only [List.getElem?_toArray, List.getElem?_cons_succ, List.getElem?_cons_zero]; rfl) (by kernel_rfl); (focus (intro wv hgv _; have hcv : ∀ b o, b < _ → wv.cell? ⟨b, o, none⟩ = _ := fun b o hb => Below.cell hgv (p := ⟨b, o, none⟩) hb; (try go_simp); try rfl; done)); simp only [Act.put, List.setIfInBounds_toArray, List.set_cons_succ, List.set_cons_zero])
        iterate 12 (refine hav_skip (by simp only [List.getElem?_toArray, List.getElem?_cons_succ, List.getElem?_cons_zero]; rfl) (by kernel_rfl) ?_; simp only [Act.put, List.setIfInBounds_toArray, List.set_cons_succ, List.set_cons_zero])
        (apply hav_same (by simp only [List.getElem?_toArray, List.getElem?_cons_succ, List.getElem?_cons_zero]; rfl) (by kernel_rfl); (focus (intro wv hgv _; have hcv : ∀ b o, b < _ → wv.cell? ⟨b, o, none⟩ = _ := fun b o hb => Below.cell hgv (p := ⟨b, o, none⟩) hb; (try go_simp); try rfl; done)); simp only [Act.put, List.setIfInBounds_toArray, List.set_cons_succ, List.set_cons_zero])
        refine hav_end (fun w5 hgw5 _ => ?_); simp only [List.filterMap]; have hcw5 : ∀ b o, b < _ → w5.cell? ⟨b, o, none⟩ = _ := fun b o hb => Below.cell hgw5 (p := ⟨b, o, none⟩) hb; have hfw5 : ∀ b o, b < _ → w5.frozen? ⟨b, o, none⟩ = _ := fun b o hb => Below.frozen hgw5 (p := ⟨b, o, none⟩) hb; have hzw5 := Below.size hgw5; (try simp at hzw5)
        have HBZ : Hid (Below W.heap.size W w5) := HBX.out.trans ((HB7.out.trans (hgw5.mono HB7.out.size)).mono HBX.out.size)
        clear hgw5 hcw5 hfw5
        go_wp2
        go_roundw
        case rel => exact ⟨k + 1, by omega, by go_num, HN, HBZ⟩
        case measure => simp [intOf]; omega
      · rw [hbit] at HH HOK
        obtain ⟨y, hy⟩ : ∃ y, inB (t.at_ d) c0 c1 = y := ⟨_, rfl⟩
        rw [hy] at HOK
        have HIN : Hid (∀ wv : World, Calls Try.prog 96 #[.int .i64 (t.at_ d), .int .i64 c0, .int .i64 c1] wv fun e w' => e = .returned (.bool y) ∧ Below wv.heap.size wv w') := fun wv => (rin_any _ _ _ wv).mono (by rintro e w' ⟨rfl, rfl⟩; exact ⟨by rw [hy], Below.refl _ _⟩)
        have HAT : Hid (∀ wv : World, Below w.heap.size w wv → Calls Try.prog 101 #[.agg #[.int .i64 t.d, .int .i64 t.by_, .slice dA n dc, .slice rA n rc], .int .i64 d] wv fun e w' => e = .returned (.int .i64 (t.at_ d)) ∧ Below wv.heap.size wv w') := fun wv hb => in_any HS.out d hd10 wv (HT.out.below hb)
        clear hbit hy
        refine wp_region_havoc [(0,false),(1,false),(2,false),(3,false),(4,false),(5,false),(6,false),(7,false),(8,false),(9,false),(10,false),(11,false),(12,false),(13,false),(14,false),(15,false),(16,false)] [] (fun _ _ => False) (by kernel_rfl) (by kernel_rfl) (fun _ _ _ _ h => h.elim) ?_
        (apply hav_same (by simp only [List.getElem?_toArray, List.getElem?_cons_zero]; rfl) (by kernel_rfl); (focus (intro wv hgv _; have hcv : ∀ b o, b < _ → wv.cell? ⟨b, o, none⟩ = _ := fun b o hb => Below.cell hgv (p := ⟨b, o, none⟩) hb; (try go_simp); try rfl; done)); simp only [Act.put, List.setIfInBounds_toArray, List.set_cons_succ, List.set_cons_zero])
        (apply hav_same (by simp only [List.getElem?_toArray, List.getElem?_cons_succ, List.getElem?_cons_zero]; rfl) (by kernel_rfl); (focus (intro wv hgv _; have hcv : ∀ b o, b < _ → wv.cell? ⟨b, o, none⟩ = _ := fun b o hb => Below.cell hgv (p := ⟨b, o, none⟩) hb; (try go_simp); try rfl; done)); simp only [Act.put, List.setIfInBounds_toArray, List.set_cons_succ, List.set_cons_zero])
        (apply hav_call (by simp only [List.getElem?_toArray, List.getElem?_cons_succ, List.getElem?_cons_zero]; rfl) (by kernel_rfl); (focus (intro wv; go_simp; try exact ⟨rfl, rfl⟩; done)); (focus (intro wv hgv _; exact HH.out wv; done)); simp only [Act.put, List.setIfInBounds_toArray, List.set_cons_succ, List.set_cons_zero])
        iterate 4 (apply hav_same (by simp only [List.getElem?_toArray, List.getElem?_cons_succ, List.getElem?_cons_zero]; rfl) (by kernel_rfl); (focus (intro wv hgv _; have hcv : ∀ b o, b < _ → wv.cell? ⟨b, o, none⟩ = _ := fun b o hb => Below.cell hgv (p := ⟨b, o, none⟩) hb; (try go_simp); try rfl; done)); simp only [Act.put, List.setIfInBounds_toArray, List.set_cons_succ, List.set_cons_zero])
        (apply hav_call (by simp only [List.getElem?_toArray, List.getElem?_cons_succ, List.getElem?_cons_zero]; rfl) (by kernel_rfl); (focus (intro wv; go_simp; try exact ⟨rfl, rfl⟩; done)); (focus (intro wv hgv _; exact HAT.out wv (HB7W.out.trans (hgv.mono HB7W.out.size)); done)); simp only [Act.put, List.setIfInBounds_toArray, List.set_cons_succ, List.set_cons_zero])
        iterate 6 (apply hav_same (by simp only [List.getElem?_toArray, List.getElem?_cons_succ, List.getElem?_cons_zero]; rfl) (by kernel_rfl); (focus (intro wv hgv _; have hcv : ∀ b o, b < _ → wv.cell? ⟨b, o, none⟩ = _ := fun b o hb => Below.cell hgv (p := ⟨b, o, none⟩) hb; (try go_simp); try rfl; done)); simp only [Act.put, List.setIfInBounds_toArray, List.set_cons_succ, List.set_cons_zero])
        (apply hav_call (by simp only [List.getElem?_toArray, List.getElem?_cons_succ, List.getElem?_cons_zero]; rfl) (by kernel_rfl); (focus (intro wv; go_simp; try exact ⟨rfl, rfl⟩; done)); (focus (intro wv hgv _; exact HIN.out wv; done)); simp only [Act.put, List.setIfInBounds_toArray, List.set_cons_succ, List.set_cons_zero])
        iterate 2 (apply hav_same (by simp only [List.getElem?_toArray, List.getElem?_cons_succ, List.getElem?_cons_zero]; rfl) (by kernel_rfl); (focus (intro wv hgv _; have hcv : ∀ b o, b < _ → wv.cell? ⟨b, o, none⟩ = _ := fun b o hb => Below.cell hgv (p := ⟨b, o, none⟩) hb; (try go_simp); try rfl; done)); simp only [Act.put, List.setIfInBounds_toArray, List.set_cons_succ, List.set_cons_zero])
        refine hav_end (fun w5 hgw5 _ => ?_); simp only [List.filterMap]; have hcw5 : ∀ b o, b < _ → w5.cell? ⟨b, o, none⟩ = _ := fun b o hb => Below.cell hgw5 (p := ⟨b, o, none⟩) hb; have hfw5 : ∀ b o, b < _ → w5.frozen? ⟨b, o, none⟩ = _ := fun b o hb => Below.frozen hgw5 (p := ⟨b, o, none⟩) hb; have hzw5 := Below.size hgw5; (try simp at hzw5)
        have HBZ : Hid (Below W.heap.size W w5) := HBX.out.trans ((HB7.out.trans (hgw5.mono HB7.out.size)).mono HBX.out.size)
        clear hgw5 hcw5 hfw5
        cases y
        · have HN : Hid (rightP r.nat s t = false) := rightN_no (by rw [HOK.out]; rfl) HKL.out
          go_wp2
          go_ret
          exact ⟨ret_bool HN.out.symm, HBW.out.trans (HBZ.out.mono HBW.out.size)⟩
        · have HN : Hid (rightN r.nat s t (k + 1) = true) := by show _ = _; rw [rightN, HR.out, HOK.out]; rfl
          go_wp2
          go_roundw
          case rel => exact ⟨k + 1, by omega, by go_num, HN, HBZ⟩
          case measure => simp [intOf]; omega
    · obtain rfl : ll = k := by omega
      have HN : Hid (rightP r.nat s t = true) := by
        show _ = _
        unfold rightP
        rw [show r.nat.lk.length = ll by rw [← HEL.out]; show (r.lk.map (·.nat)).length = _; rw [List.length_map]]
        exact HR.out
      go_wp2
      go_ret
      exact ⟨ret_bool HN.out.symm, HBR.out⟩
end
end Go.Proofs.Ytiodmkokpfgkkaa
