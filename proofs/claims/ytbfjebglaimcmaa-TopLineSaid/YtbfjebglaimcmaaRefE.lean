/- The walk of the reference's Press, behind the head. -/
import Derived.Test.YtbfjebglaimcmaaRefA
namespace Go.Proofs.Ytbfjebglaimcmaa
open Go.RowKit Go.Hav
theorem ok_no_fl {p : PressD} {c : Fl} (hm : c ∈ p.fl) (h : PressD.flB c = false) : p.ok = false := by
  have : p.fl.all PressD.flB = false := by rw [List.all_eq_false]; exact ⟨c, hm, by simp [h]⟩
  simp [PressD.ok, this]
theorem ok_no_ba {p : PressD} {k : Nat} (hm : k < p.weighed.length) (h : p.baB k = false) : p.ok = false := by
  have : (List.range p.weighed.length).all p.baB = false := by rw [List.all_eq_false]; exact ⟨k, by simpa using hm, by simp [h]⟩
  simp [PressD.ok, this]
theorem baB_set {p : PressD} {k : Nat} (h : p.baB k = true) : (p.ba k).set = (p.bs k : Int) ∧ p.bs k ≤ full p.n := by
  simp only [PressD.baB, PressD.setB, Bool.and_eq_true, inB_iff, decide_eq_true_eq] at h
  unfold PressD.bs
  omega
theorem flB_eq (c0 c1 cl : Int) : PressD.flB ⟨⟨c0, c1⟩, cl⟩ = (spanB ⟨c0, c1⟩ 1 20 && decide (c1 - c0 ≤ 3) && inB cl 0 2) := rfl
section
variable {low top bales : Int} {fa wa : Option Addr} {fl fc wl wc : Nat} {p : PressD}
set_option maxRecDepth 100000 in
set_option maxHeartbeats 6400000 in
theorem rpress_body (w : World) (hP : PressIn w w.heap.size fa fl low top bales wa wl p) (h1 : fl ≤ 10) (h2 : inB low 1 200 = true) (h3 : inB top low 200 = true) (h4 : inB bales 0 5 = true) (h5 : wl ≤ 4) (hh : p.headB = true) :
    Calls Try.prog 37 #[pressV fa fl fc low top bales wa wl wc] w fun e w' => e = .returned (.bool p.ok) ∧ Below w.heap.size w w' := by
  have HP := Lib.hid hP
  have HEF := Lib.hid hP.efl
  have HEW := Lib.hid hP.ewl
  have HHD := Lib.hid hh
  have hd : decide ((10 : Int) < fl) = false := by simp; omega
  have hd5 : decide ((4 : Int) < wl) = false := by simp; omega
  obtain ⟨W, hW⟩ : ∃ W, W = w.alloc (Obj.cells #[Value.slice fa fl fc, Value.int IntKind.i64 low, Value.int IntKind.i64 top, Value.int IntKind.i64 bales, Value.slice wa wl wc] 25) := ⟨_, rfl⟩
  have HK : Hid (Blk W w.heap.size 25 #[Value.slice fa fl fc, Value.int IntKind.i64 low, Value.int IntKind.i64 top, Value.int IntKind.i64 bales, Value.slice wa wl wc]) := by rw [hW]; exact Blk.new w 25 _
  have HB0 : Hid (Below w.heap.size w W) := by rw [hW]; exact (Below.refl _ _).alloc (Nat.le_refl _) _
  have hsW : W.heap.size = w.heap.size + 1 := by rw [hW]; simp
  clear hP hh
  unfold pressV
  go_enter Try.func37, Try.ntmps37
  go_wp2_with fail
  refine (rin_any _ _ _ _).mono ?_
  rw [h2]
  rintro e w' ⟨rfl, rfl⟩
  go_wp2_with fail
  refine (rin_any _ _ _ _).mono ?_
  rw [h3]
  rintro e w' ⟨rfl, rfl⟩
  go_wp2_with fail
  refine (rin_any _ _ _ _).mono ?_
  rw [h4]
  rintro e w' ⟨rfl, rfl⟩
  go_wp2_with fail
  rw [← hW]
  clear hW
  go_loopw [3] (fun i wr => ∃ k : Nat, k ≤ fl ∧ i = .int .i64 k ∧ Hid ((p.fl.take k).all PressD.flB = true) ∧ Below W.heap.size W wr) (fun i _ => fl - (intOf i).toNat)
  case atStart => exact ⟨0, Nat.zero_le _, rfl, by show _ = _; simp, Below.refl _ _⟩
  case round =>
    obtain ⟨k, hk, rfl, HT, hb⟩ := hrel
    have HBX := Lib.hid hb
    clear hb
    have HKR : Hid (Blk wr w.heap.size 25 #[Value.slice fa fl fc, Value.int IntKind.i64 low, Value.int IntKind.i64 top, Value.int IntKind.i64 bales, Value.slice wa wl wc]) := HK.out.below HBX.out (by omega)
    have hsz : w.heap.size < wr.heap.size := HKR.out.lt
    have xb0 : wr.cell? ⟨w.heap.size, 0, none⟩ = some (.slice fa fl fc) := HKR.out.cell 0
    have xb1 : wr.cell? ⟨w.heap.size, 1, none⟩ = some (.int .i64 low) := HKR.out.cell 1
    have xb2 : wr.cell? ⟨w.heap.size, 2, none⟩ = some (.int .i64 top) := HKR.out.cell 2
    have xb3 : wr.cell? ⟨w.heap.size, 3, none⟩ = some (.int .i64 bales) := HKR.out.cell 3
    have xb4 : wr.cell? ⟨w.heap.size, 4, none⟩ = some (.slice wa wl wc) := HKR.out.cell 4
    have HBR : Hid (Below w.heap.size w wr) := HB0.out.trans (HBX.out.mono (by omega))
    by_cases hlt : k < fl
    · obtain ⟨c, hc⟩ : ∃ c, p.fl[k]? = some c := ⟨p.fl[k]'(by have := HEF.out; omega), by simp⟩
      obtain ⟨b, off, rfl, hbl, H0, H1, H2⟩ := rd_fl ((HP.out.grow HBR.out).hfl) k c hc
      have HC := Lib.hid hc
      have HM := Lib.hid (List.mem_of_getElem? hc)
      obtain ⟨⟨c0, c1⟩, cl⟩ := c
      simp only at H0 H1 H2
      clear hc
      have HF := Lib.hid (flB_eq c0 c1 cl)
      go_wp2_with fail
      refine (rspan_any ⟨c0, c1⟩ 1 20 _).mono ?_
      cases hs : spanB ⟨c0, c1⟩ 1 20
      · rw [hs] at HF
        have HN := Lib.hid (ok_no_fl HM.out (by rw [HF.out]; rfl))
        clear hs
        rintro e w1 ⟨rfl, hbw1⟩; obtain ⟨hcw1, hfw1⟩ := bcell hbw1; have hzw1 := hbw1.size; (try simp at hzw1)
        go_wp2
        go_ret
        exact ⟨ret_bool HN.out.symm, (by repeat (first | exact Below.refl _ _ | assumption | refine Below.drew ?_ | refine below_drewN ?_ _ | refine Below.alloc ?_ (by (try simp) <;> omega) _ | refine Below.setCell ?_ (by (try simp) <;> omega) _ | refine Below.trans ?_ (Below.mono (by assumption) (by (try simp) <;> omega))))⟩
      · rw [hs] at HF
        obtain ⟨s0, s1, s2⟩ : 1 ≤ c0 ∧ c0 ≤ c1 ∧ c1 ≤ 20 := spanB_iff.1 hs
        clear hs
        rintro e w1 ⟨rfl, hbw1⟩; obtain ⟨hcw1, hfw1⟩ := bcell hbw1; have hzw1 := hbw1.size; (try simp at hzw1)
        have HB1 : Hid (Below wr.heap.size wr w1) := ((Below.refl wr.heap.size wr).alloc (Nat.le_refl _) _).trans (hbw1.mono (by simp))
        by_cases h3' : c1 - c0 ≤ 3
        case neg =>
          have hd3 : decide (3 < c1 - c0) = true := by simp; omega
          have HN := Lib.hid (ok_no_fl HM.out (by rw [HF.out]; simp [h3']))
          go_wp2
          go_ret
          exact ⟨ret_bool HN.out.symm, HBR.out.trans (HB1.out.mono (by omega))⟩
        have hd3 : decide (3 < c1 - c0) = false := by simp; omega
        go_wp2_with fail
        refine (rin_any _ _ _ _).mono ?_
        cases hl : inB cl 0 2
        · have HN := Lib.hid (ok_no_fl HM.out (by rw [HF.out, hl]; simp))
          clear hl
          rintro e w' ⟨rfl, rfl⟩
          go_wp2
          go_ret
          exact ⟨ret_bool HN.out.symm, HBR.out.trans (HB1.out.mono (by omega))⟩
        · have HN := Lib.hid (take_all HC.out HT.out (by rw [HF.out, hl]; simp [h3']))
          have HB2 : Hid (Below W.heap.size W w1) := HBX.out.trans (HB1.out.mono HBX.out.size)
          clear hl
          rintro e w' ⟨rfl, rfl⟩
          go_wp2
          go_roundw
          case rel => exact ⟨k + 1, by omega, by go_num, HN.out, HB2.out⟩
          case measure => simp [intOf]; omega
    · obtain rfl : fl = k := by omega
      have HFL : Hid (p.fl.all PressD.flB = true) := by
        have h := HT.out
        rwa [List.take_of_length_le (by have := HEF.out; omega)] at h
      have HBX1 := HBX
      clear HBX HKR hsz xb1 xb2 xb3 HBR HT
      go_wp2
      go_loopw [5] (fun i wr => ∃ k : Nat, k ≤ wl ∧ i = .int .i64 k ∧ Hid ((List.range k).all p.baB = true) ∧ Below W.heap.size W wr) (fun i _ => wl - (intOf i).toNat)
      case atStart => exact ⟨0, Nat.zero_le _, rfl, by show _ = _; simp, HBX1.out⟩
      case round =>
        clear HBX1
        obtain ⟨k, hk, rfl, HT, hb⟩ := hrel
        have HBX := Lib.hid hb
        clear hb
        have HKR : Hid (Blk wr w.heap.size 25 #[Value.slice fa fl fc, Value.int IntKind.i64 low, Value.int IntKind.i64 top, Value.int IntKind.i64 bales, Value.slice wa wl wc]) := HK.out.below HBX.out (by omega)
        have hsz : w.heap.size < wr.heap.size := HKR.out.lt
        have xb0 : wr.cell? ⟨w.heap.size, 0, none⟩ = some (.slice fa fl fc) := HKR.out.cell 0
        have xb1 : wr.cell? ⟨w.heap.size, 1, none⟩ = some (.int .i64 low) := HKR.out.cell 1
        have xb2 : wr.cell? ⟨w.heap.size, 2, none⟩ = some (.int .i64 top) := HKR.out.cell 2
        have xb3 : wr.cell? ⟨w.heap.size, 3, none⟩ = some (.int .i64 bales) := HKR.out.cell 3
        have xb4 : wr.cell? ⟨w.heap.size, 4, none⟩ = some (.slice wa wl wc) := HKR.out.cell 4
        have HBR : Hid (Below w.heap.size w wr) := HB0.out.trans (HBX.out.mono (by omega))
        by_cases hlt : k < wl
        · obtain ⟨c, hc⟩ : ∃ c, p.weighed[k]? = some c := ⟨p.weighed[k]'(by have := HEW.out; omega), by simp⟩
          obtain ⟨b, off, hwa, hbl, H0, H1, H2⟩ := rd_ba ((HP.out.grow HBR.out).hwl) k c hc
          have hkw : k < p.weighed.length := by have := HEW.out; omega
          have HC : Hid (p.ba k = c) := by show _ = _; simp [PressD.ba, hc]
          obtain ⟨cs, ⟨c0, c1⟩⟩ := c
          simp only at H0 H1 H2
          clear hc
          have HF : Hid (p.baB k = (p.setB cs && decide (0 < cs) && (p.used k &&& p.bs k == 0) && spanB ⟨c0, c1⟩ 1 200)) := by show _ = _; rw [PressD.baB, HC.out]
          have hn : p.n = fl := HEF.out
          have HIN : Hid (inB cs 1 (full fl : Nat) = (p.setB cs && decide (0 < cs))) := by
            show _ = _
            rw [PressD.setB, hn, inB, inB]
            by_cases e1 : 1 ≤ cs
            · have e2 : (0 : Int) ≤ cs := by omega
              have e3 : (0 : Int) < cs := by omega
              simp [e1, e2, e3]
            · have e3 : ¬ (0 : Int) < cs := by omega
              simp [e1, e3]
          subst hwa
          go_wp2_with fail
          obtain ⟨W1, hW1⟩ : ∃ W1, W1 = wr.alloc (.cells #[.int .i64 cs, .int .i64 c0, .int .i64 c1] 56) := ⟨_, rfl⟩
          rw [← hW1]
          have HK1 : Hid (Blk W1 wr.heap.size 56 #[.int .i64 cs, .int .i64 c0, .int .i64 c1]) := by rw [hW1]; exact Blk.new wr 56 _
          have HB1 : Hid (Below wr.heap.size wr W1) := by rw [hW1]; exact (Below.refl _ _).alloc (Nat.le_refl _) _
          have hs1 : wr.heap.size < W1.heap.size := HK1.out.lt
          clear hW1
          have HKW1 := Lib.hid (HKR.out.below HB1.out hsz)
          have yb0 : W1.cell? ⟨w.heap.size, 0, none⟩ = some (.slice fa fl fc) := HKW1.out.cell 0
          have yb1 : W1.cell? ⟨w.heap.size, 1, none⟩ = some (.int .i64 low) := HKW1.out.cell 1
          have yb2 : W1.cell? ⟨w.heap.size, 2, none⟩ = some (.int .i64 top) := HKW1.out.cell 2
          have yb3 : W1.cell? ⟨w.heap.size, 3, none⟩ = some (.int .i64 bales) := HKW1.out.cell 3
          have yb4 : W1.cell? ⟨w.heap.size, 4, none⟩ = some (.slice (some ⟨b, off, none⟩) wl wc) := HKW1.out.cell 4
          have hsz1 : w.heap.size < W1.heap.size := by omega
          have z0 : W1.cell? ⟨wr.heap.size, 0, none⟩ = some (.int .i64 cs) := HK1.out.cell 0
          have z1 : W1.cell? ⟨wr.heap.size, 1, none⟩ = some (.int .i64 c0) := HK1.out.cell 1
          have z2 : W1.cell? ⟨wr.heap.size, 2, none⟩ = some (.int .i64 c1) := HK1.out.cell 2
          have hfl40 : fl ≤ 40 := by omega
          cases hi : inB cs 1 (full fl : Nat)
          · have HN := Lib.hid (ok_no_ba hkw (by rw [HF.out, ← HIN.out, hi]; rfl))
            have HI := Lib.hid hi
            clear hi
            refine wp_region_havoc [(0,false),(1,false),(2,false),(3,false),(4,false),(5,false),(6,false),(7,false),(8,false),(9,false),(10,false),(11,false)] [] (fun _ _ => False) (by kernel_rfl) (by kernel_rfl) (fun _ _ _ _ h => h.elim) ?_
            (apply hav_same (by simp only [List.getElem?_toArray, List.getElem?_cons_zero]; rfl) (by kernel_rfl); (focus (intro wv hgv _; have hcv : ∀ b o, b < _ → wv.cell? ⟨b, o, none⟩ = _ := fun b o hb => Below.cell hgv (p := ⟨b, o, none⟩) hb; (try go_simp); try rfl; done)); simp only [Act.put, List.setIfInBounds_toArray, List.set_cons_succ, List.set_cons_zero])
            iterate 2 (apply hav_same (by simp only [List.getElem?_toArray, List.getElem?_cons_succ, List.getElem?_cons_zero]; rfl) (by kernel_rfl); (focus (intro wv hgv _; have hcv : ∀ b o, b < _ → wv.cell? ⟨b, o, none⟩ = _ := fun b o hb => Below.cell hgv (p := ⟨b, o, none⟩) hb; (try go_simp); try rfl; done)); simp only [Act.put, List.setIfInBounds_toArray, List.set_cons_succ, List.set_cons_zero])
            (apply hav_call (by simp only [List.getElem?_toArray, List.getElem?_cons_succ, List.getElem?_cons_zero]; rfl) (by kernel_rfl); (focus (intro wv; go_simp; try exact ⟨rfl, rfl⟩; done)); (focus (intro wv hgv _; exact revery_any (low := low) (top := top) (bales := bales) (fa := fa) (fl := fl) (fc := fc) (wa := some ⟨b, off, none⟩) (wl := wl) (wc := wc) hfl40 wv; done)); simp only [Act.put, List.setIfInBounds_toArray, List.set_cons_succ, List.set_cons_zero])
            (apply hav_call (by simp only [List.getElem?_toArray, List.getElem?_cons_succ, List.getElem?_cons_zero]; rfl) (by kernel_rfl); (focus (intro wv; go_simp; try exact ⟨rfl, rfl⟩; done)); (focus (intro wv hgv _; have hq := rin_any cs 1 (full fl : Nat) wv; rw [HI.out] at hq; exact hq.mono fun e w' h => ⟨h.1, by rw [h.2]; exact Below.refl _ _⟩; done)); simp only [Act.put, List.setIfInBounds_toArray, List.set_cons_succ, List.set_cons_zero])
            iterate 2 (apply hav_same (by simp only [List.getElem?_toArray, List.getElem?_cons_succ, List.getElem?_cons_zero]; rfl) (by kernel_rfl); (focus (intro wv hgv _; have hcv : ∀ b o, b < _ → wv.cell? ⟨b, o, none⟩ = _ := fun b o hb => Below.cell hgv (p := ⟨b, o, none⟩) hb; (try go_simp); try rfl; done)); simp only [Act.put, List.setIfInBounds_toArray, List.set_cons_succ, List.set_cons_zero])
            iterate 4 (refine hav_skip (by simp only [List.getElem?_toArray, List.getElem?_cons_succ, List.getElem?_cons_zero]; rfl) (by kernel_rfl) ?_; simp only [Act.put, List.setIfInBounds_toArray, List.set_cons_succ, List.set_cons_zero])
            (apply hav_same (by simp only [List.getElem?_toArray, List.getElem?_cons_succ, List.getElem?_cons_zero]; rfl) (by kernel_rfl); (focus (intro wv hgv _; have hcv : ∀ b o, b < _ → wv.cell? ⟨b, o, none⟩ = _ := fun b o hb => Below.cell hgv (p := ⟨b, o, none⟩) hb; (try go_simp); try rfl; done)); simp only [Act.put, List.setIfInBounds_toArray, List.set_cons_succ, List.set_cons_zero])
            refine hav_end (fun w3 hgw3 _ => ?_); simp only [List.filterMap]; have hcw3 : ∀ b o, b < _ → w3.cell? ⟨b, o, none⟩ = _ := fun b o hb => Below.cell hgw3 (p := ⟨b, o, none⟩) hb; have hfw3 : ∀ b o, b < _ → w3.frozen? ⟨b, o, none⟩ = _ := fun b o hb => Below.frozen hgw3 (p := ⟨b, o, none⟩) hb; have hzw3 := Below.size hgw3; (try simp at hzw3)
            have HB3 : Hid (Below w.heap.size w w3) := HBR.out.trans ((HB1.out.trans (hgw3.mono (by omega))).mono (by omega))
            clear hgw3 hcw3 hfw3
            go_wp2
            go_ret
            exact ⟨ret_bool HN.out.symm, HB3.out⟩
          · have HI := Lib.hid hi
            have hsb : 1 ≤ cs ∧ cs ≤ 1023 := by
              have h := inB_iff.1 hi
              have h2 : full fl ≤ 1023 := by
                unfold full
                have h := Nat.pow_le_pow_right (n := 2) (by omega) h1
                omega
              omega
            rw [hi] at HIN
            clear hi
            cases hsp : spanB ⟨c0, c1⟩ 1 200
            · have HN := Lib.hid (ok_no_ba hkw (by rw [HF.out, hsp]; simp))
              have HSP := Lib.hid hsp
              clear hsp
              refine wp_region_havoc [(0,false),(1,false),(2,false),(3,false),(4,false),(5,false),(6,false),(7,false),(8,false),(9,false),(10,false),(11,false)] [] (fun _ _ => False) (by kernel_rfl) (by kernel_rfl) (fun _ _ _ _ h => h.elim) ?_
              (apply hav_same (by simp only [List.getElem?_toArray, List.getElem?_cons_zero]; rfl) (by kernel_rfl); (focus (intro wv hgv _; have hcv : ∀ b o, b < _ → wv.cell? ⟨b, o, none⟩ = _ := fun b o hb => Below.cell hgv (p := ⟨b, o, none⟩) hb; (try go_simp); try rfl; done)); simp only [Act.put, List.setIfInBounds_toArray, List.set_cons_succ, List.set_cons_zero])
              iterate 2 (apply hav_same (by simp only [List.getElem?_toArray, List.getElem?_cons_succ, List.getElem?_cons_zero]; rfl) (by kernel_rfl); (focus (intro wv hgv _; have hcv : ∀ b o, b < _ → wv.cell? ⟨b, o, none⟩ = _ := fun b o hb => Below.cell hgv (p := ⟨b, o, none⟩) hb; (try go_simp); try rfl; done)); simp only [Act.put, List.setIfInBounds_toArray, List.set_cons_succ, List.set_cons_zero])
              (apply hav_call (by simp only [List.getElem?_toArray, List.getElem?_cons_succ, List.getElem?_cons_zero]; rfl) (by kernel_rfl); (focus (intro wv; go_simp; try exact ⟨rfl, rfl⟩; done)); (focus (intro wv hgv _; exact revery_any (low := low) (top := top) (bales := bales) (fa := fa) (fl := fl) (fc := fc) (wa := some ⟨b, off, none⟩) (wl := wl) (wc := wc) hfl40 wv; done)); simp only [Act.put, List.setIfInBounds_toArray, List.set_cons_succ, List.set_cons_zero])
              (apply hav_call (by simp only [List.getElem?_toArray, List.getElem?_cons_succ, List.getElem?_cons_zero]; rfl) (by kernel_rfl); (focus (intro wv; go_simp; try exact ⟨rfl, rfl⟩; done)); (focus (intro wv hgv _; have hq := rin_any cs 1 (full fl : Nat) wv; rw [HI.out] at hq; exact hq.mono fun e w' h => ⟨h.1, by rw [h.2]; exact Below.refl _ _⟩; done)); simp only [Act.put, List.setIfInBounds_toArray, List.set_cons_succ, List.set_cons_zero])
              iterate 4 (apply hav_same (by simp only [List.getElem?_toArray, List.getElem?_cons_succ, List.getElem?_cons_zero]; rfl) (by kernel_rfl); (focus (intro wv hgv _; have hcv : ∀ b o, b < _ → wv.cell? ⟨b, o, none⟩ = _ := fun b o hb => Below.cell hgv (p := ⟨b, o, none⟩) hb; (try go_simp); try rfl; done)); simp only [Act.put, List.setIfInBounds_toArray, List.set_cons_succ, List.set_cons_zero])
              (apply hav_call (by simp only [List.getElem?_toArray, List.getElem?_cons_succ, List.getElem?_cons_zero]; rfl) (by kernel_rfl); (focus (intro wv; go_simp; try exact ⟨rfl, rfl⟩; done)); (focus (intro wv hgv _; have hq := rspan_any ⟨c0, c1⟩ 1 200 wv; rw [HSP.out] at hq; exact hq; done)); simp only [Act.put, List.setIfInBounds_toArray, List.set_cons_succ, List.set_cons_zero])
              iterate 2 (apply hav_same (by simp only [List.getElem?_toArray, List.getElem?_cons_succ, List.getElem?_cons_zero]; rfl) (by kernel_rfl); (focus (intro wv hgv _; have hcv : ∀ b o, b < _ → wv.cell? ⟨b, o, none⟩ = _ := fun b o hb => Below.cell hgv (p := ⟨b, o, none⟩) hb; (try go_simp); try rfl; done)); simp only [Act.put, List.setIfInBounds_toArray, List.set_cons_succ, List.set_cons_zero])
              refine hav_end (fun w3 hgw3 _ => ?_); simp only [List.filterMap]; have hcw3 : ∀ b o, b < _ → w3.cell? ⟨b, o, none⟩ = _ := fun b o hb => Below.cell hgw3 (p := ⟨b, o, none⟩) hb; have hfw3 : ∀ b o, b < _ → w3.frozen? ⟨b, o, none⟩ = _ := fun b o hb => Below.frozen hgw3 (p := ⟨b, o, none⟩) hb; have hzw3 := Below.size hgw3; (try simp at hzw3)
              have HB3 : Hid (Below w.heap.size w w3) := HBR.out.trans ((HB1.out.trans (hgw3.mono (by omega))).mono (by omega))
              clear hgw3 hcw3 hfw3
              go_wp2
              go_ret
              exact ⟨ret_bool HN.out.symm, HB3.out⟩
            · have HSP := Lib.hid hsp
              clear hsp
              refine wp_region_havoc [(0,false),(1,false),(2,false),(3,false),(4,false),(5,false),(6,false),(7,false),(8,false),(9,false),(10,false),(11,false)] [] (fun _ _ => False) (by kernel_rfl) (by kernel_rfl) (fun _ _ _ _ h => h.elim) ?_
              (apply hav_same (by simp only [List.getElem?_toArray, List.getElem?_cons_zero]; rfl) (by kernel_rfl); (focus (intro wv hgv _; have hcv : ∀ b o, b < _ → wv.cell? ⟨b, o, none⟩ = _ := fun b o hb => Below.cell hgv (p := ⟨b, o, none⟩) hb; (try go_simp); try rfl; done)); simp only [Act.put, List.setIfInBounds_toArray, List.set_cons_succ, List.set_cons_zero])
              iterate 2 (apply hav_same (by simp only [List.getElem?_toArray, List.getElem?_cons_succ, List.getElem?_cons_zero]; rfl) (by kernel_rfl); (focus (intro wv hgv _; have hcv : ∀ b o, b < _ → wv.cell? ⟨b, o, none⟩ = _ := fun b o hb => Below.cell hgv (p := ⟨b, o, none⟩) hb; (try go_simp); try rfl; done)); simp only [Act.put, List.setIfInBounds_toArray, List.set_cons_succ, List.set_cons_zero])
              (apply hav_call (by simp only [List.getElem?_toArray, List.getElem?_cons_succ, List.getElem?_cons_zero]; rfl) (by kernel_rfl); (focus (intro wv; go_simp; try exact ⟨rfl, rfl⟩; done)); (focus (intro wv hgv _; exact revery_any (low := low) (top := top) (bales := bales) (fa := fa) (fl := fl) (fc := fc) (wa := some ⟨b, off, none⟩) (wl := wl) (wc := wc) hfl40 wv; done)); simp only [Act.put, List.setIfInBounds_toArray, List.set_cons_succ, List.set_cons_zero])
              (apply hav_call (by simp only [List.getElem?_toArray, List.getElem?_cons_succ, List.getElem?_cons_zero]; rfl) (by kernel_rfl); (focus (intro wv; go_simp; try exact ⟨rfl, rfl⟩; done)); (focus (intro wv hgv _; have hq := rin_any cs 1 (full fl : Nat) wv; rw [HI.out] at hq; exact hq.mono fun e w' h => ⟨h.1, by rw [h.2]; exact Below.refl _ _⟩; done)); simp only [Act.put, List.setIfInBounds_toArray, List.set_cons_succ, List.set_cons_zero])
              iterate 4 (apply hav_same (by simp only [List.getElem?_toArray, List.getElem?_cons_succ, List.getElem?_cons_zero]; rfl) (by kernel_rfl); (focus (intro wv hgv _; have hcv : ∀ b o, b < _ → wv.cell? ⟨b, o, none⟩ = _ := fun b o hb => Below.cell hgv (p := ⟨b, o, none⟩) hb; (try go_simp); try rfl; done)); simp only [Act.put, List.setIfInBounds_toArray, List.set_cons_succ, List.set_cons_zero])
              (apply hav_call (by simp only [List.getElem?_toArray, List.getElem?_cons_succ, List.getElem?_cons_zero]; rfl) (by kernel_rfl); (focus (intro wv; go_simp; try exact ⟨rfl, rfl⟩; done)); (focus (intro wv hgv _; have hq := rspan_any ⟨c0, c1⟩ 1 200 wv; rw [HSP.out] at hq; exact hq; done)); simp only [Act.put, List.setIfInBounds_toArray, List.set_cons_succ, List.set_cons_zero])
              iterate 2 (apply hav_same (by simp only [List.getElem?_toArray, List.getElem?_cons_succ, List.getElem?_cons_zero]; rfl) (by kernel_rfl); (focus (intro wv hgv _; have hcv : ∀ b o, b < _ → wv.cell? ⟨b, o, none⟩ = _ := fun b o hb => Below.cell hgv (p := ⟨b, o, none⟩) hb; (try go_simp); try rfl; done)); simp only [Act.put, List.setIfInBounds_toArray, List.set_cons_succ, List.set_cons_zero])
              refine hav_end (fun w3 hgw3 _ => ?_); simp only [List.filterMap]; have hcw3 : ∀ b o, b < _ → w3.cell? ⟨b, o, none⟩ = _ := fun b o hb => Below.cell hgw3 (p := ⟨b, o, none⟩) hb; have hfw3 : ∀ b o, b < _ → w3.frozen? ⟨b, o, none⟩ = _ := fun b o hb => Below.frozen hgw3 (p := ⟨b, o, none⟩) hb; have hzw3 := Below.size hgw3; (try simp at hzw3)
              have HB3 : Hid (Below w.heap.size w w3) := HBR.out.trans ((HB1.out.trans (hgw3.mono (by omega))).mono (by omega))
              have HK3 := Lib.hid (HK1.out.below hgw3 hs1)
              have HKW3 := Lib.hid (HKW1.out.below hgw3 hsz1)
              have HBX3 : Hid (Below W.heap.size W w3) := HBX.out.trans ((HB1.out.trans (hgw3.mono (by omega))).mono (HBX.out.size))
              have hs3 := HK3.out.lt
              have hsz3 := HKW3.out.lt
              obtain ⟨m, hm⟩ : ∃ m : Nat, cs = m := ⟨cs.toNat, by omega⟩
              subst hm
              have HBS : Hid (p.bs k = m) := by show _ = _; rw [PressD.bs, HC.out]; rfl
              have hm1 : m < 1024 := by omega
              rw [HSP.out, ← HIN.out, Bool.true_and, Bool.and_true, HBS.out] at HF
              clear hgw3 hcw3 hfw3 H0 H1 H2 HK1 HB1 hs1 HKW1 yb0 yb1 yb2 yb3 yb4 hsz1 z0 z1 z2 xb0 xb1 xb2 xb3 xb4 HBX HKR hsz HBR hbl
              go_wp2
              go_loopw [7] (fun i wr => ∃ j : Nat, j ≤ k ∧ i = .int .i64 j ∧ Hid (∀ i, i < j → p.bs i &&& m = 0) ∧ Below w3.heap.size w3 wr) (fun i _ => k - (intOf i).toNat)
              case atStart => exact ⟨0, Nat.zero_le _, rfl, show ∀ i, _ → _ from fun i hi => by omega, Below.refl _ _⟩
              case round =>
                obtain ⟨j, hj, rfl, HA, hb⟩ := hrel
                have HBY := Lib.hid hb
                clear hb
                have HKY := Lib.hid (HK3.out.below HBY.out hs3)
                have HKZ := Lib.hid (HKW3.out.below HBY.out hsz3)
                have z0 := HKY.out.cell 0
                have yb4 := HKZ.out.cell 4
                simp at z0 yb4
                have hly := HKY.out.lt
                have hlz := HKZ.out.lt
                have HBZ : Hid (Below w.heap.size w wr) := HB3.out.trans (HBY.out.mono HB3.out.size)
                by_cases hjk : j < k
                · obtain ⟨c, hc⟩ : ∃ c, p.weighed[j]? = some c := ⟨p.weighed[j]'(by omega), by simp⟩
                  obtain ⟨b', off', hwa', hbl, H0, _, _⟩ := rd_ba ((HP.out.grow HBZ.out).hwl) j c hc
                  injection hwa' with hwa'
                  injection hwa' with e1 e2
                  subst e1 e2
                  have hbj : p.ba j = c := by simp [PressD.ba, hc]
                  obtain ⟨cs', ⟨c0', c1'⟩⟩ := c
                  simp only at H0
                  have hbb : p.baB j = true := List.all_eq_true.1 HT.out j (by simpa using hjk)
                  have hset := (baB_set hbb).1
                  have hlt' := (baB_set hbb).2
                  rw [hbj] at hset
                  simp only at hset
                  subst hset
                  have hmj : p.bs j < 1024 := by
                    have h2 : full p.n ≤ 1023 := by
                      unfold full
                      have h := Nat.pow_le_pow_right (n := 2) (by omega) (show p.n ≤ 10 by rw [hn]; exact h1)
                      omega
                    omega
                  obtain ⟨q, hq⟩ : ∃ q, p.bs j = q := ⟨_, rfl⟩
                  rw [hq] at H0 hmj
                  have HQ := Lib.hid hq
                  clear hbj hbb hlt' hc hq
                  have hjw : (j : Int) < wl := by omega
                  cases hap : (m &&& q == 0)
                  · have HN : Hid (p.ok = false) := by
                      refine ok_no_ba hkw ?_
                      rw [HF.out, beq_eq_false_iff_ne]
                      intro h0
                      have := (used_and p m k).1 h0 j hjk
                      rw [HQ.out, Nat.and_comm] at this
                      rw [this] at hap
                      cases hap
                    have HAP := Lib.hid hap
                    clear hap
                    go_wp2
                    refine wp_region_havoc [(0,false),(1,false),(2,false),(3,false),(4,false),(5,false),(6,false),(7,false),(8,false),(9,false)] [] (fun _ _ => False) (by kernel_rfl) (by kernel_rfl) (fun _ _ _ _ h => h.elim) ?_
                    (apply hav_same (by simp only [List.getElem?_toArray, List.getElem?_cons_zero]; rfl) (by kernel_rfl); (focus (intro wv hgv _; have hcv : ∀ b o, b < _ → wv.cell? ⟨b, o, none⟩ = _ := fun b o hb => Below.cell hgv (p := ⟨b, o, none⟩) hb; (try go_simp); try rfl; done)); simp only [Act.put, List.setIfInBounds_toArray, List.set_cons_succ, List.set_cons_zero])
                    iterate 7 (apply hav_same (by simp only [List.getElem?_toArray, List.getElem?_cons_succ, List.getElem?_cons_zero]; rfl) (by kernel_rfl); (focus (intro wv hgv _; have hcv : ∀ b o, b < _ → wv.cell? ⟨b, o, none⟩ = _ := fun b o hb => Below.cell hgv (p := ⟨b, o, none⟩) hb; (try go_simp); try rfl; done)); simp only [Act.put, List.setIfInBounds_toArray, List.set_cons_succ, List.set_cons_zero])
                    (apply hav_call (by simp only [List.getElem?_toArray, List.getElem?_cons_succ, List.getElem?_cons_zero]; rfl) (by kernel_rfl); (focus (intro wv; go_simp; try exact ⟨rfl, rfl⟩; done)); (focus (intro wv hgv _; have hq := apart_any m q hm1 hmj wv; rw [HAP.out] at hq; exact hq.mono fun e w' h => ⟨h.1, by rw [h.2]; exact Below.refl _ _⟩; done)); simp only [Act.put, List.setIfInBounds_toArray, List.set_cons_succ, List.set_cons_zero])
                    (apply hav_same (by simp only [List.getElem?_toArray, List.getElem?_cons_succ, List.getElem?_cons_zero]; rfl) (by kernel_rfl); (focus (intro wv hgv _; have hcv : ∀ b o, b < _ → wv.cell? ⟨b, o, none⟩ = _ := fun b o hb => Below.cell hgv (p := ⟨b, o, none⟩) hb; (try go_simp); try rfl; done)); simp only [Act.put, List.setIfInBounds_toArray, List.set_cons_succ, List.set_cons_zero])
                    refine hav_end (fun w5 hgw5 _ => ?_); simp only [List.filterMap]; have hcw5 : ∀ b o, b < _ → w5.cell? ⟨b, o, none⟩ = _ := fun b o hb => Below.cell hgw5 (p := ⟨b, o, none⟩) hb; have hfw5 : ∀ b o, b < _ → w5.frozen? ⟨b, o, none⟩ = _ := fun b o hb => Below.frozen hgw5 (p := ⟨b, o, none⟩) hb; have hzw5 := Below.size hgw5; (try simp at hzw5)
                    have HB5 : Hid (Below w.heap.size w w5) := HBZ.out.trans (hgw5.mono HBZ.out.size)
                    have HBY5 : Hid (Below w3.heap.size w3 w5) := HBY.out.trans (hgw5.mono HBY.out.size)
                    clear hgw5 hcw5 hfw5
                    go_wp2
                    go_ret
                    exact ⟨ret_bool HN.out.symm, HB5.out⟩
                  · have HN : Hid (∀ i, i < j + 1 → p.bs i &&& m = 0) := show ∀ i, _ → _ from fun i hi => by
                      by_cases e : i = j
                      · subst e
                        rw [HQ.out, Nat.and_comm]
                        exact beq_iff_eq.1 hap
                      · exact HA.out i (by omega)
                    have HAP := Lib.hid hap
                    clear hap
                    go_wp2
                    refine wp_region_havoc [(0,false),(1,false),(2,false),(3,false),(4,false),(5,false),(6,false),(7,false),(8,false),(9,false)] [] (fun _ _ => False) (by kernel_rfl) (by kernel_rfl) (fun _ _ _ _ h => h.elim) ?_
                    (apply hav_same (by simp only [List.getElem?_toArray, List.getElem?_cons_zero]; rfl) (by kernel_rfl); (focus (intro wv hgv _; have hcv : ∀ b o, b < _ → wv.cell? ⟨b, o, none⟩ = _ := fun b o hb => Below.cell hgv (p := ⟨b, o, none⟩) hb; (try go_simp); try rfl; done)); simp only [Act.put, List.setIfInBounds_toArray, List.set_cons_succ, List.set_cons_zero])
                    iterate 7 (apply hav_same (by simp only [List.getElem?_toArray, List.getElem?_cons_succ, List.getElem?_cons_zero]; rfl) (by kernel_rfl); (focus (intro wv hgv _; have hcv : ∀ b o, b < _ → wv.cell? ⟨b, o, none⟩ = _ := fun b o hb => Below.cell hgv (p := ⟨b, o, none⟩) hb; (try go_simp); try rfl; done)); simp only [Act.put, List.setIfInBounds_toArray, List.set_cons_succ, List.set_cons_zero])
                    (apply hav_call (by simp only [List.getElem?_toArray, List.getElem?_cons_succ, List.getElem?_cons_zero]; rfl) (by kernel_rfl); (focus (intro wv; go_simp; try exact ⟨rfl, rfl⟩; done)); (focus (intro wv hgv _; have hq := apart_any m q hm1 hmj wv; rw [HAP.out] at hq; exact hq.mono fun e w' h => ⟨h.1, by rw [h.2]; exact Below.refl _ _⟩; done)); simp only [Act.put, List.setIfInBounds_toArray, List.set_cons_succ, List.set_cons_zero])
                    (apply hav_same (by simp only [List.getElem?_toArray, List.getElem?_cons_succ, List.getElem?_cons_zero]; rfl) (by kernel_rfl); (focus (intro wv hgv _; have hcv : ∀ b o, b < _ → wv.cell? ⟨b, o, none⟩ = _ := fun b o hb => Below.cell hgv (p := ⟨b, o, none⟩) hb; (try go_simp); try rfl; done)); simp only [Act.put, List.setIfInBounds_toArray, List.set_cons_succ, List.set_cons_zero])
                    refine hav_end (fun w5 hgw5 _ => ?_); simp only [List.filterMap]; have hcw5 : ∀ b o, b < _ → w5.cell? ⟨b, o, none⟩ = _ := fun b o hb => Below.cell hgw5 (p := ⟨b, o, none⟩) hb; have hfw5 : ∀ b o, b < _ → w5.frozen? ⟨b, o, none⟩ = _ := fun b o hb => Below.frozen hgw5 (p := ⟨b, o, none⟩) hb; have hzw5 := Below.size hgw5; (try simp at hzw5)
                    have HB5 : Hid (Below w.heap.size w w5) := HBZ.out.trans (hgw5.mono HBZ.out.size)
                    have HBY5 : Hid (Below w3.heap.size w3 w5) := HBY.out.trans (hgw5.mono HBY.out.size)
                    clear hgw5 hcw5 hfw5
                    go_wp2
                    go_roundw
                    case rel => exact ⟨j + 1, by omega, by go_num, HN, HBY5.out⟩
                    case measure => simp [intOf]; omega
                · obtain rfl : k = j := by omega
                  have HN : Hid ((List.range (k + 1)).all p.baB = true) := range_all HT.out (by rw [HF.out, beq_iff_eq]; exact (used_and p m k).2 HA.out)
                  have HBQ : Hid (Below W.heap.size W wr) := HBX3.out.trans (HBY.out.mono HBX3.out.size)
                  go_wp2
                  go_roundw
                  case rel => exact ⟨k + 1, by omega, by go_num, HN, HBQ.out⟩
                  case measure => simp [intOf]; omega
        · obtain rfl : wl = k := by omega
          have HN : Hid (p.ok = true) := by
            show _ = _
            have h := HT.out
            rw [← HEW.out] at h
            simp only [PressD.ok, Bool.and_eq_true]
            exact ⟨⟨HHD.out, HFL.out⟩, h⟩
          go_wp2
          go_ret
          exact ⟨ret_bool HN.out.symm, HBR.out⟩
end
end Go.Proofs.Ytbfjebglaimcmaa
