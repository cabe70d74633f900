/- The walks of the reference's wrong, check, Of, fits; conditions: the press is valid, and has few fleeces. -/
import Derived.Test.YtbfjebglaimcmaaRefI
namespace Go.Proofs.Ytbfjebglaimcmaa
open Go.RowKit Go.Hav
section
variable {low top bales : Int} {fa wa : Option Addr} {fl fc wl wc : Nat} {p : PressD}
set_option maxRecDepth 100000 in
set_option maxHeartbeats 6400000 in
theorem rwrong_any (hv : p.ok = true) (h7 : p.n ≤ 7) (w : World) (hP : PressIn w w.heap.size fa fl low top bales wa wl p) :
    Calls Try.prog 72 #[pressV fa fl fc low top bales wa wl wc] w fun e w' => e = .returned (.int .i64 (p.wrong : Nat)) ∧ Below w.heap.size w w' := by
  have HP := Lib.hid hP
  have HV := Lib.hid hv
  have HEN : Hid (p.n = fl) := hP.efl
  have HEW : Hid (p.weighed.length = wl) := hP.ewl
  have hwl4 : wl ≤ 4 := by have := (PressD.ok_head hv).2.2.2.2.2.2; rw [HEW.out] at this; exact this
  have H7 := Lib.hid h7
  obtain ⟨F, HF⟩ : ∃ F, Hid (p.wrong = F) := ⟨_, rfl⟩
  rw [HF.out]
  clear hP hv h7
  unfold pressV
  go_enter Try.func72, Try.ntmps72
  go_wp2
  obtain ⟨W, hW⟩ : ∃ W, W = w.alloc (Obj.cells #[Value.slice fa fl fc, Value.int IntKind.i64 low, Value.int IntKind.i64 top, Value.int IntKind.i64 bales, Value.slice wa wl wc] 25) := ⟨_, rfl⟩
  have HX : Hid (Blk W w.heap.size 25 #[Value.slice fa fl fc, Value.int IntKind.i64 low, Value.int IntKind.i64 top, Value.int IntKind.i64 bales, Value.slice wa wl wc]) := by rw [hW]; exact Blk.new w 25 _
  have HBW : Hid (Below w.heap.size w W) := by rw [hW]; exact (Below.refl _ _).alloc (Nat.le_refl _) _
  rw [← hW]
  clear hW
  go_loopw [3, 4] (fun ov i wr => ∃ k f : Nat, k ≤ wl ∧ i = .int .i64 k ∧ ov = .int .i64 f ∧ Hid (p.wrongF k = f) ∧ f < 16 ∧ Below W.heap.size W wr) (fun _ i _ => wl - (intOf i).toNat)
  case atStart => exact ⟨0, 0, Nat.zero_le _, rfl, rfl, rfl, by omega, Below.refl _ _⟩
  case round =>
    obtain ⟨k, f, hk, rfl, rfl, HFK, hf, hb⟩ := hrel
    have HB := Lib.hid hb
    clear hb
    obtain ⟨x0, x1, x2, x3, x4, xl⟩ := blk5 (HX.out.below HB.out HX.out.lt)
    by_cases hlt : k < wl
    · have hkw : k < p.weighed.length := by rw [HEW.out]; exact hlt
      obtain ⟨⟨q, ⟨l, h⟩⟩, hc⟩ : ∃ c, p.weighed[k]? = some c := ⟨_, List.getElem?_eq_getElem hkw⟩
      have hba : p.ba k = ⟨q, ⟨l, h⟩⟩ := by unfold PressD.ba; rw [hc]; rfl
      obtain ⟨g1, -⟩ := PressD.ok_ba HV.out hkw
      rw [hba] at g1
      simp only at g1
      have HPR : Hid (PressIn wr wr.heap.size fa fl low top bales wa wl p) := (HP.out.grow HBW.out).grow HB.out
      obtain ⟨⟨u0, u1⟩, HU⟩ : ∃ v, Hid (p.partR 0 k = v) := ⟨_, rfl⟩
      obtain ⟨wb, hwb⟩ : ∃ v, p.wrongB k = v := ⟨_, rfl⟩
      have HPA : Hid (∀ wv, Below wr.heap.size wr wv → Calls Try.prog 110 #[.agg #[.slice fa fl fc, .int .i64 low, .int .i64 top, .int .i64 bales, .slice wa wl wc], .agg #[.int .i64 q, .int .i64 l, .int .i64 h], .int .i64 0] wv fun e w' => e = .returned (.tuple #[.agg #[.int .i64 u0, .int .i64 u1], .bool (!wb)]) ∧ Below wv.heap.size wv w') := by
        intro wv hb
        have h := part_any (fc := fc) (wc := wc) HV.out H7.out hkw 0 (by omega) wv (HPR.out.grow hb)
        rw [HU.out, hwb, hba, ← g1] at h
        exact h
      obtain ⟨b, off, rfl, hbl, H0, H1, H2⟩ := rd_ba HPR.out.hwl k _ hc
      have hbw : b < wr.heap.size := hbl
      simp only at H0 H1 H2
      have hFN : Hid (p.wrongF (k + 1) = if wb = true then f + 2 ^ k else f) := by
        show _ = _
        rw [← hwb, ← HFK.out]
        split
        · rename_i hw; exact PressD.wrongF_next k hw (by omega)
        · rename_i hw; rw [PressD.wrongF, if_neg hw]
      have hFL : p.wrongF (k + 1) < 16 := by
        have h1 := PressD.wrongF_lt p (k + 1)
        have h2 := Nat.pow_le_pow_right (n := 2) (by omega) (show k + 1 ≤ 4 by omega)
        omega
      clear hc hba hbl hkw hwb g1
      go_upto_region 5 with fail
      refine HavG.wp_region_havoc (R := GT wr.heap.size 29 (.int .i64 u0) (.int .i64 u1)) [(0,false),(1,false),(2,false),(3,false),(4,false),(5,false),(6,false),(7,false),(8,false),(9,false),(10,true),(11,true),(12,false)] [] (fun _ _ => False) (by kernel_rfl) (by kernel_rfl) (fun _ _ _ _ h => h.elim) ?_
      (apply HavG.hav_same (by simp only [List.getElem?_toArray, List.getElem?_cons_zero]; rfl) (by kernel_rfl); (focus (intro wv hgv _; have hcv : ∀ b o, b < _ → wv.cell? ⟨b, o, none⟩ = _ := fun b o hb => Below.cell hgv.1 (p := ⟨b, o, none⟩) hb; (try go_simp); try rfl; done)); simp only [Act.put, List.setIfInBounds_toArray, List.set_cons_succ, List.set_cons_zero])
      iterate 5 (apply HavG.hav_same (by simp only [List.getElem?_toArray, List.getElem?_cons_succ, List.getElem?_cons_zero]; rfl) (by kernel_rfl); (focus (intro wv hgv _; have hcv : ∀ b o, b < _ → wv.cell? ⟨b, o, none⟩ = _ := fun b o hb => Below.cell hgv.1 (p := ⟨b, o, none⟩) hb; (try go_simp); try rfl; done)); simp only [Act.put, List.setIfInBounds_toArray, List.set_cons_succ, List.set_cons_zero])
      (apply HavG.hav_call (by simp only [List.getElem?_toArray, List.getElem?_cons_succ, List.getElem?_cons_zero]; rfl) (by kernel_rfl); (focus (intro wv; go_simp; try exact ⟨rfl, rfl⟩; done)); (focus (intro wv hgv _; exact (HPA.out wv hgv.1).mono fun e w' h => ⟨h.1, GT.below hgv.1.size h.2⟩; done)); simp only [Act.put, List.setIfInBounds_toArray, List.set_cons_succ, List.set_cons_zero])
      iterate 3 (apply HavG.hav_same (by simp only [List.getElem?_toArray, List.getElem?_cons_succ, List.getElem?_cons_zero]; rfl) (by kernel_rfl); (focus (intro wv hgv _; have hcv : ∀ b o, b < _ → wv.cell? ⟨b, o, none⟩ = _ := fun b o hb => Below.cell hgv.1 (p := ⟨b, o, none⟩) hb; (try go_simp); try rfl; done)); simp only [Act.put, List.setIfInBounds_toArray, List.set_cons_succ, List.set_cons_zero])
      refine HavG.hav_val_ghost (PlaceT wr.heap.size 29) (by simp only [List.getElem?_toArray, List.getElem?_cons_succ, List.getElem?_cons_zero]; rfl) (by kernel_rfl) (fun v w w' h hG => h.stable hG) ?_ (fun v => ?_)
      · intro wv hgv _
        refine ⟨.pointer (some ⟨wv.heap.size, 0, none⟩), wv.alloc (.cells #[.int .i64 0, .int .i64 0] 29), ?_, GT.below hgv.1.size ((Below.refl _ _).alloc (Nat.le_refl _) _), wv.heap.size, rfl, hgv.1.size, _, _, Blk.new wv 29 _⟩
        go_simp
        try rfl
      simp only [Act.put, List.setIfInBounds_toArray, List.set_cons_succ, List.set_cons_zero]
      refine HavG.hav_store (StoredT wr.heap.size 29 (.int .i64 u0) (.int .i64 u1) v) (by simp only [List.getElem?_toArray, List.getElem?_cons_succ, List.getElem?_cons_zero]; rfl) (by kernel_rfl) rfl (fun w w' h hG => h.stable hG) ?_ ?_
      · rintro wv hgv ⟨_, g, rfl, hgB, a, b, hk⟩
        have hs := GT.set (s0 := .int .i64 u0) (s1 := .int .i64 u1) hgB hk
        have c0 := hk.cell 0
        have c1 := hk.cell 1
        have f0 := hk.frozen 0
        have f1 := hk.frozen 1
        have lg := hk.lt
        simp at c0 c1
        refine ⟨_, ?_, hs.1, g, rfl, hgB, hs.2⟩
        go_simp
        try rfl
      (apply HavG.hav_same (by simp only [List.getElem?_toArray, List.getElem?_cons_succ, List.getElem?_cons_zero]; rfl) (by kernel_rfl); (focus (intro wv hgv _; have hcv : ∀ b o, b < _ → wv.cell? ⟨b, o, none⟩ = _ := fun b o hb => Below.cell hgv.1 (p := ⟨b, o, none⟩) hb; (try go_simp); try rfl; done)); simp only [Act.put, List.setIfInBounds_toArray, List.set_cons_succ, List.set_cons_zero])
      refine HavG.hav_end (fun v5 hg5 hF => ?_)
      simp only [List.filterMap]
      obtain ⟨⟨_, _⟩, g5, rfl, hgB5, hk5⟩ := hF
      have HB5 : Hid (Below W.heap.size W v5) := HB.out.trans (hg5.1.mono HB.out.size)
      clear hg5 hk5 hgB5 H0 H1 H2 x0 x1 x2 x3 x4 xl
      cases wb
      · have HFN : Hid (p.wrongF (k + 1) = f) := by show _ = _; rw [hFN.out, if_neg (by decide)]
        clear hFN hFL
        go_wp2
        go_roundw
        case rel => exact ⟨k + 1, f, by omega, by go_num, rfl, HFN, hf, HB5.out⟩
        case measure => simp [intOf]; omega
      · have hfn : p.wrongF (k + 1) = f + 2 ^ k := by rw [hFN.out, if_pos rfl]
        rw [hfn] at hFL
        have HFN := Lib.hid hfn
        obtain ⟨z, hz⟩ : ∃ z, f + 2 ^ k = z := ⟨_, rfl⟩
        have hzi : (f : Int) + 2 ^ k = (z : Int) := by rw [← hz]; simp
        rw [hz] at hFL HFN
        have HZI := Lib.hid hzi
        have hpk : (2 : Int) ^ k ≤ 16 := by have := pow_cast k; omega
        have hpk0 : (0 : Int) ≤ 2 ^ k := Int.pow_nonneg (by omega)
        clear hfn hFN hz hzi
        go_wp2_with fail
        refine (power_any k (by omega) _).mono ?_
        rintro e w6 ⟨rfl, rfl⟩
        go_wp2
        go_roundw
        case rel => exact ⟨k + 1, z, by omega, by go_num, by rw [HZI.out], HFN, hFL, HB5.out⟩
        case measure => simp [intOf]; omega
    · obtain rfl : wl = k := by omega
      have HE2 : Hid (f = F) := by show _ = _; rw [← HFK.out, ← HF.out, PressD.wrong, HEW.out]
      go_wp2
      go_ret
      exact ⟨ret_int (by rw [HE2.out]), HBW.out.trans (HB.out.mono HBW.out.size)⟩
/-- The error of a press, and of what else is asked. -/
def chkE (p : PressD) (b : Bool) : Int := if p.ok = false then 1 else if b = false then 2 else if p.wrong = 0 then 0 else 10
theorem chkE_set (p : PressD) (n : Int) : chkE p (p.setB n) = setE p n := rfl
set_option maxRecDepth 100000 in
set_option maxHeartbeats 1600000 in
theorem check_any (h7 : p.ok = true → p.n ≤ 7) (b : Bool) (w : World) (hP : PressIn w w.heap.size fa fl low top bales wa wl p) :
    Calls Try.prog 60 #[pressV fa fl fc low top bales wa wl wc, .bool b] w fun e w' => e = .returned (.int .i64 (chkE p b)) ∧ Below w.heap.size w w' := by
  have HP := Lib.hid hP
  have H7 := Lib.hid h7
  obtain ⟨E, hE⟩ : ∃ E, chkE p b = E := ⟨_, rfl⟩
  rw [hE]
  have HE := Lib.hid hE
  clear hP h7 hE
  unfold pressV
  go_enter Try.func60, Try.ntmps60
  go_wp2_with fail
  have HBA : Hid (Below w.heap.size w (w.alloc (Obj.cells #[Value.slice fa fl fc, Value.int IntKind.i64 low, Value.int IntKind.i64 top, Value.int IntKind.i64 bales, Value.slice wa wl wc] 25))) := (Below.refl _ _).alloc (Nat.le_refl _) _
  refine (rpress_any (p := p) _ (by exact HP.out.grow HBA.out)).mono ?_
  rintro e w1 ⟨rfl, hb1⟩
  have HX : Hid (Blk w1 w.heap.size 25 #[Value.slice fa fl fc, Value.int IntKind.i64 low, Value.int IntKind.i64 top, Value.int IntKind.i64 bales, Value.slice wa wl wc]) := (Blk.new w 25 _).below hb1 (by simp)
  have HB1 : Hid (Below w.heap.size w w1) := HBA.out.trans (hb1.mono (by simp))
  clear hb1
  obtain ⟨x0, x1, x2, x3, x4, xl⟩ := blk5 HX.out
  cases hv : p.ok
  · have HE1 : Hid (E = 1) := by show _ = _; rw [← HE.out, chkE, if_pos hv]
    clear hv
    go_wp2
    go_ret
    exact ⟨ret_int HE1.out.symm, HB1.out⟩
  · have HV := Lib.hid hv
    clear hv
    cases b
    · have HE1 : Hid (E = 2) := by show _ = _; rw [← HE.out, chkE, if_neg (by rw [HV.out]; simp), if_pos rfl]
      go_wp2
      go_ret
      exact ⟨ret_int HE1.out.symm, HB1.out⟩
    · go_wp2_with fail
      refine (rwrong_any (p := p) HV.out (H7.out HV.out) _ (by exact HP.out.grow HB1.out)).mono ?_
      rintro e w2 ⟨rfl, hb2⟩
      have HB2 : Hid (Below w.heap.size w w2) := HB1.out.trans (hb2.mono HB1.out.size)
      clear hb2
      by_cases hw : p.wrong = 0
      · have HE1 : Hid (E = 0) := by show _ = _; rw [← HE.out, chkE, if_neg (by rw [HV.out]; simp), if_neg (by simp), if_pos hw]
        rw [hw]
        clear hw
        go_wp2
        go_ret
        exact ⟨ret_int HE1.out.symm, HB2.out⟩
      · have HE1 : Hid (E = 10) := by show _ = _; rw [← HE.out, chkE, if_neg (by rw [HV.out]; simp), if_neg (by simp), if_neg hw]
        have hne : ((p.wrong : Int) != 0) = true := by simp; omega
        go_wp2
        go_ret
        exact ⟨ret_int HE1.out.symm, HB2.out⟩
/-- What the first i fleeces weigh that are in no bale that was weighed. -/
def baseK (p : PressD) (s i : Nat) : Sp := ⟨sb (fun i => (p.fw i).lo) (p.rest s p.weighed.length) i, sb (fun i => (p.fw i).hi) (p.rest s p.weighed.length) i⟩
set_option maxRecDepth 100000 in
set_option maxHeartbeats 6400000 in
theorem of_any (hv : p.ok = true) (hw : p.wrong = 0) (h7 : p.n ≤ 7) (s : Nat) (hs : s < 2 ^ p.n) (w : World) (hP : PressIn w w.heap.size fa fl low top bales wa wl p) :
    Calls Try.prog 62 #[pressV fa fl fc low top bales wa wl wc, .int .i64 s] w fun e w' => e = .returned (spV (p.weight s)) ∧ Below w.heap.size w w' := by
  have HP := Lib.hid hP
  have HV := Lib.hid hv
  have HWR := Lib.hid hw
  have HEN : Hid (p.n = fl) := hP.efl
  have HEW : Hid (p.weighed.length = wl) := hP.ewl
  have hn10 : fl ≤ 10 := by have := (PressD.ok_head hv).1; rw [HEN.out] at this; exact this
  have hwl4 : wl ≤ 4 := by have := (PressD.ok_head hv).2.2.2.2.2.2; rw [HEW.out] at this; exact this
  have H7 := Lib.hid h7
  have HS := Lib.hid hs
  have hs10 : s < 1024 := Nat.lt_of_lt_of_le hs (PressD.n_pow hv)
  obtain ⟨⟨u0, u1⟩, HU⟩ : ∃ v, Hid (p.weight s = v) := ⟨_, rfl⟩
  rw [HU.out]
  clear hP hv h7 hw hs
  unfold pressV spV
  go_enter Try.func62, Try.ntmps62
  go_wp2
  obtain ⟨W, hW⟩ : ∃ W, W = ((w.alloc (Obj.cells #[Value.slice fa fl fc, Value.int IntKind.i64 low, Value.int IntKind.i64 top, Value.int IntKind.i64 bales, Value.slice wa wl wc] 25)).alloc (Obj.cells #[Value.int IntKind.i64 0, Value.int IntKind.i64 0] 29)).alloc (Obj.cells #[Value.int IntKind.i64 0, Value.int IntKind.i64 0] 29) := ⟨_, rfl⟩
  have HK2 : Hid (Blk W w.heap.size 25 #[Value.slice fa fl fc, Value.int IntKind.i64 low, Value.int IntKind.i64 top, Value.int IntKind.i64 bales, Value.slice wa wl wc]) := by rw [hW]; exact ((Blk.new w 25 _).alloc _).alloc _
  have HK4 : Hid (Blk W (w.heap.size + 1) 29 #[.int .i64 0, .int .i64 0]) := by rw [hW]; exact (Blk.new_ (by simp) 29 _).alloc _
  have HK5 : Hid (Blk W (w.heap.size + 1 + 1) 29 #[.int .i64 0, .int .i64 0]) := by rw [hW]; exact Blk.new_ (by simp) 29 _
  have HBW : Hid (Below w.heap.size w W) := by rw [hW]; exact (((Below.refl _ _).alloc (Nat.le_refl _) _).alloc (by simp) _).alloc (by simp; omega) _
  rw [← hW]
  clear hW
  obtain ⟨R, HR⟩ : ∃ R, Hid (p.rest s p.weighed.length = R) := ⟨_, rfl⟩
  obtain ⟨F, HF⟩ : ∃ F, Hid (p.freeK p.weighed.length = F) := ⟨_, rfl⟩
  have hF10 : F < 1024 := by rw [← HF.out]; exact Nat.lt_of_lt_of_le (PressD.freeK_lt _) (PressD.n_pow HV.out)
  have HRF : Hid (∀ i, R.testBit i = (s.testBit i && F.testBit i)) := fun i => by rw [← HR.out, ← HF.out]; exact PressD.rest_cut_free s HS.out _ i
  go_loopw [6] (fun i wr => ∃ (k : Nat) (o0 o1 : Int), k ≤ fl ∧ i = .int .i64 k ∧ Hid (sb (fun i => (p.fw i).lo) R k = o0 ∧ sb (fun i => (p.fw i).hi) R k = o1) ∧ 0 ≤ o0 ∧ o0 ≤ 20 * k ∧ 0 ≤ o1 ∧ o1 ≤ 20 * k ∧ Blk wr w.heap.size 25 #[Value.slice fa fl fc, Value.int IntKind.i64 low, Value.int IntKind.i64 top, Value.int IntKind.i64 bales, Value.slice wa wl wc] ∧ Blk wr (w.heap.size + 1) 29 #[.int .i64 0, .int .i64 0] ∧ Blk wr (w.heap.size + 1 + 1) 29 #[.int .i64 o0, .int .i64 o1] ∧ Below w.heap.size w wr) (fun i _ => fl - (intOf i).toNat)
  case atStart => exact ⟨0, 0, 0, Nat.zero_le _, rfl, ⟨rfl, rfl⟩, by omega, by omega, by omega, by omega, HK2.out, HK4.out, HK5.out, HBW.out⟩
  case round =>
    clear HK2 HK4 HK5 HBW
    obtain ⟨k, o0, o1, hk, rfl, HO, h1, h2, h3, h4, hk2, hk4, hk5, hb⟩ := hrel
    have HK2 := Lib.hid hk2
    have HK4 := Lib.hid hk4
    have HK5 := Lib.hid hk5
    have HB := Lib.hid hb
    have hs1 : w.heap.size + 1 + 1 < wr.heap.size := hk5.lt
    clear hk2 hk4 hk5 hb
    obtain ⟨x0, x1, x2, x3, x4, xl⟩ := blk5 HK2.out
    by_cases hlt : k < fl
    · have HRK := Lib.hid (HRF.out k)
      go_wp2_with fail
      refine (has_any s k (by omega) (by omega) _).mono ?_
      cases hbit : s.testBit k
      · have HO2 : Hid (sb (fun i => (p.fw i).lo) R (k + 1) = o0 ∧ sb (fun i => (p.fw i).hi) R (k + 1) = o1) := by
          have hr : ¬ R.testBit k = true := by rw [HRK.out, hbit]; simp
          exact ⟨by rw [sb, HO.out.1, if_neg hr]; omega, by rw [sb, HO.out.2, if_neg hr]; omega⟩
        clear hbit
        rintro e w5 ⟨rfl, rfl⟩
        go_wp2
        go_roundw
        case rel => exact ⟨k + 1, o0, o1, by omega, by go_num, HO2, by omega, by omega, by omega, by omega, HK2.out, HK4.out, HK5.out, HB.out⟩
        case measure => simp [intOf]; omega
      · rintro e w5 ⟨rfl, rfl⟩
        go_wp2_with fail
        refine (free_any (p := p) HV.out _ (by exact HP.out.grow HB.out)).mono ?_
        rw [HF.out]
        rintro e w6 ⟨rfl, hb6⟩
        have HQ2 := Lib.hid (HK2.out.below hb6 xl)
        have HQ4 := Lib.hid (HK4.out.below hb6 HK4.out.lt)
        have HQ5 := Lib.hid (HK5.out.below hb6 HK5.out.lt)
        have HB6 : Hid (Below w.heap.size w w6) := HB.out.trans (hb6.mono HB.out.size)
        have hs6 : w.heap.size + 1 + 1 < w6.heap.size := HQ5.out.lt
        clear hb6 x0 x1 x2 x3 x4 xl
        obtain ⟨x0, x1, x2, x3, x4, xl⟩ := blk5 HQ2.out
        go_wp2_with fail
        refine (has_any F k (by omega) (by omega) _).mono ?_
        cases hfb : F.testBit k
        · have HO2 : Hid (sb (fun i => (p.fw i).lo) R (k + 1) = o0 ∧ sb (fun i => (p.fw i).hi) R (k + 1) = o1) := by
            have hr : ¬ R.testBit k = true := by rw [HRK.out, hbit, hfb]; simp
            exact ⟨by rw [sb, HO.out.1, if_neg hr]; omega, by rw [sb, HO.out.2, if_neg hr]; omega⟩
          clear hbit hfb
          rintro e w7 ⟨rfl, rfl⟩
          go_wp2
          go_roundw
          case rel => exact ⟨k + 1, o0, o1, by omega, by go_num, HO2, by omega, by omega, by omega, by omega, HQ2.out, HQ4.out, HQ5.out, HB6.out⟩
          case measure => simp [intOf]; omega
        · obtain ⟨⟨⟨c0, c1⟩, cl⟩, hc⟩ : ∃ c, p.fl[k]? = some c := ⟨_, List.getElem?_eq_getElem (by have := HEN.out; unfold PressD.n at this; omega)⟩
          have hfw := (fw_of hc).1
          have hbd := PressD.ok_fl HV.out (i := k) (by rw [HEN.out]; exact hlt)
          rw [hfw] at hbd
          obtain ⟨d0, d1, d2, -⟩ := hbd
          have HO2 : Hid (sb (fun i => (p.fw i).lo) R (k + 1) = o0 + c0 ∧ sb (fun i => (p.fw i).hi) R (k + 1) = o1 + c1) := by
            have hr : R.testBit k = true := by rw [HRK.out, hbit, hfb]; rfl
            exact ⟨by rw [sb, HO.out.1, if_pos hr, hfw], by rw [sb, HO.out.2, if_pos hr, hfw]⟩
          obtain ⟨b, off, rfl, hbl, H0, H1, -⟩ := rd_fl ((HP.out.grow HB6.out).hfl) k _ hc
          have hbw : b < w6.heap.size := hbl
          simp only at H0 H1 d0 d1 d2
          have y0 := HQ5.out.cell 0
          have y1 := HQ5.out.cell 1
          have yf0 := HQ5.out.frozen 0
          have yf1 := HQ5.out.frozen 1
          simp at y0 y1
          clear hbit hfb hfw hc hbl
          rintro e w7 ⟨rfl, rfl⟩
          go_wp2
          go_roundw
          case rel =>
            exact ⟨k + 1, o0 + c0, o1 + c1, by omega, by go_num, HO2, by omega, by omega, by omega, by omega,
              ((HQ2.out.far (p := ⟨w.heap.size + 1 + 1, 0, none⟩) (by show w.heap.size ≠ w.heap.size + 1 + 1; omega) _).far (p := ⟨w.heap.size + 1 + 1, 1, none⟩) (by show w.heap.size ≠ w.heap.size + 1 + 1; omega) _).alloc _,
              ((HQ4.out.far (p := ⟨w.heap.size + 1 + 1, 0, none⟩) (by show w.heap.size + 1 ≠ w.heap.size + 1 + 1; omega) _).far (p := ⟨w.heap.size + 1 + 1, 1, none⟩) (by show w.heap.size + 1 ≠ w.heap.size + 1 + 1; omega) _).alloc _,
              ((HQ5.out.set_ 0 (.int .i64 (o0 + c0))).set_ 1 (.int .i64 (o1 + c1))).alloc _,
              (setCell_below (setCell_below HB6.out (by omega) 0 _) (by omega) 1 _).alloc (by simp [World.setCell]; omega) _⟩
          case measure => simp [intOf]; omega
    · obtain rfl : fl = k := by omega
      have HBASE : Hid (p.bare (p.rest s p.weighed.length) = ⟨o0, o1⟩) := by show _ = _; rw [PressD.bare, HR.out, HEN.out, HO.out.1, HO.out.2]
      go_wp2
      obtain ⟨wo, rfl⟩ : ∃ wo : World, wo = wr := ⟨_, rfl⟩
      clear x0 x1 x2 x3 x4 xl
      go_loopw [8] (fun i wr => ∃ (k : Nat) (q0 q1 : Int), k ≤ wl ∧ i = .int .i64 k ∧ Hid (o0 + (p.wSum s k).lo = q0 ∧ o1 + (p.wSum s k).hi = q1) ∧ -10000 ≤ q0 ∧ q0 ≤ 10000 ∧ -10000 ≤ q1 ∧ q1 ≤ 10000 ∧ Blk wr w.heap.size 25 #[Value.slice fa fl fc, Value.int IntKind.i64 low, Value.int IntKind.i64 top, Value.int IntKind.i64 bales, Value.slice wa wl wc] ∧ Blk wr (w.heap.size + 1) 29 #[.int .i64 0, .int .i64 0] ∧ Blk wr (w.heap.size + 1 + 1) 29 #[.int .i64 q0, .int .i64 q1] ∧ Below w.heap.size w wr) (fun i _ => wl - (intOf i).toNat)
      case atStart => exact ⟨0, o0, o1, Nat.zero_le _, rfl, ⟨by simp [PressD.wSum], by simp [PressD.wSum]⟩, by omega, by omega, by omega, by omega, HK2.out, HK4.out, HK5.out, HB.out⟩
      case round =>
        clear HK2 HK4 HK5 HB hs1
        obtain ⟨k, q0, q1, hk, rfl, HQ, z1, z2, z3, z4, hk2, hk4, hk5, hb⟩ := hrel
        have HK2 := Lib.hid hk2
        have HK4 := Lib.hid hk4
        have HK5 := Lib.hid hk5
        have HB := Lib.hid hb
        have hs1 : w.heap.size + 1 + 1 < wr.heap.size := hk5.lt
        clear hk2 hk4 hk5 hb
        obtain ⟨x0, x1, x2, x3, x4, xl⟩ := blk5 HK2.out
        by_cases hlt : k < wl
        · have hkw : k < p.weighed.length := by rw [HEW.out]; exact hlt
          obtain ⟨⟨q, ⟨l, h⟩⟩, hc⟩ : ∃ c, p.weighed[k]? = some c := ⟨_, List.getElem?_eq_getElem hkw⟩
          have hba : p.ba k = ⟨q, ⟨l, h⟩⟩ := by unfold PressD.ba; rw [hc]; rfl
          obtain ⟨g1, -⟩ := PressD.ok_ba HV.out hkw
          rw [hba] at g1
          simp only at g1
          have HPR : Hid (PressIn wr wr.heap.size fa fl low top bales wa wl p) := HP.out.grow HB.out
          have hwk := (PressD.wrong_iff p).1 HWR.out k hkw
          obtain ⟨⟨u0, u1⟩, hu⟩ : ∃ v, p.part s k = v := ⟨_, rfl⟩
          have HU2 : Hid (p.partR s k = ⟨u0, u1⟩) := by show _ = _; rw [PressD.partR_eq HV.out hkw, if_neg (by rw [hwk]; simp), hu]
          have hub := PressD.part_bd HV.out s hkw
          have hwb := PressD.wSum_bd HV.out s (k := k + 1) (by omega)
          rw [hu] at hub
          obtain ⟨b1, b2, b3, b4⟩ := hub
          obtain ⟨b5, b6, b7, b8⟩ := hwb
          have hnx : o0 + (p.wSum s (k + 1)).lo = q0 + u0 ∧ o1 + (p.wSum s (k + 1)).hi = q1 + u1 := by
            rw [PressD.wSum, hu, plusS]
            have := HQ.out
            exact ⟨by simp only; omega, by simp only; omega⟩
          have HNX := Lib.hid hnx
          have bnd : -10000 ≤ q0 + u0 ∧ q0 + u0 ≤ 10000 ∧ -10000 ≤ q1 + u1 ∧ q1 + u1 ≤ 10000 := by
            have := hnx.1
            have := hnx.2
            have : fl ≤ 10 := hn10
            omega
          simp only at b1 b2 b3 b4
          have HPA : Hid (∀ wv, Below wr.heap.size wr wv → Calls Try.prog 110 #[.agg #[.slice fa fl fc, .int .i64 low, .int .i64 top, .int .i64 bales, .slice wa wl wc], .agg #[.int .i64 q, .int .i64 l, .int .i64 h], .int .i64 s] wv fun e w' => e = .returned (.tuple #[.agg #[.int .i64 u0, .int .i64 u1], .bool true]) ∧ Below wv.heap.size wv w') := by
            intro wv hb
            have h := part_any (fc := fc) (wc := wc) HV.out H7.out hkw s hs10 wv (HPR.out.grow hb)
            rw [HU2.out, hwk, hba, ← g1] at h
            exact h
          obtain ⟨b, off, rfl, hbl, H0, H1, H2⟩ := rd_ba HPR.out.hwl k _ hc
          have hbw : b < wr.heap.size := hbl
          simp only at H0 H1 H2
          clear hc hba hbl hkw g1 hu hwk hnx b5 b6 b7 b8
          go_upto_region 11 with fail
          refine HavG.wp_region_havoc (R := GT wr.heap.size 29 (.int .i64 u0) (.int .i64 u1)) [(0,false),(1,false),(2,false),(3,false),(4,false),(5,false),(6,false),(7,false),(8,false),(9,false),(10,false),(11,true),(12,true),(13,false)] [] (fun _ _ => False) (by kernel_rfl) (by kernel_rfl) (fun _ _ _ _ h => h.elim) ?_
          (apply HavG.hav_same (by simp only [List.getElem?_toArray, List.getElem?_cons_zero]; rfl) (by kernel_rfl); (focus (intro wv hgv _; have hcv : ∀ b o, b < _ → wv.cell? ⟨b, o, none⟩ = _ := fun b o hb => Below.cell hgv.1 (p := ⟨b, o, none⟩) hb; (try go_simp); try rfl; done)); simp only [Act.put, List.setIfInBounds_toArray, List.set_cons_succ, List.set_cons_zero])
          iterate 6 (apply HavG.hav_same (by simp only [List.getElem?_toArray, List.getElem?_cons_succ, List.getElem?_cons_zero]; rfl) (by kernel_rfl); (focus (intro wv hgv _; have hcv : ∀ b o, b < _ → wv.cell? ⟨b, o, none⟩ = _ := fun b o hb => Below.cell hgv.1 (p := ⟨b, o, none⟩) hb; (try go_simp); try rfl; done)); simp only [Act.put, List.setIfInBounds_toArray, List.set_cons_succ, List.set_cons_zero])
          (apply HavG.hav_call (by simp only [List.getElem?_toArray, List.getElem?_cons_succ, List.getElem?_cons_zero]; rfl) (by kernel_rfl); (focus (intro wv; go_simp; try exact ⟨rfl, rfl⟩; done)); (focus (intro wv hgv _; exact (HPA.out wv hgv.1).mono fun e w' h => ⟨h.1, GT.below hgv.1.size h.2⟩; done)); simp only [Act.put, List.setIfInBounds_toArray, List.set_cons_succ, List.set_cons_zero])
          iterate 3 (apply HavG.hav_same (by simp only [List.getElem?_toArray, List.getElem?_cons_succ, List.getElem?_cons_zero]; rfl) (by kernel_rfl); (focus (intro wv hgv _; have hcv : ∀ b o, b < _ → wv.cell? ⟨b, o, none⟩ = _ := fun b o hb => Below.cell hgv.1 (p := ⟨b, o, none⟩) hb; (try go_simp); try rfl; done)); simp only [Act.put, List.setIfInBounds_toArray, List.set_cons_succ, List.set_cons_zero])
          refine HavG.hav_val_ghost (PlaceT wr.heap.size 29) (by simp only [List.getElem?_toArray, List.getElem?_cons_succ, List.getElem?_cons_zero]; rfl) (by kernel_rfl) (fun v w w' h hG => h.stable hG) ?_ (fun v => ?_)
          · intro wv hgv _
            refine ⟨.pointer (some ⟨wv.heap.size, 0, none⟩), wv.alloc (.cells #[.int .i64 0, .int .i64 0] 29), ?_, GT.below hgv.1.size ((Below.refl _ _).alloc (Nat.le_refl _) _), wv.heap.size, rfl, hgv.1.size, _, _, Blk.new wv 29 _⟩
            go_simp
            try rfl
          simp only [Act.put, List.setIfInBounds_toArray, List.set_cons_succ, List.set_cons_zero]
          refine HavG.hav_store (StoredT wr.heap.size 29 (.int .i64 u0) (.int .i64 u1) v) (by simp only [List.getElem?_toArray, List.getElem?_cons_succ, List.getElem?_cons_zero]; rfl) (by kernel_rfl) rfl (fun w w' h hG => h.stable hG) ?_ ?_
          · rintro wv hgv ⟨_, g, rfl, hgB, a, b, hk⟩
            have hs := GT.set (s0 := .int .i64 u0) (s1 := .int .i64 u1) hgB hk
            have c0 := hk.cell 0
            have c1 := hk.cell 1
            have f0 := hk.frozen 0
            have f1 := hk.frozen 1
            have lg := hk.lt
            simp at c0 c1
            refine ⟨_, ?_, hs.1, g, rfl, hgB, hs.2⟩
            go_simp
            try rfl
          (apply HavG.hav_same (by simp only [List.getElem?_toArray, List.getElem?_cons_succ, List.getElem?_cons_zero]; rfl) (by kernel_rfl); (focus (intro wv hgv _; have hcv : ∀ b o, b < _ → wv.cell? ⟨b, o, none⟩ = _ := fun b o hb => Below.cell hgv.1 (p := ⟨b, o, none⟩) hb; (try go_simp); try rfl; done)); simp only [Act.put, List.setIfInBounds_toArray, List.set_cons_succ, List.set_cons_zero])
          refine HavG.hav_end (fun v5 hg5 hF => ?_)
          simp only [List.filterMap]
          obtain ⟨⟨_, _⟩, g5, rfl, hgB5, hk5⟩ := hF
          have HB5 : Hid (Below w.heap.size w v5) := HB.out.trans (hg5.1.mono HB.out.size)
          have HQ2 := Lib.hid (HK2.out.below hg5.1 xl)
          have HQ4 := Lib.hid (HK4.out.below hg5.1 HK4.out.lt)
          have HQ5 := Lib.hid (HK5.out.below hg5.1 HK5.out.lt)
          have y0 := HQ5.out.cell 0
          have y1 := HQ5.out.cell 1
          have yf0 := HQ5.out.frozen 0
          have yf1 := HQ5.out.frozen 1
          have yl := HQ5.out.lt
          have t0 := hk5.cell 0
          have t1 := hk5.cell 1
          have tl := hk5.lt
          simp at y0 y1 t0 t1
          clear hg5 hk5 hgB5 H0 H1 H2 x0 x1 x2 x3 x4 xl
          go_wp2
          go_roundw
          case rel =>
            exact ⟨k + 1, q0 + u0, q1 + u1, by omega, by go_num, HNX.out, bnd.1, bnd.2.1, bnd.2.2.1, bnd.2.2.2,
              (HQ2.out.far (p := ⟨w.heap.size + 1 + 1, 0, none⟩) (by show w.heap.size ≠ w.heap.size + 1 + 1; omega) _).far (p := ⟨w.heap.size + 1 + 1, 1, none⟩) (by show w.heap.size ≠ w.heap.size + 1 + 1; omega) _,
              (HQ4.out.far (p := ⟨w.heap.size + 1 + 1, 0, none⟩) (by show w.heap.size + 1 ≠ w.heap.size + 1 + 1; omega) _).far (p := ⟨w.heap.size + 1 + 1, 1, none⟩) (by show w.heap.size + 1 ≠ w.heap.size + 1 + 1; omega) _,
              (HQ5.out.set_ 0 (.int .i64 (q0 + u0))).set_ 1 (.int .i64 (q1 + u1)),
              setCell_below (setCell_below HB5.out (by omega) 0 _) (by omega) 1 _⟩
          case measure => simp [intOf]; omega
        · obtain rfl : wl = k := by omega
          have HFE : Hid (q0 = u0 ∧ q1 = u1) := by
            have h := HU.out
            rw [PressD.weight, HEW.out, show p.rest s wl = p.rest s p.weighed.length by rw [HEW.out], HBASE.out, plusS] at h
            injection h with h1 h2
            have := HQ.out
            simp only at h1 h2
            exact ⟨by omega, by omega⟩
          have y0 := HK5.out.cell 0
          have y1 := HK5.out.cell 1
          have r0 := HK4.out.cell 0
          have r1 := HK4.out.cell 1
          have rf0 := HK4.out.frozen 0
          have rf1 := HK4.out.frozen 1
          have rl := HK4.out.lt
          simp at y0 y1 r0 r1
          go_wp2
          have hk := (HK4.out.set_ 0 (.int .i64 q0)).set_ 1 (.int .i64 q1)
          have z0 := hk.cell 0
          have z1 := hk.cell 1
          simp at z0 z1
          refine bodyPost_ret (v := .agg #[.int .i64 q0, .int .i64 q1]) (by simp [results, Try.results62, go_sem, z0, z1]) rfl ⟨by rw [HFE.out.1, HFE.out.2], setCell_below (setCell_below HB.out (by omega) 0 _) (by omega) 1 _⟩
end
end Go.Proofs.Ytbfjebglaimcmaa
