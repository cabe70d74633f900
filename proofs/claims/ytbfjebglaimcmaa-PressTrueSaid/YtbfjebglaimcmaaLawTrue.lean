/- The walk of PressTrue: for every press, however heavy its fleeces truly are, it answers true; condition: remainders are of 16 bits. -/
import Derived.Test.YtbfjebglaimcmaaLawTruly
namespace Go.Proofs.Ytbfjebglaimcmaa
open Go.RowKit Go.Hav
section
variable {low top bales : Int} {fa wa ua A2 : Option Addr} {fl fc wl wp wc ul uc c2 : Nat} {p : PressD} {us : List Nat}
set_option maxRecDepth 100000 in
set_option maxHeartbeats 1600000 in
theorem right_any (hv : p.ok = true) (T : Nat → Int) (hT : ∀ i, i < fl → 1 ≤ T i ∧ T i ≤ 20) (s : Nat) (hs : s < 1024) (g8 g3 : Nat) (w : World) (hP : PressIn w w.heap.size fa fl low top bales wa wl p)
    (h8 : w.cell? ⟨g8, 0, none⟩ = some (.slice A2 fl c2)) (h3 : Blk w g3 25 #[Value.slice fa fl fc, Value.int IntKind.i64 low, Value.int IntKind.i64 top, Value.int IntKind.i64 bales, Value.slice wa wl wp])
    (hR : RdG inF 1 w w.heap.size A2 ((List.range fl).map T)) :
    Calls Try.prog 32 #[.int .i64 s, .pointer (some ⟨g8, 0, none⟩), .pointer (some ⟨g3, 0, none⟩)] w fun e w' => e = .returned (.bool (p.fitT T s)) ∧ Below w.heap.size w w' := by
  have HP := Lib.hid hP
  have HV := Lib.hid hv
  have HR := Lib.hid hR
  have hn10 : fl ≤ 10 := by have := (PressD.ok_head hv).1; have e : p.n = fl := hP.efl; rw [e] at this; exact this
  have HTB := Lib.hid hT
  obtain ⟨N, hN⟩ : ∃ N, sb T s fl = N := ⟨_, rfl⟩
  have HTN : Hid (totL ((List.range fl).map T) s fl = N) := by show _ = _; rw [tot_truI, hN]
  have HFT : Hid (p.fitT T s = (p.alike s && decide (low ≤ N) && decide (N ≤ top))) := by
    show _ = _
    unfold PressD.fitT
    rw [show p.n = fl from hP.efl, hN, hP.elow, hP.etop]
  rw [HFT.out]
  clear hN hP hv hR hT HFT
  have x0 := h3.cell 0
  have x1 := h3.cell 1
  have x2 := h3.cell 2
  have x3 := h3.cell 3
  have x4 := h3.cell 4
  simp at x0 x1 x2 x3 x4
  have l3 := h3.lt
  have H3 := Lib.hid h3
  clear h3
  go_enter Try.func32, Try.ntmps32
  go_wp2_with fail
  refine (total_any (n := fl) (l := (List.range fl).map T) (A := A2) (c := c2) (by omega) (by simp) (by simp only [List.mem_map, List.mem_range]; rintro x ⟨i, hi, rfl⟩; have := HTB.out i hi; omega) s hs w HR.out).mono ?_
  rw [HTN.out]
  rintro e V' ⟨rfl, rfl⟩
  go_wp2_with fail
  refine (lalike_any (p := p) HV.out s hs V' (by exact HP.out)).mono ?_
  rintro e w2 ⟨rfl, hb2⟩
  have HB2 := Lib.hid hb2
  have h3 := H3.out.below hb2 H3.out.lt
  clear hb2 x0 x1 x2 x3 x4 l3 h8
  have x0 := h3.cell 0
  have x1 := h3.cell 1
  have x2 := h3.cell 2
  have x3 := h3.cell 3
  have x4 := h3.cell 4
  simp at x0 x1 x2 x3 x4
  have l3 := h3.lt
  clear h3
  cases hal : p.alike s
  · go_wp2
    go_ret
    exact ⟨ret_bool (by simp [hal]), HB2.out⟩
  · by_cases h1 : low ≤ N
    · have d1 : decide (low ≤ N) = true := by simp [h1]
      by_cases h2 : N ≤ top
      · have d2 : decide (N ≤ top) = true := by simp [h2]
        go_wp2
        go_ret
        exact ⟨ret_bool (by simp [hal, h1, h2]), HB2.out⟩
      · have d2 : decide (N ≤ top) = false := by simp [h2]
        go_wp2
        go_ret
        exact ⟨ret_bool (by simp [hal, h1, h2]), HB2.out⟩
    · have d1 : decide (low ≤ N) = false := by simp [h1]
      go_wp2
      go_ret
      exact ⟨ret_bool (by simp [hal]; omega), HB2.out⟩
/-- Whatever sets are answered, they truly fit. -/
theorem plan_fit {T : Nat → Int} (hv : p.ok = true) (ht : ∀ i, i < p.n → (p.fw i).lo ≤ T i ∧ T i ≤ (p.fw i).hi) {s : Nat} (hs : s ∈ planP (p.trueP T)) : p.fitT T s = true ∧ s < 1024 := by
  have h := (planP_bd (PressD.true_ok hv ht)).2.1 s hs
  have h1 := h.1
  unfold PressD.sets at h1
  exact ⟨PressD.sure_fit hv ht (List.mem_filter.1 h1).2, h.2.2⟩
theorem add_fit {T : Nat → Int} (hv : p.ok = true) (ht : ∀ i, i < p.n → (p.fw i).lo ≤ T i ∧ T i ≤ (p.fw i).hi) {s : Nat} (hs : s < 2 ^ p.n) (h0 : ¬ addI (p.trueP T) s < 0) :
    ∃ k : Nat, k < p.n ∧ addI (p.trueP T) s = k ∧ s.testBit k = false ∧ p.fitT T (s ||| 2 ^ k) = true ∧ s ||| 2 ^ k < 1024 := by
  have hn := PressD.n_pow hv
  unfold addI at h0 ⊢
  cases hf : (List.range (p.trueP T).n).find? (addB (p.trueP T) s) with
  | none => rw [hf] at h0; simp at h0
  | some k =>
    have hk : k < p.n := List.mem_range.1 (List.mem_of_find?_eq_some hf)
    have hb := List.find?_some hf
    simp only [addB, Bool.and_eq_true, Bool.not_eq_true'] at hb
    exact ⟨k, hk, rfl, hb.1, PressD.sure_fit hv ht hb.2, Nat.lt_of_lt_of_le (Nat.or_lt_two_pow hs (Nat.pow_lt_pow_right (by omega) hk)) hn⟩
set_option maxRecDepth 100000 in
set_option maxHeartbeats 6400000 in
theorem PressTrue_any (m : Nat) (hm : m ≤ 65535) (hu : us.length = ul) (hub : ∀ x ∈ us, x ≤ 65535) (hul : ul ≤ 9223372036854775807) (w : World) (hP : PressIn w w.heap.size fa fl low top bales wa wl p) (hU : RdG u16F 1 w w.heap.size ua us) :
    Calls Try.prog 5 #[pressV fa fl fc low top bales wa wl wp, .int .u16 m, .slice ua ul uc] w fun e w' => e = .returned (.bool true) ∧ Below w.heap.size w w' := by
  have HP := Lib.hid hP
  have HU := Lib.hid hU
  have HUL := Lib.hid hu
  have HUB := Lib.hid hub
  have HEN : Hid (p.n = fl) := hP.efl
  have HEW : Hid (p.weighed.length = wl) := hP.ewl
  clear hP hU hu hub
  unfold pressV
  go_enter Try.func5, Try.ntmps5
  go_wp2_with fail
  obtain ⟨W, hW⟩ : ∃ W, W = w.alloc (Obj.cells #[Value.slice fa fl fc, Value.int IntKind.i64 low, Value.int IntKind.i64 top, Value.int IntKind.i64 bales, Value.slice wa wl wp] 25) := ⟨_, rfl⟩
  have HX : Hid (Blk W w.heap.size 25 #[Value.slice fa fl fc, Value.int IntKind.i64 low, Value.int IntKind.i64 top, Value.int IntKind.i64 bales, Value.slice wa wl wp]) := by rw [hW]; exact Blk.new w 25 _
  have HBW : Hid (Below w.heap.size w W) := by rw [hW]; exact (Below.refl _ _).alloc (Nat.le_refl _) _
  rw [← hW]
  clear hW
  have HPW : Hid (PressIn W W.heap.size fa fl low top bales wa wl p) := HP.out.grow HBW.out
  have HF3 : Hid (∀ wv, Below W.heap.size W wv → wv.cell? ⟨w.heap.size, 0, none⟩ = some (Value.slice fa fl fc) ∧ wv.cell? ⟨w.heap.size, 1, none⟩ = some (Value.int IntKind.i64 low) ∧ wv.cell? ⟨w.heap.size, 2, none⟩ = some (Value.int IntKind.i64 top) ∧ wv.cell? ⟨w.heap.size, 3, none⟩ = some (Value.int IntKind.i64 bales) ∧ wv.cell? ⟨w.heap.size, 4, none⟩ = some (Value.slice wa wl wp) ∧ w.heap.size < wv.heap.size) := by
    intro wv hb
    have h := HX.out.below hb HX.out.lt
    exact ⟨h.cell 0, h.cell 1, h.cell 2, h.cell 3, h.cell 4, h.lt⟩
  refine (fine_any (p := p) W (by exact HPW.out)).mono ?_
  rintro e v1 ⟨⟨b, rfl, hb⟩, hb1⟩
  have HC1 := Lib.hid hb1
  clear hb1
  cases b
  · clear hb
    go_wp2_with fail
    refine (awake_any _).mono ?_
    rintro e v2 ⟨rfl, hb2⟩
    go_wp2
    go_ret
    exact ⟨rfl, HBW.out.trans ((HC1.out.trans (hb2.mono HC1.out.size)).mono HBW.out.size)⟩
  obtain ⟨hv, h40, h41⟩ := hb rfl
  clear hb
  have hn10 : fl ≤ 10 := by have := (PressD.ok_head hv).1; rw [HEN.out] at this; exact this
  have HV := Lib.hid hv
  obtain ⟨T, hT⟩ : ∃ T, truI p us = T := ⟨_, rfl⟩
  have HT := Lib.hid hT
  have HTI : Hid (∀ i, i < p.n → (p.fw i).lo ≤ T i ∧ T i ≤ (p.fw i).hi) := fun i hi => by rw [← hT]; exact truI_in hv us hi
  have HTB : Hid (∀ i, i < fl → 1 ≤ T i ∧ T i ≤ 20) := fun i hi => by rw [← hT]; exact truI_bd hv us (by rw [HEN.out]; exact hi)
  clear hv hT
  have HXV : Hid ((p.trueP T).ok = true) := PressD.true_ok HV.out HTI.out
  have HXW : Hid ((p.trueP T).wrong = 0) := PressD.true_right HV.out HTI.out
  obtain ⟨x0, x1, x2, x3, x4, l3⟩ := HF3.out v1 HC1.out
  go_wp2_with fail
  refine (truly_any (p := p) (us := us) HV.out HUL.out HUB.out hul v1 (by exact HPW.out.grow HC1.out) (by exact ((HU.out.below HBW.out).more HBW.out.size |>.below HC1.out).more HC1.out.size)).mono ?_
  unfold pressV
  rw [HT.out]
  rintro e v2 ⟨B2, c2, A, c, rfl, hpx, hrx, hb2⟩
  have HPX := Lib.hid hpx
  have HRX := Lib.hid hrx
  have HC2 : Hid (Below W.heap.size W v2) := HC1.out.trans (hb2.mono HC1.out.size)
  clear hpx hrx hb2 x0 x1 x2 x3 x4 l3
  go_upto_region 4 with fail
  obtain ⟨V, hV⟩ : ∃ V, V = (v2.alloc (Obj.cells #[Value.slice fa fl fc, Value.int IntKind.i64 low, Value.int IntKind.i64 top, Value.int IntKind.i64 bales, Value.slice A wl c] 25)).alloc (Obj.cells #[Value.slice B2 fl c2] 38) := ⟨_, rfl⟩
  have HK7 : Hid (Blk V v2.heap.size 25 #[Value.slice fa fl fc, Value.int IntKind.i64 low, Value.int IntKind.i64 top, Value.int IntKind.i64 bales, Value.slice A wl c]) := by rw [hV]; exact (Blk.new v2 25 _).alloc _
  have HK8 : Hid (Blk V (v2.heap.size + 1) 38 #[Value.slice B2 fl c2]) := by rw [hV]; exact Blk.new_ (by simp) 38 _
  have HBV2 : Hid (Below v2.heap.size v2 V) := by rw [hV]; exact ((Below.refl _ _).alloc (Nat.le_refl _) _).alloc (by simp) _
  have HBV : Hid (Below W.heap.size W V) := HC2.out.trans (HBV2.out.mono HC2.out.size)
  have HPV : Hid (PressIn V V.heap.size fa fl low top bales A wl (p.trueP T)) := HPX.out.grow HBV2.out
  have HRV : Hid (RdG inF 1 V V.heap.size B2 ((List.range fl).map T)) := (HRX.out.below HBV2.out).more HBV2.out.size
  have HF7 : Hid (∀ wv, Below V.heap.size V wv → wv.cell? ⟨v2.heap.size, 0, none⟩ = some (Value.slice fa fl fc) ∧ wv.cell? ⟨v2.heap.size, 1, none⟩ = some (Value.int IntKind.i64 low) ∧ wv.cell? ⟨v2.heap.size, 2, none⟩ = some (Value.int IntKind.i64 top) ∧ wv.cell? ⟨v2.heap.size, 3, none⟩ = some (Value.int IntKind.i64 bales) ∧ wv.cell? ⟨v2.heap.size, 4, none⟩ = some (Value.slice A wl c) ∧ v2.heap.size < wv.heap.size) := by
    intro wv hb
    have h := HK7.out.below hb HK7.out.lt
    exact ⟨h.cell 0, h.cell 1, h.cell 2, h.cell 3, h.cell 4, h.lt⟩
  have HF8 : Hid (∀ wv, Below V.heap.size V wv → wv.cell? ⟨v2.heap.size + 1, 0, none⟩ = some (Value.slice B2 fl c2) ∧ v2.heap.size + 1 < wv.heap.size) := by
    intro wv hb
    have h := HK8.out.below hb HK8.out.lt
    exact ⟨h.cell 0, h.lt⟩
  have HRT : Hid (∀ (s : Nat) (wv : World), s < 1024 → Below V.heap.size V wv → Calls Try.prog 32 #[.int .i64 s, .pointer (some ⟨v2.heap.size + 1, 0, none⟩), .pointer (some ⟨w.heap.size, 0, none⟩)] wv fun e w' => e = .returned (.bool (p.fitT T s)) ∧ Below wv.heap.size wv w') := by
    intro s wv hs hb
    have hbw := HBV.out.trans (hb.mono HBV.out.size)
    exact right_any HV.out T HTB.out s hs _ _ wv (HPW.out.grow hbw) (HF8.out wv hb).1 (HX.out.below hbw HX.out.lt) ((HRV.out.below hb).more hb.size)
  rw [← hV]
  clear hV
  have hfull : full fl ≤ 1023 := by
    unfold full
    have h := Nat.pow_le_pow_right (n := 2) (by omega) hn10
    omega
  have HAND : Hid (bits BinOp.and IntKind.i64 (m : Int) ((full fl : Nat) : Int) = ((m &&& full fl : Nat) : Int)) := and_i64 m (full fl) (by omega) (by omega)
  obtain ⟨s, hs⟩ : ∃ s, m &&& full fl = s := ⟨_, rfl⟩
  rw [hs] at HAND
  have hsf : s ≤ full fl := by rw [← hs]; exact Nat.and_le_right
  have hs10 : s < 1024 := by omega
  have HSN : Hid (s ≤ full p.n) := by show _ ≤ _; rw [HEN.out]; exact hsf
  have HS2 : Hid (s < 2 ^ p.n) := le_full.1 HSN.out
  have HSE : Hid (setE (p.trueP T) (s : Int) = 0) := by show _ = _; rw [setE_ok HXV.out HSN.out, if_pos HXW.out]
  clear hs
  obtain ⟨x0, x1, x2, x3, x4, l3⟩ := HF3.out V HBV.out
  go_wp2_with fail
  refine (every_any (low := low) (top := top) (bales := bales) (fa := fa) (fc := fc) (wa := wa) (wl := wl) (wc := wp) h40 V).mono ?_
  rintro e v3 ⟨rfl, hb3⟩
  have HC3 := Lib.hid hb3
  clear hb3 x0 x1 x2 x3 x4 l3
  obtain ⟨x0, x1, x2, x3, x4, l3⟩ := HF7.out v3 HC3.out
  have hand := HAND.out
  have HFR : Hid (falseR (p.trueP T) = .tuple #[.int .i64 0, .int .i64 4]) := by show _ = _; rw [falseR, if_neg (by rw [HXV.out]; simp), if_pos HXW.out]
  go_wp2_with fail
  refine (PFalse_any (p := p.trueP T) v3 (by exact HPV.out.grow HC3.out)).mono ?_
  rw [HFR.out]
  rintro e v4 ⟨rfl, hb4⟩
  have HC4 : Hid (Below V.heap.size V v4) := HC3.out.trans (hb4.mono HC3.out.size)
  clear hb4 hand x0 x1 x2 x3 x4 l3
  obtain ⟨x0, x1, x2, x3, x4, l3⟩ := HF7.out v4 HC4.out
  obtain ⟨⟨W0, W1⟩, hWT⟩ : ∃ v, (p.trueP T).weight s = v := ⟨_, rfl⟩
  have HWT : Hid (weightR (p.trueP T) (s : Int) = ⟨W0, W1⟩) := by show _ = _; rw [weightR, HSE.out, if_pos rfl]; exact hWT
  obtain ⟨N, hN⟩ : ∃ N, sb T s p.n = N := ⟨_, rfl⟩
  have HIN : Hid (inB N W0 W1 = true) := by
    have h := PressD.true_in HV.out HTI.out s
    rw [hWT, hN] at h
    exact inB_iff.2 h
  have HTN : Hid (totL ((List.range fl).map T) s fl = N) := by show _ = _; rw [tot_truI, ← hN, HEN.out]
  clear hWT hN
  go_wp2_with fail
  refine (PWeight_any (p := p.trueP T) (s : Int) v4 (by exact HPV.out.grow HC4.out)).mono ?_
  rw [HSE.out, HWT.out]
  unfold spV
  rintro e v5 ⟨rfl, hb5⟩
  have HC5 : Hid (Below V.heap.size V v5) := HC4.out.trans (hb5.mono HC4.out.size)
  clear hb5 x0 x1 x2 x3 x4 l3
  go_upto_region 7 with fail
  have hs5 := HC5.out.size
  obtain ⟨V5, hV5⟩ : ∃ V5, V5 = v5.alloc (Obj.cells #[Value.int IntKind.i64 W0, Value.int IntKind.i64 W1] 29) := ⟨_, rfl⟩
  have HK5 : Hid (Blk V5 v5.heap.size 29 #[.int .i64 W0, .int .i64 W1]) := by rw [hV5]; exact Blk.new v5 29 _
  have HD5 : Hid (Below V.heap.size V V5) := by rw [hV5]; exact HC5.out.alloc hs5 _
  rw [← hV5]
  clear hV5 hs5
  obtain ⟨x0, x1, x2, x3, x4, l3⟩ := HF7.out V5 HD5.out
  obtain ⟨F, hF⟩ : ∃ v, (p.trueP T).fits s = v := ⟨_, rfl⟩
  have HFT : Hid ((p.trueP T).fits s = F) := hF
  have HFI : Hid (F = 2 ∧ p.fitT T s = true ∨ F = 1 ∨ F = 0 ∧ p.fitT T s = false) := by
    rw [← hF]
    have h1 := fits_sure (p.trueP T) s
    have h0 := fits_may HXV.out HXW.out s
    have hb := fits_bd (p.trueP T) s
    rcases (by omega : (p.trueP T).fits s = 0 ∨ (p.trueP T).fits s = 1 ∨ (p.trueP T).fits s = 2) with h | h | h
    · refine .inr (.inr ⟨h, ?_⟩)
      cases hf : p.fitT T s
      · rfl
      · rw [h, PressD.fit_may HV.out HTI.out hf] at h0; simp at h0
    · exact .inr (.inl h)
    · refine .inl ⟨h, PressD.sure_fit HV.out HTI.out ?_⟩
      rw [h] at h1
      rw [← h1]; rfl
  clear hF
  go_wp2_with fail
  refine (PFits_any (p := p.trueP T) (s : Int) V5 (by exact HPV.out.grow HD5.out)).mono ?_
  rw [HSE.out, if_pos rfl, Int.toNat_natCast, HFT.out]
  rintro e v6 ⟨rfl, hb6⟩
  have HC6 : Hid (Below V.heap.size V v6) := HD5.out.trans (hb6.mono HD5.out.size)
  have HK6 := Lib.hid (HK5.out.below hb6 HK5.out.lt)
  clear hb6 x0 x1 x2 x3 x4 l3
  obtain ⟨x0, x1, x2, x3, x4, l3⟩ := HF7.out v6 HC6.out
  have HPE : Hid (planE (p.trueP T) = 0) := by show _ = _; rw [planE, if_neg (by rw [HXV.out]; simp), if_pos HXW.out]
  obtain ⟨L, hL⟩ : ∃ L, planP (p.trueP T) = L := ⟨_, rfl⟩
  have HLI : Hid (intsP (p.trueP T) = intZ L) := by show _ = _; rw [intsP, if_pos HPE.out, hL]
  have HLF : Hid (∀ s ∈ L, p.fitT T s = true ∧ s < 1024) := by rw [← hL]; exact fun s hs => plan_fit HV.out HTI.out hs
  obtain ⟨ln, hln⟩ : ∃ n, L.length = n := ⟨_, rfl⟩
  have hln5 : ln ≤ 5 := by have := (planP_bd HXV.out).1; rw [hL, hln] at this; exact this
  have HLN := Lib.hid hln
  clear hL hln
  go_wp2_with fail
  refine (PPlan_any (p := p.trueP T) v6 (by exact HPV.out.grow HC6.out)).mono ?_
  rw [HPE.out, HLI.out]
  rintro e v7 ⟨v, rfl, hown, hb7⟩
  obtain ⟨LA, lc, rfl, hrd, -⟩ := own_rd (l := intZ L) inF_len (by decide) hown
  rw [intZ_len, HLN.out]
  have HRL := Lib.hid hrd
  have HC7 : Hid (Below V.heap.size V v7) := HC6.out.trans (hb7.mono HC6.out.size)
  have HK7' := Lib.hid (HK6.out.below hb7 HK6.out.lt)
  clear hown hrd hb7 x0 x1 x2 x3 x4 l3
  obtain ⟨x0, x1, x2, x3, x4, l3⟩ := HF7.out v7 HC7.out
  obtain ⟨AD, AE, HAR, HAD⟩ : ∃ AD AE, Hid (addR (p.trueP T) (s : Int) = .tuple #[.int .i64 AD, .int .i64 AE]) ∧ Hid ((AE = 4 ∧ AD = 0) ∨ (AE = 0 ∧ ∃ k : Nat, k < p.n ∧ AD = k ∧ s.testBit k = false ∧ p.fitT T (s ||| 2 ^ k) = true ∧ s ||| 2 ^ k < 1024)) := by
    by_cases h : addI (p.trueP T) s < 0
    · exact ⟨0, 4, by show _ = _; rw [addR, if_pos HSE.out, Int.toNat_natCast, if_pos h], .inl ⟨rfl, rfl⟩⟩
    · obtain ⟨k, k1, k2, k3, k4, k5⟩ := add_fit HV.out HTI.out HS2.out h
      exact ⟨_, 0, by show _ = _; rw [addR, if_pos HSE.out, Int.toNat_natCast, if_neg h], .inr ⟨rfl, k, k1, k2, k3, k4, k5⟩⟩
  go_wp2_with fail
  refine (PAdd_any (p := p.trueP T) (s : Int) v7 (by exact HPV.out.grow HC7.out)).mono ?_
  rw [HAR.out]
  rintro e v8 ⟨rfl, hb8⟩
  have HC8 : Hid (Below V.heap.size V v8) := HC7.out.trans (hb8.mono HC7.out.size)
  have HK8' := Lib.hid (HK7'.out.below hb8 HK7'.out.lt)
  have HRL8 : Hid (RdG inF 1 v8 v8.heap.size LA (intZ L)) := (HRL.out.below hb8).more hb8.size
  clear hb8 x0 x1 x2 x3 x4 l3
  rcases HAD.out with ⟨rfl, rfl⟩ | ⟨rfl, k, hk, rfl, hkb, hkf, hk10⟩
  ·
    have hmf : ∀ (fn : Fn) (first cap : Array Value) (w : World), (Instr.makeFunc fn first cap).run Try.prog w = .ok (.func fn first cap) w := fun _ _ _ _ => rfl
    go_upto_region 13 with fail
    clear hmf
    have y0 := HK8'.out.cell 0
    have y1 := HK8'.out.cell 1
    have ly := HK8'.out.lt
    simp at y0 y1
    obtain ⟨z0, lz⟩ := HF8.out v8 HC8.out
    rcases HFI.out with ⟨rfl, hfit⟩ | rfl | ⟨rfl, hfit⟩
    · refine wp_region_havoc [(0,false),(1,false),(2,false),(3,false),(4,false),(5,false),(6,false),(7,false),(8,false),(9,false),(10,false),(11,false),(12,false),(13,false),(14,false),(15,false),(16,false),(17,false),(18,false),(19,false),(20,false),(21,false),(22,false),(23,false),(24,false)] [] (fun _ _ => False) (by kernel_rfl) (by kernel_rfl) (fun _ _ _ _ h => h.elim) ?_
      (apply hav_same (by simp only [List.getElem?_toArray, List.getElem?_cons_zero]; rfl) (by kernel_rfl); (focus (intro wv hgv _; have hcv : ∀ b o, b < _ → wv.cell? ⟨b, o, none⟩ = _ := fun b o hb => Below.cell hgv (p := ⟨b, o, none⟩) hb; (try go_simp); try rfl; done)); simp only [Act.put, List.setIfInBounds_toArray, List.set_cons_succ, List.set_cons_zero])
      (apply hav_same (by simp only [List.getElem?_toArray, List.getElem?_cons_succ, List.getElem?_cons_zero]; rfl) (by kernel_rfl); (focus (intro wv hgv _; have hcv : ∀ b o, b < _ → wv.cell? ⟨b, o, none⟩ = _ := fun b o hb => Below.cell hgv (p := ⟨b, o, none⟩) hb; (try go_simp); try rfl; done)); simp only [Act.put, List.setIfInBounds_toArray, List.set_cons_succ, List.set_cons_zero])
      (apply hav_call (by simp only [List.getElem?_toArray, List.getElem?_cons_succ, List.getElem?_cons_zero]; rfl) (by kernel_rfl); (focus (intro wv; go_simp; try exact ⟨rfl, rfl⟩; done)); (focus (intro wv hgv _; exact (total_any (n := fl) (l := (List.range fl).map T) (A := B2) (c := c2) (by omega) (by simp) (by simp only [List.mem_map, List.mem_range]; rintro x ⟨i, hi, rfl⟩; have := HTB.out i hi; omega) s hs10 wv (by exact ((HRV.out.below HC8.out).more HC8.out.size |>.below hgv).more hgv.size)).mono fun e w' h => ⟨by rw [h.1, HTN.out], by rw [h.2]; exact Below.refl _ _⟩; done)); simp only [Act.put, List.setIfInBounds_toArray, List.set_cons_succ, List.set_cons_zero])
      (apply hav_same (by simp only [List.getElem?_toArray, List.getElem?_cons_succ, List.getElem?_cons_zero]; rfl) (by kernel_rfl); (focus (intro wv hgv _; have hcv : ∀ b o, b < _ → wv.cell? ⟨b, o, none⟩ = _ := fun b o hb => Below.cell hgv (p := ⟨b, o, none⟩) hb; (try go_simp); try rfl; done)); simp only [Act.put, List.setIfInBounds_toArray, List.set_cons_succ, List.set_cons_zero])
      (apply hav_call (by simp only [List.getElem?_toArray, List.getElem?_cons_succ, List.getElem?_cons_zero]; rfl) (by kernel_rfl); (focus (intro wv; go_simp; try exact ⟨rfl, rfl⟩; done)); (focus (intro wv hgv _; have hq := inside_any N ⟨W0, W1⟩ wv; rw [show inB N (Sp.mk W0 W1).lo (Sp.mk W0 W1).hi = true from HIN.out] at hq; unfold spV at hq; exact hq; done)); simp only [Act.put, List.setIfInBounds_toArray, List.set_cons_succ, List.set_cons_zero])
      iterate 7 (apply hav_same (by simp only [List.getElem?_toArray, List.getElem?_cons_succ, List.getElem?_cons_zero]; rfl) (by kernel_rfl); (focus (intro wv hgv _; have hcv : ∀ b o, b < _ → wv.cell? ⟨b, o, none⟩ = _ := fun b o hb => Below.cell hgv (p := ⟨b, o, none⟩) hb; (try go_simp); try rfl; done)); simp only [Act.put, List.setIfInBounds_toArray, List.set_cons_succ, List.set_cons_zero])
      (apply hav_call (by simp only [List.getElem?_toArray, List.getElem?_cons_succ, List.getElem?_cons_zero]; rfl) (by kernel_rfl); (focus (intro wv; go_simp; try exact ⟨rfl, rfl⟩; done)); (focus (intro wv hgv _; have hq := HRT.out s wv hs10 (HC8.out.trans (hgv.mono HC8.out.size)); rw [hfit] at hq; exact hq; done)); simp only [Act.put, List.setIfInBounds_toArray, List.set_cons_succ, List.set_cons_zero])
      iterate 7 (apply hav_same (by simp only [List.getElem?_toArray, List.getElem?_cons_succ, List.getElem?_cons_zero]; rfl) (by kernel_rfl); (focus (intro wv hgv _; have hcv : ∀ b o, b < _ → wv.cell? ⟨b, o, none⟩ = _ := fun b o hb => Below.cell hgv (p := ⟨b, o, none⟩) hb; (try go_simp); try rfl; done)); simp only [Act.put, List.setIfInBounds_toArray, List.set_cons_succ, List.set_cons_zero])
      iterate 3 (refine hav_skip (by simp only [List.getElem?_toArray, List.getElem?_cons_succ, List.getElem?_cons_zero]; rfl) (by kernel_rfl) ?_; simp only [Act.put, List.setIfInBounds_toArray, List.set_cons_succ, List.set_cons_zero])
      iterate 2 (apply hav_same (by simp only [List.getElem?_toArray, List.getElem?_cons_succ, List.getElem?_cons_zero]; rfl) (by kernel_rfl); (focus (intro wv hgv _; have hcv : ∀ b o, b < _ → wv.cell? ⟨b, o, none⟩ = _ := fun b o hb => Below.cell hgv (p := ⟨b, o, none⟩) hb; (try go_simp); try rfl; done)); simp only [Act.put, List.setIfInBounds_toArray, List.set_cons_succ, List.set_cons_zero])
      refine hav_end (fun v9 hgv9 _ => ?_); simp only [List.filterMap]; have hcv9 : ∀ b o, b < _ → v9.cell? ⟨b, o, none⟩ = _ := fun b o hb => Below.cell hgv9 (p := ⟨b, o, none⟩) hb; have hfv9 : ∀ b o, b < _ → v9.frozen? ⟨b, o, none⟩ = _ := fun b o hb => Below.frozen hgv9 (p := ⟨b, o, none⟩) hb; have hzv9 := Below.size hgv9; (try simp at hzv9)
      clear hfit
      have HC9 : Hid (Below V.heap.size V v9) := HC8.out.trans (hgv9.mono HC8.out.size)
      have HRL9 : Hid (RdG inF 1 v9 v9.heap.size LA (intZ L)) := (HRL8.out.below hgv9).more hgv9.size
      clear hgv9 hcv9 hfv9 y0 y1 ly z0 lz
      go_wp2
      go_loopw [120] (fun i wr => ∃ j : Nat, j ≤ ln ∧ i = .int .i64 j ∧ Below V.heap.size V wr ∧ RdG inF 1 wr wr.heap.size LA (intZ L)) (fun i _ => ln - (intOf i).toNat)
      case atStart => exact ⟨0, Nat.zero_le _, rfl, HC9.out, HRL9.out⟩
      case round =>
        obtain ⟨j, hj, rfl, hbr, hrr⟩ := hrel
        have HBR := Lib.hid hbr
        have HRR := Lib.hid hrr
        clear hbr hrr
        by_cases hlt : j < ln
        · obtain ⟨c, hc⟩ : ∃ c, L[j]? = some c := ⟨_, List.getElem?_eq_getElem (by rw [HLN.out]; exact hlt)⟩
          obtain ⟨hcf, hc10⟩ := HLF.out c (List.mem_of_getElem? hc)
          have hci : (intZ L)[j]? = some (c : Int) := by rw [intZ, List.getElem?_map, hc]; rfl
          obtain ⟨b, off, hA, hbb, H0⟩ := rd_in HRR.out j _ hci
          subst hA
          have hbb' : b < wr.heap.size := hbb
          clear hci hc hbb
          go_wp2_with fail
          refine (HRT.out c wr hc10 HBR.out).mono ?_
          rw [hcf]
          rintro e wq ⟨rfl, hbq⟩
          have HBQ : Hid (Below V.heap.size V wq) := HBR.out.trans (hbq.mono HBR.out.size)
          have HRQ := Lib.hid ((HRR.out.below hbq).more hbq.size)
          clear hbq H0 hcf
          go_wp2
          go_roundw
          case rel => exact ⟨j + 1, by omega, by go_num, HBQ.out, HRQ.out⟩
          case measure => simp [intOf]; omega
        · obtain rfl : ln = j := by omega
          go_wp2_with fail
          refine (awake_any _).mono ?_
          rintro e vz ⟨rfl, hbz⟩
          go_wp2
          go_ret
          exact ⟨rfl, HBW.out.trans ((HBV.out.trans ((HBR.out.trans (hbz.mono HBR.out.size)).mono HBV.out.size)).mono HBW.out.size)⟩
    · refine wp_region_havoc [(0,false),(1,false),(2,false),(3,false),(4,false),(5,false),(6,false),(7,false),(8,false),(9,false),(10,false),(11,false),(12,false),(13,false),(14,false),(15,false),(16,false),(17,false),(18,false),(19,false),(20,false),(21,false),(22,false),(23,false),(24,false)] [] (fun _ _ => False) (by kernel_rfl) (by kernel_rfl) (fun _ _ _ _ h => h.elim) ?_
      (apply hav_same (by simp only [List.getElem?_toArray, List.getElem?_cons_zero]; rfl) (by kernel_rfl); (focus (intro wv hgv _; have hcv : ∀ b o, b < _ → wv.cell? ⟨b, o, none⟩ = _ := fun b o hb => Below.cell hgv (p := ⟨b, o, none⟩) hb; (try go_simp); try rfl; done)); simp only [Act.put, List.setIfInBounds_toArray, List.set_cons_succ, List.set_cons_zero])
      (apply hav_same (by simp only [List.getElem?_toArray, List.getElem?_cons_succ, List.getElem?_cons_zero]; rfl) (by kernel_rfl); (focus (intro wv hgv _; have hcv : ∀ b o, b < _ → wv.cell? ⟨b, o, none⟩ = _ := fun b o hb => Below.cell hgv (p := ⟨b, o, none⟩) hb; (try go_simp); try rfl; done)); simp only [Act.put, List.setIfInBounds_toArray, List.set_cons_succ, List.set_cons_zero])
      (apply hav_call (by simp only [List.getElem?_toArray, List.getElem?_cons_succ, List.getElem?_cons_zero]; rfl) (by kernel_rfl); (focus (intro wv; go_simp; try exact ⟨rfl, rfl⟩; done)); (focus (intro wv hgv _; exact (total_any (n := fl) (l := (List.range fl).map T) (A := B2) (c := c2) (by omega) (by simp) (by simp only [List.mem_map, List.mem_range]; rintro x ⟨i, hi, rfl⟩; have := HTB.out i hi; omega) s hs10 wv (by exact ((HRV.out.below HC8.out).more HC8.out.size |>.below hgv).more hgv.size)).mono fun e w' h => ⟨by rw [h.1, HTN.out], by rw [h.2]; exact Below.refl _ _⟩; done)); simp only [Act.put, List.setIfInBounds_toArray, List.set_cons_succ, List.set_cons_zero])
      (apply hav_same (by simp only [List.getElem?_toArray, List.getElem?_cons_succ, List.getElem?_cons_zero]; rfl) (by kernel_rfl); (focus (intro wv hgv _; have hcv : ∀ b o, b < _ → wv.cell? ⟨b, o, none⟩ = _ := fun b o hb => Below.cell hgv (p := ⟨b, o, none⟩) hb; (try go_simp); try rfl; done)); simp only [Act.put, List.setIfInBounds_toArray, List.set_cons_succ, List.set_cons_zero])
      (apply hav_call (by simp only [List.getElem?_toArray, List.getElem?_cons_succ, List.getElem?_cons_zero]; rfl) (by kernel_rfl); (focus (intro wv; go_simp; try exact ⟨rfl, rfl⟩; done)); (focus (intro wv hgv _; have hq := inside_any N ⟨W0, W1⟩ wv; rw [show inB N (Sp.mk W0 W1).lo (Sp.mk W0 W1).hi = true from HIN.out] at hq; unfold spV at hq; exact hq; done)); simp only [Act.put, List.setIfInBounds_toArray, List.set_cons_succ, List.set_cons_zero])
      iterate 5 (apply hav_same (by simp only [List.getElem?_toArray, List.getElem?_cons_succ, List.getElem?_cons_zero]; rfl) (by kernel_rfl); (focus (intro wv hgv _; have hcv : ∀ b o, b < _ → wv.cell? ⟨b, o, none⟩ = _ := fun b o hb => Below.cell hgv (p := ⟨b, o, none⟩) hb; (try go_simp); try rfl; done)); simp only [Act.put, List.setIfInBounds_toArray, List.set_cons_succ, List.set_cons_zero])
      iterate 4 (refine hav_skip (by simp only [List.getElem?_toArray, List.getElem?_cons_succ, List.getElem?_cons_zero]; rfl) (by kernel_rfl) ?_; simp only [Act.put, List.setIfInBounds_toArray, List.set_cons_succ, List.set_cons_zero])
      iterate 6 (apply hav_same (by simp only [List.getElem?_toArray, List.getElem?_cons_succ, List.getElem?_cons_zero]; rfl) (by kernel_rfl); (focus (intro wv hgv _; have hcv : ∀ b o, b < _ → wv.cell? ⟨b, o, none⟩ = _ := fun b o hb => Below.cell hgv (p := ⟨b, o, none⟩) hb; (try go_simp); try rfl; done)); simp only [Act.put, List.setIfInBounds_toArray, List.set_cons_succ, List.set_cons_zero])
      iterate 3 (refine hav_skip (by simp only [List.getElem?_toArray, List.getElem?_cons_succ, List.getElem?_cons_zero]; rfl) (by kernel_rfl) ?_; simp only [Act.put, List.setIfInBounds_toArray, List.set_cons_succ, List.set_cons_zero])
      iterate 2 (apply hav_same (by simp only [List.getElem?_toArray, List.getElem?_cons_succ, List.getElem?_cons_zero]; rfl) (by kernel_rfl); (focus (intro wv hgv _; have hcv : ∀ b o, b < _ → wv.cell? ⟨b, o, none⟩ = _ := fun b o hb => Below.cell hgv (p := ⟨b, o, none⟩) hb; (try go_simp); try rfl; done)); simp only [Act.put, List.setIfInBounds_toArray, List.set_cons_succ, List.set_cons_zero])
      refine hav_end (fun v9 hgv9 _ => ?_); simp only [List.filterMap]; have hcv9 : ∀ b o, b < _ → v9.cell? ⟨b, o, none⟩ = _ := fun b o hb => Below.cell hgv9 (p := ⟨b, o, none⟩) hb; have hfv9 : ∀ b o, b < _ → v9.frozen? ⟨b, o, none⟩ = _ := fun b o hb => Below.frozen hgv9 (p := ⟨b, o, none⟩) hb; have hzv9 := Below.size hgv9; (try simp at hzv9)
      have HC9 : Hid (Below V.heap.size V v9) := HC8.out.trans (hgv9.mono HC8.out.size)
      have HRL9 : Hid (RdG inF 1 v9 v9.heap.size LA (intZ L)) := (HRL8.out.below hgv9).more hgv9.size
      clear hgv9 hcv9 hfv9 y0 y1 ly z0 lz
      go_wp2
      go_loopw [120] (fun i wr => ∃ j : Nat, j ≤ ln ∧ i = .int .i64 j ∧ Below V.heap.size V wr ∧ RdG inF 1 wr wr.heap.size LA (intZ L)) (fun i _ => ln - (intOf i).toNat)
      case atStart => exact ⟨0, Nat.zero_le _, rfl, HC9.out, HRL9.out⟩
      case round =>
        obtain ⟨j, hj, rfl, hbr, hrr⟩ := hrel
        have HBR := Lib.hid hbr
        have HRR := Lib.hid hrr
        clear hbr hrr
        by_cases hlt : j < ln
        · obtain ⟨c, hc⟩ : ∃ c, L[j]? = some c := ⟨_, List.getElem?_eq_getElem (by rw [HLN.out]; exact hlt)⟩
          obtain ⟨hcf, hc10⟩ := HLF.out c (List.mem_of_getElem? hc)
          have hci : (intZ L)[j]? = some (c : Int) := by rw [intZ, List.getElem?_map, hc]; rfl
          obtain ⟨b, off, hA, hbb, H0⟩ := rd_in HRR.out j _ hci
          subst hA
          have hbb' : b < wr.heap.size := hbb
          clear hci hc hbb
          go_wp2_with fail
          refine (HRT.out c wr hc10 HBR.out).mono ?_
          rw [hcf]
          rintro e wq ⟨rfl, hbq⟩
          have HBQ : Hid (Below V.heap.size V wq) := HBR.out.trans (hbq.mono HBR.out.size)
          have HRQ := Lib.hid ((HRR.out.below hbq).more hbq.size)
          clear hbq H0 hcf
          go_wp2
          go_roundw
          case rel => exact ⟨j + 1, by omega, by go_num, HBQ.out, HRQ.out⟩
          case measure => simp [intOf]; omega
        · obtain rfl : ln = j := by omega
          go_wp2_with fail
          refine (awake_any _).mono ?_
          rintro e vz ⟨rfl, hbz⟩
          go_wp2
          go_ret
          exact ⟨rfl, HBW.out.trans ((HBV.out.trans ((HBR.out.trans (hbz.mono HBR.out.size)).mono HBV.out.size)).mono HBW.out.size)⟩
    · refine wp_region_havoc [(0,false),(1,false),(2,false),(3,false),(4,false),(5,false),(6,false),(7,false),(8,false),(9,false),(10,false),(11,false),(12,false),(13,false),(14,false),(15,false),(16,false),(17,false),(18,false),(19,false),(20,false),(21,false),(22,false),(23,false),(24,false)] [] (fun _ _ => False) (by kernel_rfl) (by kernel_rfl) (fun _ _ _ _ h => h.elim) ?_
      (apply hav_same (by simp only [List.getElem?_toArray, List.getElem?_cons_zero]; rfl) (by kernel_rfl); (focus (intro wv hgv _; have hcv : ∀ b o, b < _ → wv.cell? ⟨b, o, none⟩ = _ := fun b o hb => Below.cell hgv (p := ⟨b, o, none⟩) hb; (try go_simp); try rfl; done)); simp only [Act.put, List.setIfInBounds_toArray, List.set_cons_succ, List.set_cons_zero])
      (apply hav_same (by simp only [List.getElem?_toArray, List.getElem?_cons_succ, List.getElem?_cons_zero]; rfl) (by kernel_rfl); (focus (intro wv hgv _; have hcv : ∀ b o, b < _ → wv.cell? ⟨b, o, none⟩ = _ := fun b o hb => Below.cell hgv (p := ⟨b, o, none⟩) hb; (try go_simp); try rfl; done)); simp only [Act.put, List.setIfInBounds_toArray, List.set_cons_succ, List.set_cons_zero])
      (apply hav_call (by simp only [List.getElem?_toArray, List.getElem?_cons_succ, List.getElem?_cons_zero]; rfl) (by kernel_rfl); (focus (intro wv; go_simp; try exact ⟨rfl, rfl⟩; done)); (focus (intro wv hgv _; exact (total_any (n := fl) (l := (List.range fl).map T) (A := B2) (c := c2) (by omega) (by simp) (by simp only [List.mem_map, List.mem_range]; rintro x ⟨i, hi, rfl⟩; have := HTB.out i hi; omega) s hs10 wv (by exact ((HRV.out.below HC8.out).more HC8.out.size |>.below hgv).more hgv.size)).mono fun e w' h => ⟨by rw [h.1, HTN.out], by rw [h.2]; exact Below.refl _ _⟩; done)); simp only [Act.put, List.setIfInBounds_toArray, List.set_cons_succ, List.set_cons_zero])
      (apply hav_same (by simp only [List.getElem?_toArray, List.getElem?_cons_succ, List.getElem?_cons_zero]; rfl) (by kernel_rfl); (focus (intro wv hgv _; have hcv : ∀ b o, b < _ → wv.cell? ⟨b, o, none⟩ = _ := fun b o hb => Below.cell hgv (p := ⟨b, o, none⟩) hb; (try go_simp); try rfl; done)); simp only [Act.put, List.setIfInBounds_toArray, List.set_cons_succ, List.set_cons_zero])
      (apply hav_call (by simp only [List.getElem?_toArray, List.getElem?_cons_succ, List.getElem?_cons_zero]; rfl) (by kernel_rfl); (focus (intro wv; go_simp; try exact ⟨rfl, rfl⟩; done)); (focus (intro wv hgv _; have hq := inside_any N ⟨W0, W1⟩ wv; rw [show inB N (Sp.mk W0 W1).lo (Sp.mk W0 W1).hi = true from HIN.out] at hq; unfold spV at hq; exact hq; done)); simp only [Act.put, List.setIfInBounds_toArray, List.set_cons_succ, List.set_cons_zero])
      iterate 5 (apply hav_same (by simp only [List.getElem?_toArray, List.getElem?_cons_succ, List.getElem?_cons_zero]; rfl) (by kernel_rfl); (focus (intro wv hgv _; have hcv : ∀ b o, b < _ → wv.cell? ⟨b, o, none⟩ = _ := fun b o hb => Below.cell hgv (p := ⟨b, o, none⟩) hb; (try go_simp); try rfl; done)); simp only [Act.put, List.setIfInBounds_toArray, List.set_cons_succ, List.set_cons_zero])
      iterate 4 (refine hav_skip (by simp only [List.getElem?_toArray, List.getElem?_cons_succ, List.getElem?_cons_zero]; rfl) (by kernel_rfl) ?_; simp only [Act.put, List.setIfInBounds_toArray, List.set_cons_succ, List.set_cons_zero])
      iterate 8 (apply hav_same (by simp only [List.getElem?_toArray, List.getElem?_cons_succ, List.getElem?_cons_zero]; rfl) (by kernel_rfl); (focus (intro wv hgv _; have hcv : ∀ b o, b < _ → wv.cell? ⟨b, o, none⟩ = _ := fun b o hb => Below.cell hgv (p := ⟨b, o, none⟩) hb; (try go_simp); try rfl; done)); simp only [Act.put, List.setIfInBounds_toArray, List.set_cons_succ, List.set_cons_zero])
      (apply hav_call (by simp only [List.getElem?_toArray, List.getElem?_cons_succ, List.getElem?_cons_zero]; rfl) (by kernel_rfl); (focus (intro wv; go_simp; try exact ⟨rfl, rfl⟩; done)); (focus (intro wv hgv _; have hq := HRT.out s wv hs10 (HC8.out.trans (hgv.mono HC8.out.size)); rw [hfit] at hq; exact hq; done)); simp only [Act.put, List.setIfInBounds_toArray, List.set_cons_succ, List.set_cons_zero])
      iterate 2 (apply hav_same (by simp only [List.getElem?_toArray, List.getElem?_cons_succ, List.getElem?_cons_zero]; rfl) (by kernel_rfl); (focus (intro wv hgv _; have hcv : ∀ b o, b < _ → wv.cell? ⟨b, o, none⟩ = _ := fun b o hb => Below.cell hgv (p := ⟨b, o, none⟩) hb; (try go_simp); try rfl; done)); simp only [Act.put, List.setIfInBounds_toArray, List.set_cons_succ, List.set_cons_zero])
      refine hav_end (fun v9 hgv9 _ => ?_); simp only [List.filterMap]; have hcv9 : ∀ b o, b < _ → v9.cell? ⟨b, o, none⟩ = _ := fun b o hb => Below.cell hgv9 (p := ⟨b, o, none⟩) hb; have hfv9 : ∀ b o, b < _ → v9.frozen? ⟨b, o, none⟩ = _ := fun b o hb => Below.frozen hgv9 (p := ⟨b, o, none⟩) hb; have hzv9 := Below.size hgv9; (try simp at hzv9)
      clear hfit
      have HC9 : Hid (Below V.heap.size V v9) := HC8.out.trans (hgv9.mono HC8.out.size)
      have HRL9 : Hid (RdG inF 1 v9 v9.heap.size LA (intZ L)) := (HRL8.out.below hgv9).more hgv9.size
      clear hgv9 hcv9 hfv9 y0 y1 ly z0 lz
      go_wp2
      go_loopw [120] (fun i wr => ∃ j : Nat, j ≤ ln ∧ i = .int .i64 j ∧ Below V.heap.size V wr ∧ RdG inF 1 wr wr.heap.size LA (intZ L)) (fun i _ => ln - (intOf i).toNat)
      case atStart => exact ⟨0, Nat.zero_le _, rfl, HC9.out, HRL9.out⟩
      case round =>
        obtain ⟨j, hj, rfl, hbr, hrr⟩ := hrel
        have HBR := Lib.hid hbr
        have HRR := Lib.hid hrr
        clear hbr hrr
        by_cases hlt : j < ln
        · obtain ⟨c, hc⟩ : ∃ c, L[j]? = some c := ⟨_, List.getElem?_eq_getElem (by rw [HLN.out]; exact hlt)⟩
          obtain ⟨hcf, hc10⟩ := HLF.out c (List.mem_of_getElem? hc)
          have hci : (intZ L)[j]? = some (c : Int) := by rw [intZ, List.getElem?_map, hc]; rfl
          obtain ⟨b, off, hA, hbb, H0⟩ := rd_in HRR.out j _ hci
          subst hA
          have hbb' : b < wr.heap.size := hbb
          clear hci hc hbb
          go_wp2_with fail
          refine (HRT.out c wr hc10 HBR.out).mono ?_
          rw [hcf]
          rintro e wq ⟨rfl, hbq⟩
          have HBQ : Hid (Below V.heap.size V wq) := HBR.out.trans (hbq.mono HBR.out.size)
          have HRQ := Lib.hid ((HRR.out.below hbq).more hbq.size)
          clear hbq H0 hcf
          go_wp2
          go_roundw
          case rel => exact ⟨j + 1, by omega, by go_num, HBQ.out, HRQ.out⟩
          case measure => simp [intOf]; omega
        · obtain rfl : ln = j := by omega
          go_wp2_with fail
          refine (awake_any _).mono ?_
          rintro e vz ⟨rfl, hbz⟩
          go_wp2
          go_ret
          exact ⟨rfl, HBW.out.trans ((HBV.out.trans ((HBR.out.trans (hbz.mono HBR.out.size)).mono HBV.out.size)).mono HBW.out.size)⟩
  ·
    have hkl : k < fl := by rw [HEN.out] at hk; exact hk
    clear hk
    have hmf : ∀ (fn : Fn) (first cap : Array Value) (w : World), (Instr.makeFunc fn first cap).run Try.prog w = .ok (.func fn first cap) w := fun _ _ _ _ => rfl
    go_upto_region 13 with fail
    clear hmf
    have y0 := HK8'.out.cell 0
    have y1 := HK8'.out.cell 1
    have ly := HK8'.out.lt
    simp at y0 y1
    obtain ⟨z0, lz⟩ := HF8.out v8 HC8.out
    rcases HFI.out with ⟨rfl, hfit⟩ | rfl | ⟨rfl, hfit⟩
    · refine wp_region_havoc [(0,false),(1,false),(2,false),(3,false),(4,false),(5,false),(6,false),(7,false),(8,false),(9,false),(10,false),(11,false),(12,false),(13,false),(14,false),(15,false),(16,false),(17,false),(18,false),(19,false),(20,false),(21,false),(22,false),(23,false),(24,false)] [] (fun _ _ => False) (by kernel_rfl) (by kernel_rfl) (fun _ _ _ _ h => h.elim) ?_
      (apply hav_same (by simp only [List.getElem?_toArray, List.getElem?_cons_zero]; rfl) (by kernel_rfl); (focus (intro wv hgv _; have hcv : ∀ b o, b < _ → wv.cell? ⟨b, o, none⟩ = _ := fun b o hb => Below.cell hgv (p := ⟨b, o, none⟩) hb; (try go_simp); try rfl; done)); simp only [Act.put, List.setIfInBounds_toArray, List.set_cons_succ, List.set_cons_zero])
      (apply hav_same (by simp only [List.getElem?_toArray, List.getElem?_cons_succ, List.getElem?_cons_zero]; rfl) (by kernel_rfl); (focus (intro wv hgv _; have hcv : ∀ b o, b < _ → wv.cell? ⟨b, o, none⟩ = _ := fun b o hb => Below.cell hgv (p := ⟨b, o, none⟩) hb; (try go_simp); try rfl; done)); simp only [Act.put, List.setIfInBounds_toArray, List.set_cons_succ, List.set_cons_zero])
      (apply hav_call (by simp only [List.getElem?_toArray, List.getElem?_cons_succ, List.getElem?_cons_zero]; rfl) (by kernel_rfl); (focus (intro wv; go_simp; try exact ⟨rfl, rfl⟩; done)); (focus (intro wv hgv _; exact (total_any (n := fl) (l := (List.range fl).map T) (A := B2) (c := c2) (by omega) (by simp) (by simp only [List.mem_map, List.mem_range]; rintro x ⟨i, hi, rfl⟩; have := HTB.out i hi; omega) s hs10 wv (by exact ((HRV.out.below HC8.out).more HC8.out.size |>.below hgv).more hgv.size)).mono fun e w' h => ⟨by rw [h.1, HTN.out], by rw [h.2]; exact Below.refl _ _⟩; done)); simp only [Act.put, List.setIfInBounds_toArray, List.set_cons_succ, List.set_cons_zero])
      (apply hav_same (by simp only [List.getElem?_toArray, List.getElem?_cons_succ, List.getElem?_cons_zero]; rfl) (by kernel_rfl); (focus (intro wv hgv _; have hcv : ∀ b o, b < _ → wv.cell? ⟨b, o, none⟩ = _ := fun b o hb => Below.cell hgv (p := ⟨b, o, none⟩) hb; (try go_simp); try rfl; done)); simp only [Act.put, List.setIfInBounds_toArray, List.set_cons_succ, List.set_cons_zero])
      (apply hav_call (by simp only [List.getElem?_toArray, List.getElem?_cons_succ, List.getElem?_cons_zero]; rfl) (by kernel_rfl); (focus (intro wv; go_simp; try exact ⟨rfl, rfl⟩; done)); (focus (intro wv hgv _; have hq := inside_any N ⟨W0, W1⟩ wv; rw [show inB N (Sp.mk W0 W1).lo (Sp.mk W0 W1).hi = true from HIN.out] at hq; unfold spV at hq; exact hq; done)); simp only [Act.put, List.setIfInBounds_toArray, List.set_cons_succ, List.set_cons_zero])
      iterate 7 (apply hav_same (by simp only [List.getElem?_toArray, List.getElem?_cons_succ, List.getElem?_cons_zero]; rfl) (by kernel_rfl); (focus (intro wv hgv _; have hcv : ∀ b o, b < _ → wv.cell? ⟨b, o, none⟩ = _ := fun b o hb => Below.cell hgv (p := ⟨b, o, none⟩) hb; (try go_simp); try rfl; done)); simp only [Act.put, List.setIfInBounds_toArray, List.set_cons_succ, List.set_cons_zero])
      (apply hav_call (by simp only [List.getElem?_toArray, List.getElem?_cons_succ, List.getElem?_cons_zero]; rfl) (by kernel_rfl); (focus (intro wv; go_simp; try exact ⟨rfl, rfl⟩; done)); (focus (intro wv hgv _; have hq := HRT.out s wv hs10 (HC8.out.trans (hgv.mono HC8.out.size)); rw [hfit] at hq; exact hq; done)); simp only [Act.put, List.setIfInBounds_toArray, List.set_cons_succ, List.set_cons_zero])
      iterate 7 (apply hav_same (by simp only [List.getElem?_toArray, List.getElem?_cons_succ, List.getElem?_cons_zero]; rfl) (by kernel_rfl); (focus (intro wv hgv _; have hcv : ∀ b o, b < _ → wv.cell? ⟨b, o, none⟩ = _ := fun b o hb => Below.cell hgv (p := ⟨b, o, none⟩) hb; (try go_simp); try rfl; done)); simp only [Act.put, List.setIfInBounds_toArray, List.set_cons_succ, List.set_cons_zero])
      iterate 3 (refine hav_skip (by simp only [List.getElem?_toArray, List.getElem?_cons_succ, List.getElem?_cons_zero]; rfl) (by kernel_rfl) ?_; simp only [Act.put, List.setIfInBounds_toArray, List.set_cons_succ, List.set_cons_zero])
      iterate 2 (apply hav_same (by simp only [List.getElem?_toArray, List.getElem?_cons_succ, List.getElem?_cons_zero]; rfl) (by kernel_rfl); (focus (intro wv hgv _; have hcv : ∀ b o, b < _ → wv.cell? ⟨b, o, none⟩ = _ := fun b o hb => Below.cell hgv (p := ⟨b, o, none⟩) hb; (try go_simp); try rfl; done)); simp only [Act.put, List.setIfInBounds_toArray, List.set_cons_succ, List.set_cons_zero])
      refine hav_end (fun v9 hgv9 _ => ?_); simp only [List.filterMap]; have hcv9 : ∀ b o, b < _ → v9.cell? ⟨b, o, none⟩ = _ := fun b o hb => Below.cell hgv9 (p := ⟨b, o, none⟩) hb; have hfv9 : ∀ b o, b < _ → v9.frozen? ⟨b, o, none⟩ = _ := fun b o hb => Below.frozen hgv9 (p := ⟨b, o, none⟩) hb; have hzv9 := Below.size hgv9; (try simp at hzv9)
      clear hfit
      have HC9 : Hid (Below V.heap.size V v9) := HC8.out.trans (hgv9.mono HC8.out.size)
      have HRL9 : Hid (RdG inF 1 v9 v9.heap.size LA (intZ L)) := (HRL8.out.below hgv9).more hgv9.size
      clear hgv9 hcv9 hfv9 y0 y1 ly z0 lz
      go_wp2
      go_loopw [120] (fun i wr => ∃ j : Nat, j ≤ ln ∧ i = .int .i64 j ∧ Below V.heap.size V wr ∧ RdG inF 1 wr wr.heap.size LA (intZ L)) (fun i _ => ln - (intOf i).toNat)
      case atStart => exact ⟨0, Nat.zero_le _, rfl, HC9.out, HRL9.out⟩
      case round =>
        obtain ⟨j, hj, rfl, hbr, hrr⟩ := hrel
        have HBR := Lib.hid hbr
        have HRR := Lib.hid hrr
        clear hbr hrr
        by_cases hlt : j < ln
        · obtain ⟨c, hc⟩ : ∃ c, L[j]? = some c := ⟨_, List.getElem?_eq_getElem (by rw [HLN.out]; exact hlt)⟩
          obtain ⟨hcf, hc10⟩ := HLF.out c (List.mem_of_getElem? hc)
          have hci : (intZ L)[j]? = some (c : Int) := by rw [intZ, List.getElem?_map, hc]; rfl
          obtain ⟨b, off, hA, hbb, H0⟩ := rd_in HRR.out j _ hci
          subst hA
          have hbb' : b < wr.heap.size := hbb
          clear hci hc hbb
          go_wp2_with fail
          refine (HRT.out c wr hc10 HBR.out).mono ?_
          rw [hcf]
          rintro e wq ⟨rfl, hbq⟩
          have HBQ : Hid (Below V.heap.size V wq) := HBR.out.trans (hbq.mono HBR.out.size)
          have HRQ := Lib.hid ((HRR.out.below hbq).more hbq.size)
          clear hbq H0 hcf
          go_wp2
          go_roundw
          case rel => exact ⟨j + 1, by omega, by go_num, HBQ.out, HRQ.out⟩
          case measure => simp [intOf]; omega
        · obtain rfl : ln = j := by omega
          obtain ⟨x0, x1, x2, x3, x4, l3⟩ := HF3.out wr (HBV.out.trans (HBR.out.mono HBV.out.size))
          have htb := tb_i64 s k (by omega)
          rw [hkb] at htb
          have h2k : 2 ^ k ≤ 512 := by have := Nat.pow_le_pow_right (n := 2) (by omega) (show k ≤ 9 by omega); omega
          have h2p : 1 ≤ 2 ^ k := Nat.two_pow_pos k
          obtain ⟨q, hq⟩ : ∃ q, s ||| 2 ^ k = q := ⟨_, rfl⟩
          have HW2 : Hid (IntKind.i64.wrap (2 ^ k) = 2 ^ k) := wrap_i64 (by have := pow_cast k; omega) (by have := pow_cast k; omega)
          have HOR : Hid (bits BinOp.or IntKind.i64 (s : Int) (2 ^ k) = (q : Int)) := by
            have h := or_i64 s (2 ^ k) (by omega) (by omega)
            rw [pow_cast, hq] at h
            exact h
          rw [hq] at hkf hk10
          clear hq h2k h2p
          have hor := HOR.out
          have hw2 := HW2.out
          have hg : decide (fl ≤ k) = false := by simp; omega
          go_wp2_with fail
          refine (HRT.out q wr hk10 HBR.out).mono ?_
          rw [hkf]
          rintro e wq ⟨rfl, hbq⟩
          have HBQ : Hid (Below V.heap.size V wq) := HBR.out.trans (hbq.mono HBR.out.size)
          clear hbq hor hw2 htb hkf
          clear x0 x1 x2 x3 x4 l3
          go_wp2_with fail
          refine (awake_any _).mono ?_
          rintro e vz ⟨rfl, hbz⟩
          go_wp2
          go_ret
          exact ⟨rfl, HBW.out.trans ((HBV.out.trans ((HBQ.out.trans (hbz.mono HBQ.out.size)).mono HBV.out.size)).mono HBW.out.size)⟩
    · refine wp_region_havoc [(0,false),(1,false),(2,false),(3,false),(4,false),(5,false),(6,false),(7,false),(8,false),(9,false),(10,false),(11,false),(12,false),(13,false),(14,false),(15,false),(16,false),(17,false),(18,false),(19,false),(20,false),(21,false),(22,false),(23,false),(24,false)] [] (fun _ _ => False) (by kernel_rfl) (by kernel_rfl) (fun _ _ _ _ h => h.elim) ?_
      (apply hav_same (by simp only [List.getElem?_toArray, List.getElem?_cons_zero]; rfl) (by kernel_rfl); (focus (intro wv hgv _; have hcv : ∀ b o, b < _ → wv.cell? ⟨b, o, none⟩ = _ := fun b o hb => Below.cell hgv (p := ⟨b, o, none⟩) hb; (try go_simp); try rfl; done)); simp only [Act.put, List.setIfInBounds_toArray, List.set_cons_succ, List.set_cons_zero])
      (apply hav_same (by simp only [List.getElem?_toArray, List.getElem?_cons_succ, List.getElem?_cons_zero]; rfl) (by kernel_rfl); (focus (intro wv hgv _; have hcv : ∀ b o, b < _ → wv.cell? ⟨b, o, none⟩ = _ := fun b o hb => Below.cell hgv (p := ⟨b, o, none⟩) hb; (try go_simp); try rfl; done)); simp only [Act.put, List.setIfInBounds_toArray, List.set_cons_succ, List.set_cons_zero])
      (apply hav_call (by simp only [List.getElem?_toArray, List.getElem?_cons_succ, List.getElem?_cons_zero]; rfl) (by kernel_rfl); (focus (intro wv; go_simp; try exact ⟨rfl, rfl⟩; done)); (focus (intro wv hgv _; exact (total_any (n := fl) (l := (List.range fl).map T) (A := B2) (c := c2) (by omega) (by simp) (by simp only [List.mem_map, List.mem_range]; rintro x ⟨i, hi, rfl⟩; have := HTB.out i hi; omega) s hs10 wv (by exact ((HRV.out.below HC8.out).more HC8.out.size |>.below hgv).more hgv.size)).mono fun e w' h => ⟨by rw [h.1, HTN.out], by rw [h.2]; exact Below.refl _ _⟩; done)); simp only [Act.put, List.setIfInBounds_toArray, List.set_cons_succ, List.set_cons_zero])
      (apply hav_same (by simp only [List.getElem?_toArray, List.getElem?_cons_succ, List.getElem?_cons_zero]; rfl) (by kernel_rfl); (focus (intro wv hgv _; have hcv : ∀ b o, b < _ → wv.cell? ⟨b, o, none⟩ = _ := fun b o hb => Below.cell hgv (p := ⟨b, o, none⟩) hb; (try go_simp); try rfl; done)); simp only [Act.put, List.setIfInBounds_toArray, List.set_cons_succ, List.set_cons_zero])
      (apply hav_call (by simp only [List.getElem?_toArray, List.getElem?_cons_succ, List.getElem?_cons_zero]; rfl) (by kernel_rfl); (focus (intro wv; go_simp; try exact ⟨rfl, rfl⟩; done)); (focus (intro wv hgv _; have hq := inside_any N ⟨W0, W1⟩ wv; rw [show inB N (Sp.mk W0 W1).lo (Sp.mk W0 W1).hi = true from HIN.out] at hq; unfold spV at hq; exact hq; done)); simp only [Act.put, List.setIfInBounds_toArray, List.set_cons_succ, List.set_cons_zero])
      iterate 5 (apply hav_same (by simp only [List.getElem?_toArray, List.getElem?_cons_succ, List.getElem?_cons_zero]; rfl) (by kernel_rfl); (focus (intro wv hgv _; have hcv : ∀ b o, b < _ → wv.cell? ⟨b, o, none⟩ = _ := fun b o hb => Below.cell hgv (p := ⟨b, o, none⟩) hb; (try go_simp); try rfl; done)); simp only [Act.put, List.setIfInBounds_toArray, List.set_cons_succ, List.set_cons_zero])
      iterate 4 (refine hav_skip (by simp only [List.getElem?_toArray, List.getElem?_cons_succ, List.getElem?_cons_zero]; rfl) (by kernel_rfl) ?_; simp only [Act.put, List.setIfInBounds_toArray, List.set_cons_succ, List.set_cons_zero])
      iterate 6 (apply hav_same (by simp only [List.getElem?_toArray, List.getElem?_cons_succ, List.getElem?_cons_zero]; rfl) (by kernel_rfl); (focus (intro wv hgv _; have hcv : ∀ b o, b < _ → wv.cell? ⟨b, o, none⟩ = _ := fun b o hb => Below.cell hgv (p := ⟨b, o, none⟩) hb; (try go_simp); try rfl; done)); simp only [Act.put, List.setIfInBounds_toArray, List.set_cons_succ, List.set_cons_zero])
      iterate 3 (refine hav_skip (by simp only [List.getElem?_toArray, List.getElem?_cons_succ, List.getElem?_cons_zero]; rfl) (by kernel_rfl) ?_; simp only [Act.put, List.setIfInBounds_toArray, List.set_cons_succ, List.set_cons_zero])
      iterate 2 (apply hav_same (by simp only [List.getElem?_toArray, List.getElem?_cons_succ, List.getElem?_cons_zero]; rfl) (by kernel_rfl); (focus (intro wv hgv _; have hcv : ∀ b o, b < _ → wv.cell? ⟨b, o, none⟩ = _ := fun b o hb => Below.cell hgv (p := ⟨b, o, none⟩) hb; (try go_simp); try rfl; done)); simp only [Act.put, List.setIfInBounds_toArray, List.set_cons_succ, List.set_cons_zero])
      refine hav_end (fun v9 hgv9 _ => ?_); simp only [List.filterMap]; have hcv9 : ∀ b o, b < _ → v9.cell? ⟨b, o, none⟩ = _ := fun b o hb => Below.cell hgv9 (p := ⟨b, o, none⟩) hb; have hfv9 : ∀ b o, b < _ → v9.frozen? ⟨b, o, none⟩ = _ := fun b o hb => Below.frozen hgv9 (p := ⟨b, o, none⟩) hb; have hzv9 := Below.size hgv9; (try simp at hzv9)
      have HC9 : Hid (Below V.heap.size V v9) := HC8.out.trans (hgv9.mono HC8.out.size)
      have HRL9 : Hid (RdG inF 1 v9 v9.heap.size LA (intZ L)) := (HRL8.out.below hgv9).more hgv9.size
      clear hgv9 hcv9 hfv9 y0 y1 ly z0 lz
      go_wp2
      go_loopw [120] (fun i wr => ∃ j : Nat, j ≤ ln ∧ i = .int .i64 j ∧ Below V.heap.size V wr ∧ RdG inF 1 wr wr.heap.size LA (intZ L)) (fun i _ => ln - (intOf i).toNat)
      case atStart => exact ⟨0, Nat.zero_le _, rfl, HC9.out, HRL9.out⟩
      case round =>
        obtain ⟨j, hj, rfl, hbr, hrr⟩ := hrel
        have HBR := Lib.hid hbr
        have HRR := Lib.hid hrr
        clear hbr hrr
        by_cases hlt : j < ln
        · obtain ⟨c, hc⟩ : ∃ c, L[j]? = some c := ⟨_, List.getElem?_eq_getElem (by rw [HLN.out]; exact hlt)⟩
          obtain ⟨hcf, hc10⟩ := HLF.out c (List.mem_of_getElem? hc)
          have hci : (intZ L)[j]? = some (c : Int) := by rw [intZ, List.getElem?_map, hc]; rfl
          obtain ⟨b, off, hA, hbb, H0⟩ := rd_in HRR.out j _ hci
          subst hA
          have hbb' : b < wr.heap.size := hbb
          clear hci hc hbb
          go_wp2_with fail
          refine (HRT.out c wr hc10 HBR.out).mono ?_
          rw [hcf]
          rintro e wq ⟨rfl, hbq⟩
          have HBQ : Hid (Below V.heap.size V wq) := HBR.out.trans (hbq.mono HBR.out.size)
          have HRQ := Lib.hid ((HRR.out.below hbq).more hbq.size)
          clear hbq H0 hcf
          go_wp2
          go_roundw
          case rel => exact ⟨j + 1, by omega, by go_num, HBQ.out, HRQ.out⟩
          case measure => simp [intOf]; omega
        · obtain rfl : ln = j := by omega
          obtain ⟨x0, x1, x2, x3, x4, l3⟩ := HF3.out wr (HBV.out.trans (HBR.out.mono HBV.out.size))
          have htb := tb_i64 s k (by omega)
          rw [hkb] at htb
          have h2k : 2 ^ k ≤ 512 := by have := Nat.pow_le_pow_right (n := 2) (by omega) (show k ≤ 9 by omega); omega
          have h2p : 1 ≤ 2 ^ k := Nat.two_pow_pos k
          obtain ⟨q, hq⟩ : ∃ q, s ||| 2 ^ k = q := ⟨_, rfl⟩
          have HW2 : Hid (IntKind.i64.wrap (2 ^ k) = 2 ^ k) := wrap_i64 (by have := pow_cast k; omega) (by have := pow_cast k; omega)
          have HOR : Hid (bits BinOp.or IntKind.i64 (s : Int) (2 ^ k) = (q : Int)) := by
            have h := or_i64 s (2 ^ k) (by omega) (by omega)
            rw [pow_cast, hq] at h
            exact h
          rw [hq] at hkf hk10
          clear hq h2k h2p
          have hor := HOR.out
          have hw2 := HW2.out
          have hg : decide (fl ≤ k) = false := by simp; omega
          go_wp2_with fail
          refine (HRT.out q wr hk10 HBR.out).mono ?_
          rw [hkf]
          rintro e wq ⟨rfl, hbq⟩
          have HBQ : Hid (Below V.heap.size V wq) := HBR.out.trans (hbq.mono HBR.out.size)
          clear hbq hor hw2 htb hkf
          clear x0 x1 x2 x3 x4 l3
          go_wp2_with fail
          refine (awake_any _).mono ?_
          rintro e vz ⟨rfl, hbz⟩
          go_wp2
          go_ret
          exact ⟨rfl, HBW.out.trans ((HBV.out.trans ((HBQ.out.trans (hbz.mono HBQ.out.size)).mono HBV.out.size)).mono HBW.out.size)⟩
    · refine wp_region_havoc [(0,false),(1,false),(2,false),(3,false),(4,false),(5,false),(6,false),(7,false),(8,false),(9,false),(10,false),(11,false),(12,false),(13,false),(14,false),(15,false),(16,false),(17,false),(18,false),(19,false),(20,false),(21,false),(22,false),(23,false),(24,false)] [] (fun _ _ => False) (by kernel_rfl) (by kernel_rfl) (fun _ _ _ _ h => h.elim) ?_
      (apply hav_same (by simp only [List.getElem?_toArray, List.getElem?_cons_zero]; rfl) (by kernel_rfl); (focus (intro wv hgv _; have hcv : ∀ b o, b < _ → wv.cell? ⟨b, o, none⟩ = _ := fun b o hb => Below.cell hgv (p := ⟨b, o, none⟩) hb; (try go_simp); try rfl; done)); simp only [Act.put, List.setIfInBounds_toArray, List.set_cons_succ, List.set_cons_zero])
      (apply hav_same (by simp only [List.getElem?_toArray, List.getElem?_cons_succ, List.getElem?_cons_zero]; rfl) (by kernel_rfl); (focus (intro wv hgv _; have hcv : ∀ b o, b < _ → wv.cell? ⟨b, o, none⟩ = _ := fun b o hb => Below.cell hgv (p := ⟨b, o, none⟩) hb; (try go_simp); try rfl; done)); simp only [Act.put, List.setIfInBounds_toArray, List.set_cons_succ, List.set_cons_zero])
      (apply hav_call (by simp only [List.getElem?_toArray, List.getElem?_cons_succ, List.getElem?_cons_zero]; rfl) (by kernel_rfl); (focus (intro wv; go_simp; try exact ⟨rfl, rfl⟩; done)); (focus (intro wv hgv _; exact (total_any (n := fl) (l := (List.range fl).map T) (A := B2) (c := c2) (by omega) (by simp) (by simp only [List.mem_map, List.mem_range]; rintro x ⟨i, hi, rfl⟩; have := HTB.out i hi; omega) s hs10 wv (by exact ((HRV.out.below HC8.out).more HC8.out.size |>.below hgv).more hgv.size)).mono fun e w' h => ⟨by rw [h.1, HTN.out], by rw [h.2]; exact Below.refl _ _⟩; done)); simp only [Act.put, List.setIfInBounds_toArray, List.set_cons_succ, List.set_cons_zero])
      (apply hav_same (by simp only [List.getElem?_toArray, List.getElem?_cons_succ, List.getElem?_cons_zero]; rfl) (by kernel_rfl); (focus (intro wv hgv _; have hcv : ∀ b o, b < _ → wv.cell? ⟨b, o, none⟩ = _ := fun b o hb => Below.cell hgv (p := ⟨b, o, none⟩) hb; (try go_simp); try rfl; done)); simp only [Act.put, List.setIfInBounds_toArray, List.set_cons_succ, List.set_cons_zero])
      (apply hav_call (by simp only [List.getElem?_toArray, List.getElem?_cons_succ, List.getElem?_cons_zero]; rfl) (by kernel_rfl); (focus (intro wv; go_simp; try exact ⟨rfl, rfl⟩; done)); (focus (intro wv hgv _; have hq := inside_any N ⟨W0, W1⟩ wv; rw [show inB N (Sp.mk W0 W1).lo (Sp.mk W0 W1).hi = true from HIN.out] at hq; unfold spV at hq; exact hq; done)); simp only [Act.put, List.setIfInBounds_toArray, List.set_cons_succ, List.set_cons_zero])
      iterate 5 (apply hav_same (by simp only [List.getElem?_toArray, List.getElem?_cons_succ, List.getElem?_cons_zero]; rfl) (by kernel_rfl); (focus (intro wv hgv _; have hcv : ∀ b o, b < _ → wv.cell? ⟨b, o, none⟩ = _ := fun b o hb => Below.cell hgv (p := ⟨b, o, none⟩) hb; (try go_simp); try rfl; done)); simp only [Act.put, List.setIfInBounds_toArray, List.set_cons_succ, List.set_cons_zero])
      iterate 4 (refine hav_skip (by simp only [List.getElem?_toArray, List.getElem?_cons_succ, List.getElem?_cons_zero]; rfl) (by kernel_rfl) ?_; simp only [Act.put, List.setIfInBounds_toArray, List.set_cons_succ, List.set_cons_zero])
      iterate 8 (apply hav_same (by simp only [List.getElem?_toArray, List.getElem?_cons_succ, List.getElem?_cons_zero]; rfl) (by kernel_rfl); (focus (intro wv hgv _; have hcv : ∀ b o, b < _ → wv.cell? ⟨b, o, none⟩ = _ := fun b o hb => Below.cell hgv (p := ⟨b, o, none⟩) hb; (try go_simp); try rfl; done)); simp only [Act.put, List.setIfInBounds_toArray, List.set_cons_succ, List.set_cons_zero])
      (apply hav_call (by simp only [List.getElem?_toArray, List.getElem?_cons_succ, List.getElem?_cons_zero]; rfl) (by kernel_rfl); (focus (intro wv; go_simp; try exact ⟨rfl, rfl⟩; done)); (focus (intro wv hgv _; have hq := HRT.out s wv hs10 (HC8.out.trans (hgv.mono HC8.out.size)); rw [hfit] at hq; exact hq; done)); simp only [Act.put, List.setIfInBounds_toArray, List.set_cons_succ, List.set_cons_zero])
      iterate 2 (apply hav_same (by simp only [List.getElem?_toArray, List.getElem?_cons_succ, List.getElem?_cons_zero]; rfl) (by kernel_rfl); (focus (intro wv hgv _; have hcv : ∀ b o, b < _ → wv.cell? ⟨b, o, none⟩ = _ := fun b o hb => Below.cell hgv (p := ⟨b, o, none⟩) hb; (try go_simp); try rfl; done)); simp only [Act.put, List.setIfInBounds_toArray, List.set_cons_succ, List.set_cons_zero])
      refine hav_end (fun v9 hgv9 _ => ?_); simp only [List.filterMap]; have hcv9 : ∀ b o, b < _ → v9.cell? ⟨b, o, none⟩ = _ := fun b o hb => Below.cell hgv9 (p := ⟨b, o, none⟩) hb; have hfv9 : ∀ b o, b < _ → v9.frozen? ⟨b, o, none⟩ = _ := fun b o hb => Below.frozen hgv9 (p := ⟨b, o, none⟩) hb; have hzv9 := Below.size hgv9; (try simp at hzv9)
      clear hfit
      have HC9 : Hid (Below V.heap.size V v9) := HC8.out.trans (hgv9.mono HC8.out.size)
      have HRL9 : Hid (RdG inF 1 v9 v9.heap.size LA (intZ L)) := (HRL8.out.below hgv9).more hgv9.size
      clear hgv9 hcv9 hfv9 y0 y1 ly z0 lz
      go_wp2
      go_loopw [120] (fun i wr => ∃ j : Nat, j ≤ ln ∧ i = .int .i64 j ∧ Below V.heap.size V wr ∧ RdG inF 1 wr wr.heap.size LA (intZ L)) (fun i _ => ln - (intOf i).toNat)
      case atStart => exact ⟨0, Nat.zero_le _, rfl, HC9.out, HRL9.out⟩
      case round =>
        obtain ⟨j, hj, rfl, hbr, hrr⟩ := hrel
        have HBR := Lib.hid hbr
        have HRR := Lib.hid hrr
        clear hbr hrr
        by_cases hlt : j < ln
        · obtain ⟨c, hc⟩ : ∃ c, L[j]? = some c := ⟨_, List.getElem?_eq_getElem (by rw [HLN.out]; exact hlt)⟩
          obtain ⟨hcf, hc10⟩ := HLF.out c (List.mem_of_getElem? hc)
          have hci : (intZ L)[j]? = some (c : Int) := by rw [intZ, List.getElem?_map, hc]; rfl
          obtain ⟨b, off, hA, hbb, H0⟩ := rd_in HRR.out j _ hci
          subst hA
          have hbb' : b < wr.heap.size := hbb
          clear hci hc hbb
          go_wp2_with fail
          refine (HRT.out c wr hc10 HBR.out).mono ?_
          rw [hcf]
          rintro e wq ⟨rfl, hbq⟩
          have HBQ : Hid (Below V.heap.size V wq) := HBR.out.trans (hbq.mono HBR.out.size)
          have HRQ := Lib.hid ((HRR.out.below hbq).more hbq.size)
          clear hbq H0 hcf
          go_wp2
          go_roundw
          case rel => exact ⟨j + 1, by omega, by go_num, HBQ.out, HRQ.out⟩
          case measure => simp [intOf]; omega
        · obtain rfl : ln = j := by omega
          obtain ⟨x0, x1, x2, x3, x4, l3⟩ := HF3.out wr (HBV.out.trans (HBR.out.mono HBV.out.size))
          have htb := tb_i64 s k (by omega)
          rw [hkb] at htb
          have h2k : 2 ^ k ≤ 512 := by have := Nat.pow_le_pow_right (n := 2) (by omega) (show k ≤ 9 by omega); omega
          have h2p : 1 ≤ 2 ^ k := Nat.two_pow_pos k
          obtain ⟨q, hq⟩ : ∃ q, s ||| 2 ^ k = q := ⟨_, rfl⟩
          have HW2 : Hid (IntKind.i64.wrap (2 ^ k) = 2 ^ k) := wrap_i64 (by have := pow_cast k; omega) (by have := pow_cast k; omega)
          have HOR : Hid (bits BinOp.or IntKind.i64 (s : Int) (2 ^ k) = (q : Int)) := by
            have h := or_i64 s (2 ^ k) (by omega) (by omega)
            rw [pow_cast, hq] at h
            exact h
          rw [hq] at hkf hk10
          clear hq h2k h2p
          have hor := HOR.out
          have hw2 := HW2.out
          have hg : decide (fl ≤ k) = false := by simp; omega
          go_wp2_with fail
          refine (HRT.out q wr hk10 HBR.out).mono ?_
          rw [hkf]
          rintro e wq ⟨rfl, hbq⟩
          have HBQ : Hid (Below V.heap.size V wq) := HBR.out.trans (hbq.mono HBR.out.size)
          clear hbq hor hw2 htb hkf
          clear x0 x1 x2 x3 x4 l3
          go_wp2_with fail
          refine (awake_any _).mono ?_
          rintro e vz ⟨rfl, hbz⟩
          go_wp2
          go_ret
          exact ⟨rfl, HBW.out.trans ((HBV.out.trans ((HBQ.out.trans (hbz.mono HBQ.out.size)).mono HBV.out.size)).mono HBW.out.size)⟩
end
end Go.Proofs.Ytbfjebglaimcmaa
