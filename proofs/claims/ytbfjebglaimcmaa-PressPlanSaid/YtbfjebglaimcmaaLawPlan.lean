/- The walk of PressPlan: for every press and numbers it answers true; condition: numbers are of 16 bits. -/
import Derived.Test.YtbfjebglaimcmaaLawPress
import Derived.Test.YtbfjebglaimcmaaLawPlans
namespace Go.Proofs.Ytbfjebglaimcmaa
open Go.RowKit Go.Hav
theorem waits_or (L : List Nat) (k : Nat) : waits L k = !(orL L).testBit k := by rw [tb_orL]; rfl
theorem wrap_tail (P : Nat) : (P : Int) = (P : Int) := rfl
section
variable {low top bales : Int} {fa wa ua : Option Addr} {fl fc wl wp ul uc : Nat} {p : PressD} {us : List Nat}
set_option maxRecDepth 100000 in
set_option maxHeartbeats 6400000 in
theorem PressPlan_any (hu : us.length = ul) (hub : ∀ x ∈ us, x ≤ 65535) (hul : ul ≤ 9223372036854775807) (w : World) (hP : PressIn w w.heap.size fa fl low top bales wa wl p) (hU : RdG u16F 1 w w.heap.size ua us) :
    Calls Try.prog 9 #[pressV fa fl fc low top bales wa wl wp, .slice ua ul uc] w fun e w' => e = .returned (.bool true) ∧ Below w.heap.size w w' := by
  have HP := Lib.hid hP
  have HU := Lib.hid hU
  have HUL := Lib.hid hu
  have HUB := Lib.hid hub
  have HEN : Hid (p.n = fl) := hP.efl
  have HEB : Hid (p.bales = bales) := hP.ebales
  clear hP hU hu hub
  unfold pressV
  go_enter Try.func9, Try.ntmps9
  go_wp2_with fail
  obtain ⟨W, hW⟩ : ∃ W, W = w.alloc (Obj.cells #[Value.slice fa fl fc, Value.int IntKind.i64 low, Value.int IntKind.i64 top, Value.int IntKind.i64 bales, Value.slice wa wl wp] 25) := ⟨_, rfl⟩
  have HX : Hid (Blk W w.heap.size 25 #[Value.slice fa fl fc, Value.int IntKind.i64 low, Value.int IntKind.i64 top, Value.int IntKind.i64 bales, Value.slice wa wl wp]) := by rw [hW]; exact Blk.new w 25 _
  have HBW : Hid (Below w.heap.size w W) := by rw [hW]; exact (Below.refl _ _).alloc (Nat.le_refl _) _
  rw [← hW]
  clear hW
  have HPW : Hid (PressIn W W.heap.size fa fl low top bales wa wl p) := HP.out.grow HBW.out
  have HF : Hid (∀ wv, Below W.heap.size W wv → wv.cell? ⟨w.heap.size, 0, none⟩ = some (Value.slice fa fl fc) ∧ wv.cell? ⟨w.heap.size, 1, none⟩ = some (Value.int IntKind.i64 low) ∧ wv.cell? ⟨w.heap.size, 2, none⟩ = some (Value.int IntKind.i64 top) ∧ wv.cell? ⟨w.heap.size, 3, none⟩ = some (Value.int IntKind.i64 bales) ∧ wv.cell? ⟨w.heap.size, 4, none⟩ = some (Value.slice wa wl wp) ∧ w.heap.size < wv.heap.size) := fun wv hb => blk5 (HX.out.below hb HX.out.lt)
  refine (fine_any (p := p) W (by exact HPW.out)).mono ?_
  rintro e v1 ⟨⟨b, rfl, hb⟩, hb1⟩
  have HC1 := Lib.hid hb1
  clear hb1
  cases b
  · clear hb
    go_wp2_with fail
    refine (awake_any _).mono ?_
    rintro e v2 ⟨rfl, hb2⟩
    go_wp2
    go_ret
    exact ⟨rfl, HBW.out.trans ((HC1.out.trans (hb2.mono HC1.out.size)).mono HBW.out.size)⟩
  obtain ⟨hv, h40, h41⟩ := hb rfl
  clear hb
  have hhead := PressD.ok_head hv
  have hn10 : fl ≤ 10 := by rw [← HEN.out]; exact hhead.1
  have hbl0 : 0 ≤ bales := by rw [← HEB.out]; exact hhead.2.2.2.2.1
  have hbl5 : bales ≤ 5 := by rw [← HEB.out]; exact hhead.2.2.2.2.2.1
  have HV := Lib.hid hv
  obtain ⟨M0, M1, M2, hM⟩ : ∃ a b c, mostR p = .tuple #[.int .i64 a, .int .i64 b, .int .i64 c] := by
    unfold mostR
    split
    · exact ⟨_, _, _, rfl⟩
    · exact ⟨_, _, _, rfl⟩
  obtain ⟨W0, W1, W2, W3, hWR⟩ : ∃ a b c d, waitR p = .tuple #[.agg #[.int .i64 a, .int .i64 b, .int .i64 c], .int .i64 d] := by
    unfold waitR waitV
    split
    · exact ⟨_, _, _, _, rfl⟩
    · exact ⟨_, _, _, _, rfl⟩
  obtain ⟨E, hE⟩ : ∃ E, planE p = E := ⟨_, rfl⟩
  obtain ⟨Z, hZ⟩ : ∃ Z, intsP p = Z := ⟨_, rfl⟩
  obtain ⟨n, hn⟩ : ∃ n, Z.length = n := ⟨_, rfl⟩
  have HM := Lib.hid hM
  have HWR := Lib.hid hWR
  have HE := Lib.hid hE
  have HZ := Lib.hid hZ
  have HN := Lib.hid hn
  clear hhead hv hM hWR hE hZ hn
  obtain ⟨x0, x1, x2, x3, x4, xl⟩ := HF.out v1 HC1.out
  go_wp2_with fail
  refine (PPlan_any (p := p) v1 (by exact HPW.out.grow HC1.out)).mono ?_
  rw [HE.out, HZ.out]
  rintro e v2 ⟨v, rfl, hown, hb2⟩
  obtain ⟨LA, lc, rfl, hrd, -⟩ := own_rd (l := Z) inF_len (by decide) hown
  rw [HN.out]
  have HR2 := Lib.hid hrd
  have HC2 : Hid (Below W.heap.size W v2) := HC1.out.trans (hb2.mono HC1.out.size)
  clear hown hrd hb2 x0 x1 x2 x3 x4 xl
  obtain ⟨x0, x1, x2, x3, x4, xl⟩ := HF.out v2 HC2.out
  go_wp2_with fail
  refine (PMost_any (p := p) v2 (by exact HPW.out.grow HC2.out)).mono ?_
  rw [HM.out]
  rintro e v3 ⟨rfl, hb3⟩
  have HC3 : Hid (Below W.heap.size W v3) := HC2.out.trans (hb3.mono HC2.out.size)
  have HR3 : Hid (RdG inF 1 v3 v3.heap.size LA Z) := (HR2.out.below hb3).more hb3.size
  clear hb3 x0 x1 x2 x3 x4 xl
  obtain ⟨x0, x1, x2, x3, x4, xl⟩ := HF.out v3 HC3.out
  go_wp2_with fail
  refine (PWait_any (p := p) v3 (by exact HPW.out.grow HC3.out)).mono ?_
  rw [HWR.out]
  rintro e v4 ⟨rfl, hb4⟩
  have HC4 : Hid (Below W.heap.size W v4) := HC3.out.trans (hb4.mono HC3.out.size)
  have HR4 : Hid (RdG inF 1 v4 v4.heap.size LA Z) := (HR3.out.below hb4).more hb4.size
  clear hb4 x0 x1 x2 x3 x4 xl
  go_upto_region 6 with fail
  obtain ⟨V4, hV4⟩ : ∃ V, V = v4.alloc (.cells #[.int .i64 W0, .int .i64 W1, .int .i64 W2] 41) := ⟨_, rfl⟩
  have HS4 : Hid (Blk V4 v4.heap.size 41 #[.int .i64 W0, .int .i64 W1, .int .i64 W2]) := by rw [hV4]; exact Blk.new v4 41 _
  have HY4 : Hid (Below v4.heap.size v4 V4) := by rw [hV4]; exact (Below.refl _ _).alloc (Nat.le_refl _) _
  have HD4 : Hid (Below W.heap.size W V4) := HC4.out.trans (HY4.out.mono HC4.out.size)
  have HR5 : Hid (RdG inF 1 V4 V4.heap.size LA Z) := (HR4.out.below HY4.out).more HY4.out.size
  rw [← hV4]
  clear hV4
  by_cases h0 : E = 0
  case neg =>
    have he10 : E = 10 := by
      rw [← HE.out] at h0 ⊢
      unfold planE at h0 ⊢
      rw [if_neg (by rw [HV.out]; simp)] at h0 ⊢
      split at h0
      · exact absurd rfl h0
      · rename_i h; rw [if_neg h]
    have hm : M0 = 0 ∧ M1 = 0 ∧ M2 = E := by
      have h := HM.out
      rw [mostR, if_neg (by rw [HE.out]; exact h0), HE.out] at h
      simp only [Value.tuple.injEq, Array.mk.injEq, List.cons.injEq, Value.int.injEq, true_and, and_true] at h
      exact ⟨h.1.symm, h.2.1.symm, h.2.2.symm⟩
    have hw : W0 = 0 ∧ W1 = 0 ∧ W2 = 0 ∧ W3 = E := by
      have h := HWR.out
      rw [waitR, if_neg (by rw [HE.out]; exact h0), HE.out] at h
      simp only [Value.tuple.injEq, Value.agg.injEq, Array.mk.injEq, List.cons.injEq, Value.int.injEq, true_and, and_true] at h
      exact ⟨h.1.1.symm, h.1.2.1.symm, h.1.2.2.symm, h.2.symm⟩
    have hz : n = 0 := by
      have h := HZ.out
      rw [intsP, if_neg (by rw [HE.out]; exact h0)] at h
      rw [← HN.out, ← h]; rfl
    obtain ⟨rfl, rfl, rfl⟩ := hm
    obtain ⟨rfl, rfl, rfl, e3⟩ := hw
    subst e3 he10 hz
    clear h0
    have hk := HS4.out
    have y0 := hk.cell 0
    have y1 := hk.cell 1
    have y2 := hk.cell 2
    have yl := hk.lt
    simp at y0 y1 y2
    have he3 := eq3_any 0 0 0
    clear hk
    go_wp2_with fail
    refine (awake_any _).mono ?_
    rintro e v5 ⟨rfl, hb5⟩
    go_wp2
    go_ret
    exact ⟨rfl, HBW.out.trans ((HD4.out.trans (hb5.mono HD4.out.size)).mono HBW.out.size)⟩
  subst h0
  obtain ⟨hv, hw⟩ := planE_zero HE.out
  have HW := Lib.hid hw
  obtain ⟨L, hL⟩ : ∃ L, planP p = L := ⟨_, rfl⟩
  have hzl : Z = intZ L := by rw [← HZ.out, intsP, if_pos HE.out, hL]
  have hln : L.length = n := by rw [← HN.out, hzl, intZ_len]
  subst hzl
  have hpl : plan p.sets (full p.n) p.bales.toNat = L := hL
  obtain ⟨hpr, hps⟩ := plan_pressing (p := p) (by rw [HEB.out]; exact hbl0)
  rw [hpl] at hpr hps
  obtain ⟨P, hPP⟩ : ∃ P, pops L = P := ⟨_, rfl⟩
  have hm : P = M0 ∧ (n : Int) = M1 ∧ 0 = M2 := by
    have h := HM.out
    rw [mostR, if_pos HE.out, hL, hPP, hln] at h
    simp only [Value.tuple.injEq, Array.mk.injEq, List.cons.injEq, Value.int.injEq, true_and, and_true] at h
    exact h
  have hwv : W0 = waitK p L fl 0 ∧ W1 = waitK p L fl 1 ∧ W2 = waitK p L fl 2 ∧ W3 = 0 := by
    have h := HWR.out
    rw [waitR, if_pos HE.out, hL, waitV, HEN.out] at h
    simp only [Value.tuple.injEq, Value.agg.injEq, Array.mk.injEq, List.cons.injEq, Value.int.injEq, true_and, and_true] at h
    exact ⟨h.1.1.symm, h.1.2.1.symm, h.1.2.2.symm, h.2.symm⟩
  obtain ⟨rfl, rfl, rfl⟩ := hm
  obtain ⟨e0, e1, e2, rfl⟩ := hwv
  have HWV : Hid (W0 = waitK p L fl 0 ∧ W1 = waitK p L fl 1 ∧ W2 = waitK p L fl 2) := ⟨e0, e1, e2⟩
  have HPL := Lib.hid hpl
  have HPR := Lib.hid hpr
  have HPS := Lib.hid hps
  have HPP := Lib.hid hPP
  have HLN := Lib.hid hln
  have hnb : (n : Int) ≤ bales := by have := hpr.len; rw [hln, HEB.out] at this; exact this
  have hn5 : n ≤ 5 := by omega
  obtain ⟨p0, p1⟩ : 0 ≤ P ∧ P ≤ 10 := by
    have h := (planP_bd HV.out).2.2
    rw [hL, hPP] at h
    exact h
  have HLB : Hid (∀ s ∈ L, s < 1024) := fun s hs => Nat.lt_of_lt_of_le (hpr.sure s hs).1 (PressD.n_pow HV.out)
  clear e0 e1 e2 hL hpl hpr hps hPP hln hv hw
  go_wp2
  go_loopw [12, 95] (fun uv i wr => ∃ k u : Nat, k ≤ n ∧ i = .int .i64 k ∧ uv = .int .i64 u ∧ Hid (orL (L.take k) = u) ∧ u < 1024 ∧ Below V4.heap.size V4 wr) (fun _ i _ => n - (intOf i).toNat)
  case atStart => exact ⟨0, 0, Nat.zero_le _, rfl, rfl, rfl, by omega, Below.refl _ _⟩
  case round =>
    obtain ⟨k, u, hk, rfl, rfl, HOR, hu10, hb⟩ := hrel
    have HB := Lib.hid hb
    have HBW4 : Hid (Below W.heap.size W wr) := HD4.out.trans (hb.mono HD4.out.size)
    clear hb
    obtain ⟨x0, x1, x2, x3, x4, xl⟩ := HF.out wr HBW4.out
    by_cases hlt : k < n
    · obtain ⟨s, hs⟩ : ∃ s, L[k]? = some s := ⟨_, List.getElem?_eq_getElem (by rw [HLN.out]; exact hlt)⟩
      have hs10 := HLB.out s (List.mem_of_getElem? hs)
      have hsp := HPR.out.sure s (List.mem_of_getElem? hs)
      have HSN : Hid (s ≤ full p.n) := le_full.2 hsp.1
      have HSE : Hid (setE p (s : Int) = 0) := by show _ = _; rw [setE_ok HV.out HSN.out, if_pos HW.out]
      have HFS : Hid (p.fits s = 2) := by
        have h := fits_sure p s
        rw [hsp.2] at h
        show _ = _
        simpa using h
      have HNX : Hid (orL (L.take (k + 1)) = u ||| s) := by show _ = _; rw [orL_next hs, HOR.out]
      have HAN : Hid (bits BinOp.and IntKind.i64 (s : Int) (u : Int) = 0) := by
        have h := and_i64 s u (by omega) (by omega)
        have h2 := orL_disj (pairwise_take HPR.out.disj hs)
        rw [HOR.out, Nat.and_comm] at h2
        rw [h2] at h
        exact h
      have HO2 : Hid (bits BinOp.or IntKind.i64 (u : Int) (s : Int) = ((u ||| s : Nat) : Int)) := or_i64 u s (by omega) (by omega)
      have hus : u ||| s < 1024 := Nat.or_lt_two_pow (n := 10) hu10 hs10
      have hci : (intZ L)[k]? = some (s : Int) := by rw [intZ, List.getElem?_map, hs]; rfl
      have HRW : Hid (RdG inF 1 wr wr.heap.size LA (intZ L)) := (HR5.out.below HB.out).more HB.out.size
      obtain ⟨gb, off, hA, hgb, H0⟩ := rd_in HRW.out k _ hci
      subst hA
      have hgbw : gb < wr.heap.size := hgb
      cases k with
      | zero =>
        rw [Nat.add_zero] at H0
        clear hs hsp hci hgb
        go_wp2_with fail
        refine (PFits_any (p := p) (s : Int) wr (by exact HPW.out.grow HBW4.out)).mono ?_
        rw [HSE.out, if_pos rfl, Int.toNat_natCast, HFS.out]
        rintro e w5 ⟨rfl, hb5⟩
        have HB5 : Hid (Below V4.heap.size V4 w5) := HB.out.trans (hb5.mono HB.out.size)
        clear hb5 x0 x1 x2 x3 x4 xl H0
        have han := HAN.out
        have ho2 := HO2.out
        go_wp2
        go_roundw
        case rel => exact ⟨1, _, by omega, rfl, rfl, HNX.out, hus, HB5.out⟩
        case measure => simp [intOf]; omega
      | succ k =>
        obtain ⟨t, ht⟩ : ∃ t, L[k]? = some t := ⟨_, List.getElem?_eq_getElem (by rw [HLN.out]; omega)⟩
        have hts : t < s := by
          obtain ⟨a1, a2⟩ := List.getElem?_eq_some_iff.1 ht
          obtain ⟨b1, b2⟩ := List.getElem?_eq_some_iff.1 hs
          have := List.pairwise_iff_getElem.1 HPS.out k (k + 1) a1 b1 (by omega)
          omega
        have hci2 : (intZ L)[k]? = some (t : Int) := by rw [intZ, List.getElem?_map, ht]; rfl
        obtain ⟨gb2, off2, hA2, -, H1⟩ := rd_in HRW.out k _ hci2
        injection hA2 with hA2
        injection hA2 with q1 q2
        subst q1 q2
        have HH1 := Lib.hid H1
        clear hs hsp hci hgb ht hci2 H1
        go_wp2_with fail
        refine (PFits_any (p := p) (s : Int) wr (by exact HPW.out.grow HBW4.out)).mono ?_
        rw [HSE.out, if_pos rfl, Int.toNat_natCast, HFS.out]
        rintro e w5 ⟨rfl, hb5⟩
        have HB5 : Hid (Below V4.heap.size V4 w5) := HB.out.trans (hb5.mono HB.out.size)
        have H1 : w5.cell? ⟨gb, off + k, none⟩ = some (.int .i64 t) := (hb5.cell (p := ⟨gb, off + k, none⟩) hgbw).trans HH1.out
        have hg5 : gb < w5.heap.size := Nat.lt_of_lt_of_le hgbw hb5.size
        clear hb5 x0 x1 x2 x3 x4 xl H0
        have han := HAN.out
        have ho2 := HO2.out
        go_wp2
        go_roundw
        case rel => exact ⟨k + 1 + 1, _, by omega, by go_num, rfl, HNX.out, hus, HB5.out⟩
        case measure => simp [intOf]; omega
    · obtain rfl : n = k := by omega
      have HUU : Hid (orL L = u) := by show _ = _; rw [← HOR.out, List.take_of_length_le (by rw [HLN.out]; exact Nat.le_refl _)]
      have HSZ : Hid (pop u 10 = P) := by
        show _ = _
        have h := pop_orL HPR.out.disj L.length (Nat.le_refl _)
        rw [List.take_of_length_le (Nat.le_refl _), HUU.out, HPP.out] at h
        exact h
      go_wp2_with fail
      refine (size_any u hu10 wr).mono ?_
      rw [HSZ.out]
      rintro e w5 ⟨rfl, rfl⟩
      go_wp2
      obtain ⟨V5, hV5⟩ : ∃ V, V = (w5.alloc (Obj.cells #[Value.int IntKind.i64 0, Value.int IntKind.i64 0, Value.int IntKind.i64 0] 41)).alloc (Obj.cells #[Value.int IntKind.i64 0, Value.int IntKind.i64 0, Value.int IntKind.i64 0] 41) := ⟨_, rfl⟩
      have HA1 : Hid (Blk V5 w5.heap.size 41 #[.int .i64 0, .int .i64 0, .int .i64 0]) := by rw [hV5]; exact (Blk.new w5 41 _).alloc _
      have HA2 : Hid (Blk V5 (w5.heap.size + 1) 41 #[.int .i64 0, .int .i64 0, .int .i64 0]) := by rw [hV5]; exact Blk.new_ (by simp) 41 _
      have HB5 : Hid (Below w5.heap.size w5 V5) := by rw [hV5]; exact ((Below.refl _ _).alloc (Nat.le_refl _) _).alloc (by simp) _
      rw [← hV5]
      clear hV5 x0 x1 x2 x3 x4 xl
      have hs5 := HB5.out.size
      obtain ⟨x0, x1, x2, x3, x4, xl⟩ := HF.out V5 (HBW4.out.trans (HB5.out.mono HBW4.out.size))
      go_loopw [154] (fun i wr => ∃ (k : Nat) (y0 y1 y2 : Int) (z0 z1 z2 : Nat), k ≤ fl ∧ i = .int .i64 k ∧ Hid (y0 = waitK p L k 0 ∧ y1 = waitK p L k 1 ∧ y2 = waitK p L k 2) ∧ Hid (lineS p u 0 k = z0 ∧ lineS p u 1 k = z1 ∧ lineS p u 2 k = z2) ∧ Blk wr w5.heap.size 41 #[.int .i64 y0, .int .i64 y1, .int .i64 y2] ∧ Blk wr (w5.heap.size + 1) 41 #[.int .i64 (z0 : Nat), .int .i64 (z1 : Nat), .int .i64 (z2 : Nat)] ∧ Below w5.heap.size w5 wr) (fun i _ => fl - (intOf i).toNat)
      case atStart => exact ⟨0, 0, 0, 0, 0, 0, 0, Nat.zero_le _, rfl, ⟨rfl, rfl, rfl⟩, ⟨rfl, rfl, rfl⟩, HA1.out, HA2.out, HB5.out⟩
      case round =>
        clear HA1 HA2 x0 x1 x2 x3 x4 xl
        obtain ⟨k, y0, y1, y2, z0, z1, z2, hk, rfl, HYK, HZK, hk1, hk2, hb⟩ := hrel
        have HK1 := Lib.hid hk1
        have HK2 := Lib.hid hk2
        have HBR := Lib.hid hb
        have HBT : Hid (Below W.heap.size W wr) := HBW4.out.trans (hb.mono HBW4.out.size)
        clear hk1 hk2 hb
        have e0 := waitK_bd p L 0 k
        have e1 := waitK_bd p L 1 k
        have e2 := waitK_bd p L 2 k
        rw [← HYK.out.1] at e0
        rw [← HYK.out.2.1] at e1
        rw [← HYK.out.2.2] at e2
        obtain ⟨e00, e01⟩ := e0
        obtain ⟨e10, e11⟩ := e1
        obtain ⟨e20, e21⟩ := e2
        have hz : ∀ j, lineS p u j k < 1024 := fun j => Nat.lt_of_lt_of_le (lineS_lt p u j k) (by have := Nat.pow_le_pow_right (n := 2) (by omega) (show k ≤ 10 by omega); omega)
        have c0 := hz 0
        have c1 := hz 1
        have c2 := hz 2
        rw [HZK.out.1] at c0
        rw [HZK.out.2.1] at c1
        rw [HZK.out.2.2] at c2
        obtain ⟨x0, x1, x2, x3, x4, xl⟩ := HF.out wr HBT.out
        clear hz
        by_cases hlt : k < fl
        · obtain ⟨⟨⟨d0, d1⟩, cl⟩, hc⟩ : ∃ c, p.fl[k]? = some c := ⟨p.fl[k]'(by have := HEN.out; unfold PressD.n at this; omega), by simp⟩
          have HCL : Hid (p.line k = cl) := (fw_of hc).2
          have hln := PressD.ok_fl HV.out (i := k) (by rw [HEN.out]; exact hlt)
          rw [HCL.out] at hln
          obtain ⟨-, -, -, -, g0, g1⟩ := hln
          obtain ⟨gb, off, hfa, hbl, H0, H1, H2⟩ := rd_fl ((HPW.out.grow HBT.out).hfl) k _ hc
          subst hfa
          have hgb : gb < wr.heap.size := hbl
          simp only at H0 H1 H2
          have htb := tb0_i64 u k (by omega)
          have HWO : Hid (waits L k = !u.testBit k) := by show _ = _; rw [waits_or, HUU.out]
          clear hc hbl
          cases hub : u.testBit k
          · rw [hub] at htb HWO
            have HNY := Lib.hid (waitK_in (p := p) (k := k) HWO.out)
            have HNZ : Hid (∀ j, lineS p u j (k + 1) = if p.line k = j then lineS p u j k ||| 2 ^ k else lineS p u j k) := fun j => by
              rw [lineS]
              by_cases e : p.line k = j
              · rw [if_pos ⟨hub, e⟩, if_pos e]
              · rw [if_neg (fun h => e h.2), if_neg e]
            rw [HCL.out] at HNY HNZ
            have h2k : 2 ^ k ≤ 512 := by have := Nat.pow_le_pow_right (n := 2) (by omega) (show k ≤ 9 by omega); omega
            have h2p : 1 ≤ 2 ^ k := Nat.two_pow_pos k
            have hw2 : IntKind.i64.wrap (2 ^ k) = 2 ^ k := wrap_i64 (by have := pow_cast k; omega) (by have := pow_cast k; omega)
            have HORR : Hid (∀ z : Nat, z < 1024 → bits BinOp.or IntKind.i64 (z : Int) (2 ^ k) = ((z ||| 2 ^ k : Nat) : Int)) := fun z hz => by
              have h := or_i64 z (2 ^ k) (by omega) (by omega)
              rw [pow_cast] at h
              exact h
            obtain ⟨V6, hV6⟩ : ∃ V, V = wr.alloc (.cells #[.int .i64 d0, .int .i64 d1, .int .i64 cl] 58) := ⟨_, rfl⟩
            have HS6 : Hid (Blk V6 wr.heap.size 58 #[.int .i64 d0, .int .i64 d1, .int .i64 cl]) := by rw [hV6]; exact Blk.new wr 58 _
            have HY6 : Hid (Below wr.heap.size wr V6) := by rw [hV6]; exact (Below.refl _ _).alloc (Nat.le_refl _) _
            have HQ1 := Lib.hid (HK1.out.below HY6.out HK1.out.lt)
            have HQ2 := Lib.hid (HK2.out.below HY6.out HK2.out.lt)
            have HB6 : Hid (Below w5.heap.size w5 V6) := HBR.out.trans (HY6.out.mono HBR.out.size)
            clear hub
            simp only [Bool.not_false] at htb
            have h3 : cl = 0 ∨ cl = 1 ∨ cl = 2 := by omega
            go_upto_region 24 with fail
            rw [← hV6]
            clear hV6 H0 H1 H2 x0 x1 x2 x3 x4 xl
            have t2 := HS6.out.cell 2
            have tl := HS6.out.lt
            have q0 := HQ1.out.cell 0
            have q1 := HQ1.out.cell 1
            have q2 := HQ1.out.cell 2
            have qf0 := HQ1.out.frozen 0
            have qf1 := HQ1.out.frozen 1
            have qf2 := HQ1.out.frozen 2
            have ql := HQ1.out.lt
            simp at t2 q0 q1 q2
            rcases h3 with rfl | rfl | rfl
            · have HYN : Hid (y0 + 1 = waitK p L (k + 1) 0 ∧ y1 = waitK p L (k + 1) 1 ∧ y2 = waitK p L (k + 1) 2) := by
                obtain ⟨a, b, c⟩ := HYK.out
                exact ⟨by rw [HNY.out, a]; simp, by rw [HNY.out, b]; simp, by rw [HNY.out, c]; simp⟩
              have HZN : Hid (lineS p u 0 (k + 1) = (z0 ||| 2 ^ k) ∧ lineS p u 1 (k + 1) = z1 ∧ lineS p u 2 (k + 1) = z2) := by
                obtain ⟨a, b, c⟩ := HZK.out
                exact ⟨by rw [HNZ.out, ← a]; simp, by rw [HNZ.out, ← b]; simp, by rw [HNZ.out, ← c]; simp⟩
              have HOZ := Lib.hid (HORR.out z0 c0)
              have hyw : IntKind.i64.wrap (y0 + 1) = y0 + 1 := wrap_i64 (by omega) (by omega)
              go_upto_region 26 with fail
              obtain ⟨V7, hV7⟩ : ∃ V, V = V6.setCell ⟨w5.heap.size, 0, none⟩ (.int .i64 (y0 + 1)) := ⟨_, rfl⟩
              have HR1 : Hid (Blk V7 w5.heap.size 41 #[.int .i64 (y0 + 1), .int .i64 (y1), .int .i64 (y2)]) := by rw [hV7]; exact HQ1.out.set_ 0 _
              have HR2' : Hid (Blk V7 (w5.heap.size + 1) 41 #[.int .i64 (z0 : Nat), .int .i64 (z1 : Nat), .int .i64 (z2 : Nat)]) := by rw [hV7]; exact HQ2.out.far (p := ⟨w5.heap.size, 0, none⟩) (by show w5.heap.size + 1 ≠ w5.heap.size; omega) _
              have HR6 : Hid (Blk V7 wr.heap.size 58 #[.int .i64 d0, .int .i64 d1, .int .i64 0]) := by rw [hV7]; exact HS6.out.far (p := ⟨w5.heap.size, 0, none⟩) (by have := HK1.out.lt; show wr.heap.size ≠ w5.heap.size; omega) _
              have HB7 : Hid (Below w5.heap.size w5 V7) := by rw [hV7]; exact setCell_below HB6.out (Nat.le_refl _) 0 _
              rw [← hV7]
              clear hV7 t2 tl q0 q1 q2 qf0 qf1 qf2 ql hyw
              have t2 := HR6.out.cell 2
              have tl := HR6.out.lt
              have q0 := HR2'.out.cell 0
              have q1 := HR2'.out.cell 1
              have q2 := HR2'.out.cell 2
              have ql := HR2'.out.lt
              simp at t2 q0 q1 q2
              have hoz := HOZ.out
              refine wp_region_havoc [(0,false),(1,false),(2,false),(3,false),(4,false),(5,false),(6,false),(7,false)] [8] (fun _ _ => False) (by kernel_rfl) (by kernel_rfl) (fun _ _ _ _ h => h.elim) ?_
              (apply hav_same (by simp only [List.getElem?_toArray, List.getElem?_cons_zero]; rfl) (by kernel_rfl); (focus (intro wv hgv _; have hcv : ∀ b o, b < _ → wv.cell? ⟨b, o, none⟩ = _ := fun b o hb => Below.cell hgv (p := ⟨b, o, none⟩) hb; (try go_simp); try rfl; done)); simp only [Act.put, List.setIfInBounds_toArray, List.set_cons_succ, List.set_cons_zero])
              iterate 7 (apply hav_same (by simp only [List.getElem?_toArray, List.getElem?_cons_succ, List.getElem?_cons_zero]; rfl) (by kernel_rfl); (focus (intro wv hgv _; have hcv : ∀ b o, b < _ → wv.cell? ⟨b, o, none⟩ = _ := fun b o hb => Below.cell hgv (p := ⟨b, o, none⟩) hb; (try go_simp); try rfl; done)); simp only [Act.put, List.setIfInBounds_toArray, List.set_cons_succ, List.set_cons_zero])
              refine hav_end (fun w8 hgw8 _ => ?_); simp only [List.filterMap]; have hcw8 : ∀ b o, b < _ → w8.cell? ⟨b, o, none⟩ = _ := fun b o hb => Below.cell hgw8 (p := ⟨b, o, none⟩) hb; have hfw8 : ∀ b o, b < _ → w8.frozen? ⟨b, o, none⟩ = _ := fun b o hb => Below.frozen hgw8 (p := ⟨b, o, none⟩) hb; have hzw8 := Below.size hgw8; (try simp at hzw8)
              have HT1 := Lib.hid (HR1.out.below hgw8 HR1.out.lt)
              have HT2 := Lib.hid (HR2'.out.below hgw8 HR2'.out.lt)
              have HB8 : Hid (Below w5.heap.size w5 w8) := HB7.out.trans (hgw8.mono HB7.out.size)
              clear hgw8 hcw8 hfw8 t2 tl q0 q1 q2 ql hoz hw2
              have q0 := HT2.out.cell 0
              have q1 := HT2.out.cell 1
              have q2 := HT2.out.cell 2
              have qf0 := HT2.out.frozen 0
              have qf1 := HT2.out.frozen 1
              have qf2 := HT2.out.frozen 2
              have ql := HT2.out.lt
              simp at q0 q1 q2
              go_wp2
              go_roundw
              case rel => exact ⟨k + 1, y0 + 1, y1, y2, (z0 ||| 2 ^ k), z1, z2, by omega, by go_num, HYN, HZN, HT1.out.far (p := ⟨w5.heap.size + 1, 0, none⟩) (by show w5.heap.size ≠ w5.heap.size + 1; omega) _, HT2.out.set_ 0 _, setCell_below HB8.out (by omega) _ _⟩
              case measure => simp [intOf]; omega
            · have HYN : Hid (y0 = waitK p L (k + 1) 0 ∧ y1 + 1 = waitK p L (k + 1) 1 ∧ y2 = waitK p L (k + 1) 2) := by
                obtain ⟨a, b, c⟩ := HYK.out
                exact ⟨by rw [HNY.out, a]; simp, by rw [HNY.out, b]; simp, by rw [HNY.out, c]; simp⟩
              have HZN : Hid (lineS p u 0 (k + 1) = z0 ∧ lineS p u 1 (k + 1) = (z1 ||| 2 ^ k) ∧ lineS p u 2 (k + 1) = z2) := by
                obtain ⟨a, b, c⟩ := HZK.out
                exact ⟨by rw [HNZ.out, ← a]; simp, by rw [HNZ.out, ← b]; simp, by rw [HNZ.out, ← c]; simp⟩
              have HOZ := Lib.hid (HORR.out z1 c1)
              have hyw : IntKind.i64.wrap (y1 + 1) = y1 + 1 := wrap_i64 (by omega) (by omega)
              go_upto_region 26 with fail
              obtain ⟨V7, hV7⟩ : ∃ V, V = V6.setCell ⟨w5.heap.size, 1, none⟩ (.int .i64 (y1 + 1)) := ⟨_, rfl⟩
              have HR1 : Hid (Blk V7 w5.heap.size 41 #[.int .i64 (y0), .int .i64 (y1 + 1), .int .i64 (y2)]) := by rw [hV7]; exact HQ1.out.set_ 1 _
              have HR2' : Hid (Blk V7 (w5.heap.size + 1) 41 #[.int .i64 (z0 : Nat), .int .i64 (z1 : Nat), .int .i64 (z2 : Nat)]) := by rw [hV7]; exact HQ2.out.far (p := ⟨w5.heap.size, 1, none⟩) (by show w5.heap.size + 1 ≠ w5.heap.size; omega) _
              have HR6 : Hid (Blk V7 wr.heap.size 58 #[.int .i64 d0, .int .i64 d1, .int .i64 1]) := by rw [hV7]; exact HS6.out.far (p := ⟨w5.heap.size, 1, none⟩) (by have := HK1.out.lt; show wr.heap.size ≠ w5.heap.size; omega) _
              have HB7 : Hid (Below w5.heap.size w5 V7) := by rw [hV7]; exact setCell_below HB6.out (Nat.le_refl _) 1 _
              rw [← hV7]
              clear hV7 t2 tl q0 q1 q2 qf0 qf1 qf2 ql hyw
              have t2 := HR6.out.cell 2
              have tl := HR6.out.lt
              have q0 := HR2'.out.cell 0
              have q1 := HR2'.out.cell 1
              have q2 := HR2'.out.cell 2
              have ql := HR2'.out.lt
              simp at t2 q0 q1 q2
              have hoz := HOZ.out
              refine wp_region_havoc [(0,false),(1,false),(2,false),(3,false),(4,false),(5,false),(6,false),(7,false)] [8] (fun _ _ => False) (by kernel_rfl) (by kernel_rfl) (fun _ _ _ _ h => h.elim) ?_
              (apply hav_same (by simp only [List.getElem?_toArray, List.getElem?_cons_zero]; rfl) (by kernel_rfl); (focus (intro wv hgv _; have hcv : ∀ b o, b < _ → wv.cell? ⟨b, o, none⟩ = _ := fun b o hb => Below.cell hgv (p := ⟨b, o, none⟩) hb; (try go_simp); try rfl; done)); simp only [Act.put, List.setIfInBounds_toArray, List.set_cons_succ, List.set_cons_zero])
              iterate 7 (apply hav_same (by simp only [List.getElem?_toArray, List.getElem?_cons_succ, List.getElem?_cons_zero]; rfl) (by kernel_rfl); (focus (intro wv hgv _; have hcv : ∀ b o, b < _ → wv.cell? ⟨b, o, none⟩ = _ := fun b o hb => Below.cell hgv (p := ⟨b, o, none⟩) hb; (try go_simp); try rfl; done)); simp only [Act.put, List.setIfInBounds_toArray, List.set_cons_succ, List.set_cons_zero])
              refine hav_end (fun w8 hgw8 _ => ?_); simp only [List.filterMap]; have hcw8 : ∀ b o, b < _ → w8.cell? ⟨b, o, none⟩ = _ := fun b o hb => Below.cell hgw8 (p := ⟨b, o, none⟩) hb; have hfw8 : ∀ b o, b < _ → w8.frozen? ⟨b, o, none⟩ = _ := fun b o hb => Below.frozen hgw8 (p := ⟨b, o, none⟩) hb; have hzw8 := Below.size hgw8; (try simp at hzw8)
              have HT1 := Lib.hid (HR1.out.below hgw8 HR1.out.lt)
              have HT2 := Lib.hid (HR2'.out.below hgw8 HR2'.out.lt)
              have HB8 : Hid (Below w5.heap.size w5 w8) := HB7.out.trans (hgw8.mono HB7.out.size)
              clear hgw8 hcw8 hfw8 t2 tl q0 q1 q2 ql hoz hw2
              have q0 := HT2.out.cell 0
              have q1 := HT2.out.cell 1
              have q2 := HT2.out.cell 2
              have qf0 := HT2.out.frozen 0
              have qf1 := HT2.out.frozen 1
              have qf2 := HT2.out.frozen 2
              have ql := HT2.out.lt
              simp at q0 q1 q2
              go_wp2
              go_roundw
              case rel => exact ⟨k + 1, y0, y1 + 1, y2, z0, (z1 ||| 2 ^ k), z2, by omega, by go_num, HYN, HZN, HT1.out.far (p := ⟨w5.heap.size + 1, 1, none⟩) (by show w5.heap.size ≠ w5.heap.size + 1; omega) _, HT2.out.set_ 1 _, setCell_below HB8.out (by omega) _ _⟩
              case measure => simp [intOf]; omega
            · have HYN : Hid (y0 = waitK p L (k + 1) 0 ∧ y1 = waitK p L (k + 1) 1 ∧ y2 + 1 = waitK p L (k + 1) 2) := by
                obtain ⟨a, b, c⟩ := HYK.out
                exact ⟨by rw [HNY.out, a]; simp, by rw [HNY.out, b]; simp, by rw [HNY.out, c]; simp⟩
              have HZN : Hid (lineS p u 0 (k + 1) = z0 ∧ lineS p u 1 (k + 1) = z1 ∧ lineS p u 2 (k + 1) = (z2 ||| 2 ^ k)) := by
                obtain ⟨a, b, c⟩ := HZK.out
                exact ⟨by rw [HNZ.out, ← a]; simp, by rw [HNZ.out, ← b]; simp, by rw [HNZ.out, ← c]; simp⟩
              have HOZ := Lib.hid (HORR.out z2 c2)
              have hyw : IntKind.i64.wrap (y2 + 1) = y2 + 1 := wrap_i64 (by omega) (by omega)
              go_upto_region 26 with fail
              obtain ⟨V7, hV7⟩ : ∃ V, V = V6.setCell ⟨w5.heap.size, 2, none⟩ (.int .i64 (y2 + 1)) := ⟨_, rfl⟩
              have HR1 : Hid (Blk V7 w5.heap.size 41 #[.int .i64 (y0), .int .i64 (y1), .int .i64 (y2 + 1)]) := by rw [hV7]; exact HQ1.out.set_ 2 _
              have HR2' : Hid (Blk V7 (w5.heap.size + 1) 41 #[.int .i64 (z0 : Nat), .int .i64 (z1 : Nat), .int .i64 (z2 : Nat)]) := by rw [hV7]; exact HQ2.out.far (p := ⟨w5.heap.size, 2, none⟩) (by show w5.heap.size + 1 ≠ w5.heap.size; omega) _
              have HR6 : Hid (Blk V7 wr.heap.size 58 #[.int .i64 d0, .int .i64 d1, .int .i64 2]) := by rw [hV7]; exact HS6.out.far (p := ⟨w5.heap.size, 2, none⟩) (by have := HK1.out.lt; show wr.heap.size ≠ w5.heap.size; omega) _
              have HB7 : Hid (Below w5.heap.size w5 V7) := by rw [hV7]; exact setCell_below HB6.out (Nat.le_refl _) 2 _
              rw [← hV7]
              clear hV7 t2 tl q0 q1 q2 qf0 qf1 qf2 ql hyw
              have t2 := HR6.out.cell 2
              have tl := HR6.out.lt
              have q0 := HR2'.out.cell 0
              have q1 := HR2'.out.cell 1
              have q2 := HR2'.out.cell 2
              have ql := HR2'.out.lt
              simp at t2 q0 q1 q2
              have hoz := HOZ.out
              refine wp_region_havoc [(0,false),(1,false),(2,false),(3,false),(4,false),(5,false),(6,false),(7,false)] [8] (fun _ _ => False) (by kernel_rfl) (by kernel_rfl) (fun _ _ _ _ h => h.elim) ?_
              (apply hav_same (by simp only [List.getElem?_toArray, List.getElem?_cons_zero]; rfl) (by kernel_rfl); (focus (intro wv hgv _; have hcv : ∀ b o, b < _ → wv.cell? ⟨b, o, none⟩ = _ := fun b o hb => Below.cell hgv (p := ⟨b, o, none⟩) hb; (try go_simp); try rfl; done)); simp only [Act.put, List.setIfInBounds_toArray, List.set_cons_succ, List.set_cons_zero])
              iterate 7 (apply hav_same (by simp only [List.getElem?_toArray, List.getElem?_cons_succ, List.getElem?_cons_zero]; rfl) (by kernel_rfl); (focus (intro wv hgv _; have hcv : ∀ b o, b < _ → wv.cell? ⟨b, o, none⟩ = _ := fun b o hb => Below.cell hgv (p := ⟨b, o, none⟩) hb; (try go_simp); try rfl; done)); simp only [Act.put, List.setIfInBounds_toArray, List.set_cons_succ, List.set_cons_zero])
              refine hav_end (fun w8 hgw8 _ => ?_); simp only [List.filterMap]; have hcw8 : ∀ b o, b < _ → w8.cell? ⟨b, o, none⟩ = _ := fun b o hb => Below.cell hgw8 (p := ⟨b, o, none⟩) hb; have hfw8 : ∀ b o, b < _ → w8.frozen? ⟨b, o, none⟩ = _ := fun b o hb => Below.frozen hgw8 (p := ⟨b, o, none⟩) hb; have hzw8 := Below.size hgw8; (try simp at hzw8)
              have HT1 := Lib.hid (HR1.out.below hgw8 HR1.out.lt)
              have HT2 := Lib.hid (HR2'.out.below hgw8 HR2'.out.lt)
              have HB8 : Hid (Below w5.heap.size w5 w8) := HB7.out.trans (hgw8.mono HB7.out.size)
              clear hgw8 hcw8 hfw8 t2 tl q0 q1 q2 ql hoz hw2
              have q0 := HT2.out.cell 0
              have q1 := HT2.out.cell 1
              have q2 := HT2.out.cell 2
              have qf0 := HT2.out.frozen 0
              have qf1 := HT2.out.frozen 1
              have qf2 := HT2.out.frozen 2
              have ql := HT2.out.lt
              simp at q0 q1 q2
              go_wp2
              go_roundw
              case rel => exact ⟨k + 1, y0, y1, y2 + 1, z0, z1, (z2 ||| 2 ^ k), by omega, by go_num, HYN, HZN, HT1.out.far (p := ⟨w5.heap.size + 1, 2, none⟩) (by show w5.heap.size ≠ w5.heap.size + 1; omega) _, HT2.out.set_ 2 _, setCell_below HB8.out (by omega) _ _⟩
              case measure => simp [intOf]; omega
          · rw [hub] at htb HWO
            have HNY := Lib.hid (waitK_out (p := p) (k := k) HWO.out)
            have HNZ : Hid (∀ j, lineS p u j (k + 1) = lineS p u j k) := fun j => by rw [lineS, if_neg (fun h => by rw [hub] at h; cases h.1)]
            have HYN : Hid (y0 = waitK p L (k + 1) 0 ∧ y1 = waitK p L (k + 1) 1 ∧ y2 = waitK p L (k + 1) 2) := by
              obtain ⟨a, b, c⟩ := HYK.out
              exact ⟨by rw [HNY.out, a], by rw [HNY.out, b], by rw [HNY.out, c]⟩
            have HZN : Hid (lineS p u 0 (k + 1) = z0 ∧ lineS p u 1 (k + 1) = z1 ∧ lineS p u 2 (k + 1) = z2) := by
              obtain ⟨a, b, c⟩ := HZK.out
              exact ⟨by rw [HNZ.out, a], by rw [HNZ.out, b], by rw [HNZ.out, c]⟩
            simp only [Bool.not_true] at htb
            clear hub
            go_wp2
            go_roundw
            case rel => exact ⟨k + 1, y0, y1, y2, z0, z1, z2, by omega, by go_num, HYN, HZN, HK1.out.alloc _, HK2.out.alloc _, HBR.out.alloc HBR.out.size _⟩
            case measure => simp [intOf]; omega
        · obtain rfl : fl = k := by omega
          obtain ⟨a, b, c⟩ := HYK.out
          obtain ⟨a', b', c'⟩ := HWV.out
          obtain rfl : W0 = y0 := a'.trans a.symm
          obtain rfl : W1 = y1 := b'.trans b.symm
          obtain rfl : W2 = y2 := c'.trans c.symm
          clear a b c a' b' c'
          have HT4 := Lib.hid (HS4.out.below (HB.out.trans (HBR.out.mono HB.out.size)) HS4.out.lt)
          have q0 := HK1.out.cell 0
          have q1 := HK1.out.cell 1
          have q2 := HK1.out.cell 2
          have ql := HK1.out.lt
          have r0 := HK2.out.cell 0
          have r1 := HK2.out.cell 1
          have r2 := HK2.out.cell 2
          have rl := HK2.out.lt
          have t0 := HT4.out.cell 0
          have t1 := HT4.out.cell 1
          have t2 := HT4.out.cell 2
          have tl := HT4.out.lt
          simp at q0 q1 q2 r0 r1 r2 t0 t1 t2
          have he3 := eq3_any W0 W1 W2
          have i0 : ∀ w, (Instr.index 41 (.agg #[.int .i64 (z0 : Nat), .int .i64 (z1 : Nat), .int .i64 (z2 : Nat)]) (.int .i64 0)).run Try.prog w = .ok (.int .i64 (z0 : Nat)) w := fun _ => by kernel_rfl
          have i1 : ∀ w, (Instr.index 41 (.agg #[.int .i64 (z0 : Nat), .int .i64 (z1 : Nat), .int .i64 (z2 : Nat)]) (.int .i64 1)).run Try.prog w = .ok (.int .i64 (z1 : Nat)) w := fun _ => by kernel_rfl
          have i2 : ∀ w, (Instr.index 41 (.agg #[.int .i64 (z0 : Nat), .int .i64 (z1 : Nat), .int .i64 (z2 : Nat)]) (.int .i64 2)).run Try.prog w = .ok (.int .i64 (z2 : Nat)) w := fun _ => by kernel_rfl
          have HNO : Hid (∀ j : Int, (n : Int) < bales → p.sure (lineS p u j fl) = false) := fun j hj => by
            have h := line_no (p := p) (by rw [HEN.out]; exact hn10) (by rw [HEB.out]; exact hbl0) HPL.out (by rw [HLN.out, HEB.out]; exact hj) j
            rw [HUU.out, HEN.out] at h
            exact h
          have HFT : Hid (∀ (j : Int) (z : Nat) (wv : World), lineS p u j fl = z → Below W.heap.size W wv → Calls Try.prog 16 #[.agg #[.slice fa fl fc, .int .i64 low, .int .i64 top, .int .i64 bales, .slice wa wl wp], .int .i64 z] wv fun e w' => e = .returned (.tuple #[.int .i64 (p.fits z), .int .i64 0]) ∧ Below wv.heap.size wv w') := fun j z wv hz hb => by
            have hzf : z ≤ full p.n := by rw [← hz, HEN.out]; exact le_full.2 (lineS_lt p u j fl)
            have h := PFits_any (p := p) (fc := fc) (wc := wp) (z : Int) wv (by exact HPW.out.grow hb)
            rw [setE_ok HV.out hzf, if_pos HW.out, if_pos rfl, Int.toNat_natCast] at h
            exact h
          have HWN : Hid (∀ (j : Int) (z : Nat), lineS p u j fl = z → (p.fits z == 2) = true → ¬ (n : Int) < bales) := fun j z hz hf hlt => by
            have h := HNO.out j hlt
            rw [hz, ← fits_sure, hf] at h
            cases h
          clear x0 x1 x2 x3 x4 xl
          go_wp2
          clear q0 q1 q2 ql r0 r1 r2 rl t0 t1 t2 tl he3
          obtain ⟨wo, rfl⟩ : ∃ wo : World, wo = wr := ⟨_, rfl⟩
          go_loopw [183] (fun i wr => ∃ k : Nat, k ≤ 3 ∧ i = .int .i64 k ∧ Below wo.heap.size wo wr) (fun i _ => 3 - (intOf i).toNat)
          case atStart => exact ⟨0, by omega, rfl, Below.refl _ _⟩
          case round =>
            obtain ⟨k, hk3, rfl, hb⟩ := hrel
            have HBO := Lib.hid hb
            have HBQ : Hid (Below W.heap.size W wr) := HBT.out.trans (hb.mono HBT.out.size)
            clear hb
            obtain ⟨x0, x1, x2, x3, x4, xl⟩ := HF.out wr HBQ.out
            by_cases hlt : k < 3
            · have hk012 : k = 0 ∨ k = 1 ∨ k = 2 := by omega
              rcases hk012 with rfl | rfl | rfl
              · obtain ⟨F, hF⟩ : ∃ F, p.fits z0 = F := ⟨_, rfl⟩
                have hcall := HFT.out 0 z0 wr HZK.out.1 HBQ.out
                rw [hF] at hcall
                have hno := HWN.out 0 z0 HZK.out.1
                rw [hF] at hno
                have HCALL := Lib.hid hcall
                have HNN := Lib.hid hno
                clear hF hcall hno
                cases h2 : F == 2
                · go_wp2_with fail
                  refine HCALL.out.mono ?_
                  rintro e w9 ⟨rfl, hb9⟩
                  have HB9 : Hid (Below wo.heap.size wo w9) := HBO.out.trans (hb9.mono HBO.out.size)
                  clear hb9 x0 x1 x2 x3 x4 xl
                  go_wp2
                  go_roundw
                  case rel => exact ⟨0 + 1, by omega, by go_num, HB9.out⟩
                  case measure => simp [intOf]
                · have hnb2 : ¬ (n : Int) < bales := by have := HNN.out h2; omega
                  have hd : decide ((n : Int) < bales) = false := by simp; omega
                  go_wp2_with fail
                  refine HCALL.out.mono ?_
                  rintro e w9 ⟨rfl, hb9⟩
                  have HB9 : Hid (Below wo.heap.size wo w9) := HBO.out.trans (hb9.mono HBO.out.size)
                  obtain ⟨x0, x1, x2, x3, x4, xl⟩ := HF.out w9 (HBQ.out.trans (hb9.mono HBQ.out.size))
                  clear hb9
                  go_wp2
                  go_roundw
                  case rel => exact ⟨0 + 1, by omega, by go_num, HB9.out⟩
                  case measure => simp [intOf]
              · obtain ⟨F, hF⟩ : ∃ F, p.fits z1 = F := ⟨_, rfl⟩
                have hcall := HFT.out 1 z1 wr HZK.out.2.1 HBQ.out
                rw [hF] at hcall
                have hno := HWN.out 1 z1 HZK.out.2.1
                rw [hF] at hno
                have HCALL := Lib.hid hcall
                have HNN := Lib.hid hno
                clear hF hcall hno
                cases h2 : F == 2
                · go_wp2_with fail
                  refine HCALL.out.mono ?_
                  rintro e w9 ⟨rfl, hb9⟩
                  have HB9 : Hid (Below wo.heap.size wo w9) := HBO.out.trans (hb9.mono HBO.out.size)
                  clear hb9 x0 x1 x2 x3 x4 xl
                  go_wp2
                  go_roundw
                  case rel => exact ⟨1 + 1, by omega, by go_num, HB9.out⟩
                  case measure => simp [intOf]
                · have hnb2 : ¬ (n : Int) < bales := by have := HNN.out h2; omega
                  have hd : decide ((n : Int) < bales) = false := by simp; omega
                  go_wp2_with fail
                  refine HCALL.out.mono ?_
                  rintro e w9 ⟨rfl, hb9⟩
                  have HB9 : Hid (Below wo.heap.size wo w9) := HBO.out.trans (hb9.mono HBO.out.size)
                  obtain ⟨x0, x1, x2, x3, x4, xl⟩ := HF.out w9 (HBQ.out.trans (hb9.mono HBQ.out.size))
                  clear hb9
                  go_wp2
                  go_roundw
                  case rel => exact ⟨1 + 1, by omega, by go_num, HB9.out⟩
                  case measure => simp [intOf]
              · obtain ⟨F, hF⟩ : ∃ F, p.fits z2 = F := ⟨_, rfl⟩
                have hcall := HFT.out 2 z2 wr HZK.out.2.2 HBQ.out
                rw [hF] at hcall
                have hno := HWN.out 2 z2 HZK.out.2.2
                rw [hF] at hno
                have HCALL := Lib.hid hcall
                have HNN := Lib.hid hno
                clear hF hcall hno
                cases h2 : F == 2
                · go_wp2_with fail
                  refine HCALL.out.mono ?_
                  rintro e w9 ⟨rfl, hb9⟩
                  have HB9 : Hid (Below wo.heap.size wo w9) := HBO.out.trans (hb9.mono HBO.out.size)
                  clear hb9 x0 x1 x2 x3 x4 xl
                  go_wp2
                  go_roundw
                  case rel => exact ⟨2 + 1, by omega, by go_num, HB9.out⟩
                  case measure => simp [intOf]
                · have hnb2 : ¬ (n : Int) < bales := by have := HNN.out h2; omega
                  have hd : decide ((n : Int) < bales) = false := by simp; omega
                  go_wp2_with fail
                  refine HCALL.out.mono ?_
                  rintro e w9 ⟨rfl, hb9⟩
                  have HB9 : Hid (Below wo.heap.size wo w9) := HBO.out.trans (hb9.mono HBO.out.size)
                  obtain ⟨x0, x1, x2, x3, x4, xl⟩ := HF.out w9 (HBQ.out.trans (hb9.mono HBQ.out.size))
                  clear hb9
                  go_wp2
                  go_roundw
                  case rel => exact ⟨2 + 1, by omega, by go_num, HB9.out⟩
                  case measure => simp [intOf]
            · obtain rfl : k = 3 := by omega
              clear i0 i1 i2
              have HUQ : Hid (RdG u16F 1 wr wr.heap.size ua us) := (HU.out.below (HBW.out.trans (HBQ.out.mono HBW.out.size))).more (Nat.le_trans HBW.out.size HBQ.out.size)
              go_wp2_with fail
              refine (pressing_any (p := p) (us := us) HV.out HW.out HUL.out HUB.out hul wr (by exact HPW.out.grow HBQ.out) (by exact HUQ.out)).mono ?_
              rintro e w9 ⟨M, MA, mc, rfl, hrm, hmp, hms, hb9⟩
              obtain ⟨o1, o2⟩ := other_no (p := p) (by rw [HEN.out]; exact hn10) HPL.out hmp hms
              obtain ⟨nM, hnM⟩ : ∃ n, M.length = n := ⟨_, rfl⟩
              obtain ⟨K, hK⟩ : ∃ K, pops M = K := ⟨_, rfl⟩
              have hnMb : (nM : Int) ≤ bales := by have := hmp.len; rw [hnM, HEB.out] at this; exact this
              rw [hK, HPP.out] at o1 o2
              rw [hnM, HLN.out] at o2
              rw [hnM]
              have HRM := Lib.hid hrm
              have HMB : Hid (∀ s ∈ M, s < 1024) := fun s hs => Nat.lt_of_lt_of_le (hmp.sure s hs).1 (PressD.n_pow HV.out)
              have HNM := Lib.hid hnM
              have HKK := Lib.hid hK
              have HOO := Lib.hid o2
              have HB9 : Hid (Below W.heap.size W w9) := HBQ.out.trans (hb9.mono HBQ.out.size)
              have HL9 : Hid (RdG inF 1 w9 w9.heap.size LA (intZ L)) := (HR5.out.below (HB.out.trans ((HBR.out.trans ((HBO.out.mono HBR.out.size).trans (hb9.mono (Nat.le_trans HBR.out.size HBO.out.size)))).mono HB.out.size))).more (Nat.le_trans HB.out.size (Nat.le_trans HBR.out.size (Nat.le_trans HBO.out.size hb9.size)))
              have hK0 : 0 ≤ K := by rw [← HKK.out]; exact pops_nonneg M
              clear hrm hmp hms hnM hK o2 hb9 x0 x1 x2 x3 x4 xl
              go_wp2_with fail
              refine (pressed_any (l := M) (by omega) HNM.out HMB.out w9 HRM.out).mono ?_
              rw [HKK.out]
              rintro e w10 ⟨rfl, rfl⟩
              have dg : decide (P < K) = false := by simp; omega
              by_cases hKP : K = P
              · subst hKP
                obtain ⟨o3, o4⟩ := HOO.out rfl
                have dk : (K == K) = true := by simp
                have dl : decide (nM < n) = false := by simp; omega
                have HO4 := Lib.hid o4
                clear o4
                by_cases hnn : nM = n
                · subst hnn
                  have HLEX := Lib.hid (HO4.out rfl)
                  have d1 : ((nM : Int) == (nM : Int)) = true := by simp
                  have d2 : (nM == nM) = true := by simp
                  go_wp2
                  go_loopw [235] (fun i wr => ∃ k : Nat, k ≤ nM ∧ i = .int .i64 k ∧ Hid (∀ j, j < k → L[j]? = M[j]?) ∧ Below w10.heap.size w10 wr) (fun i _ => nM - (intOf i).toNat)
                  case atStart => exact ⟨0, Nat.zero_le _, rfl, fun j hj => by omega, Below.refl _ _⟩
                  case round =>
                    obtain ⟨k, hk, rfl, HSAME, hb⟩ := hrel
                    have HBA := Lib.hid hb
                    clear hb
                    by_cases hlt : k < nM
                    · obtain ⟨x, hx⟩ : ∃ x, L[k]? = some x := ⟨_, List.getElem?_eq_getElem (by rw [HLN.out]; exact hlt)⟩
                      obtain ⟨y, hy⟩ : ∃ y, M[k]? = some y := ⟨_, List.getElem?_eq_getElem (by rw [HNM.out]; exact hlt)⟩
                      have hci : (intZ L)[k]? = some (x : Int) := by rw [intZ, List.getElem?_map, hx]; rfl
                      obtain ⟨gb, off, hA, hgb, H0⟩ := rd_in ((HL9.out.below HBA.out).more HBA.out.size) k _ hci
                      obtain ⟨gc, off2, hA2, hgc, H1⟩ := rd_row (HRM.out.below HBA.out) k y hy
                      subst hA hA2
                      have hgb2 : gb < wr.heap.size := hgb
                      have k0 : (0 : Int) ≤ (k : Int) := by omega
                      have kn : (k : Int) < (nM : Int) := by omega
                      go_upto_region 45 with fail
                      by_cases hne : x = y
                      · subst hne
                        have HSN : Hid (∀ j, j < k + 1 → L[j]? = M[j]?) := fun j hj => by
                          by_cases e : j = k
                          · subst e; rw [hx, hy]
                          · exact HSAME.out j (by omega)
                        have he : ((x : Int) != (x : Int)) = false := by simp
                        clear hx hy hci hgb
                        refine wp_region_havoc [(0,false),(1,false),(2,false),(3,false),(4,false),(5,false),(6,false),(7,false),(8,false)] [] (fun _ _ => False) (by kernel_rfl) (by kernel_rfl) (fun _ _ _ _ h => h.elim) ?_
                        (apply hav_same (by simp only [List.getElem?_toArray, List.getElem?_cons_zero]; rfl) (by kernel_rfl); (focus (intro wv hgv _; have hcv : ∀ b o, b < _ → wv.cell? ⟨b, o, none⟩ = _ := fun b o hb => Below.cell hgv (p := ⟨b, o, none⟩) hb; (try go_simp); try rfl; done)); simp only [Act.put, List.setIfInBounds_toArray, List.set_cons_succ, List.set_cons_zero])
                        iterate 8 (apply hav_same (by simp only [List.getElem?_toArray, List.getElem?_cons_succ, List.getElem?_cons_zero]; rfl) (by kernel_rfl); (focus (intro wv hgv _; have hcv : ∀ b o, b < _ → wv.cell? ⟨b, o, none⟩ = _ := fun b o hb => Below.cell hgv (p := ⟨b, o, none⟩) hb; (try go_simp); try rfl; done)); simp only [Act.put, List.setIfInBounds_toArray, List.set_cons_succ, List.set_cons_zero])
                        refine hav_end (fun w11 hgw11 _ => ?_); simp only [List.filterMap]; have hcw11 : ∀ b o, b < _ → w11.cell? ⟨b, o, none⟩ = _ := fun b o hb => Below.cell hgw11 (p := ⟨b, o, none⟩) hb; have hfw11 : ∀ b o, b < _ → w11.frozen? ⟨b, o, none⟩ = _ := fun b o hb => Below.frozen hgw11 (p := ⟨b, o, none⟩) hb; have hzw11 := Below.size hgw11; (try simp at hzw11)
                        have HB11 : Hid (Below w10.heap.size w10 w11) := HBA.out.trans (hgw11.mono HBA.out.size)
                        clear hgw11 hcw11 hfw11 H0 H1
                        go_wp2
                        go_roundw
                        case rel => exact ⟨k + 1, by omega, by go_num, HSN, HB11.out⟩
                        case measure => simp [intOf]; omega
                      · have hxy := lex_at HLEX.out HSAME.out hx hy hne
                        have he : ((x : Int) != (y : Int)) = true := by simp; omega
                        have he2 : (x != y) = true := by simp; omega
                        have hd : decide (x < y) = true := by simp [hxy]
                        have hd2 : decide ((x : Int) < (y : Int)) = true := by simp; omega
                        clear hx hy hci hgb hne
                        refine wp_region_havoc [(0,false),(1,false),(2,false),(3,false),(4,false),(5,false),(6,false),(7,false),(8,false)] [] (fun _ _ => False) (by kernel_rfl) (by kernel_rfl) (fun _ _ _ _ h => h.elim) ?_
                        (apply hav_same (by simp only [List.getElem?_toArray, List.getElem?_cons_zero]; rfl) (by kernel_rfl); (focus (intro wv hgv _; have hcv : ∀ b o, b < _ → wv.cell? ⟨b, o, none⟩ = _ := fun b o hb => Below.cell hgv (p := ⟨b, o, none⟩) hb; (try go_simp); try rfl; done)); simp only [Act.put, List.setIfInBounds_toArray, List.set_cons_succ, List.set_cons_zero])
                        iterate 8 (apply hav_same (by simp only [List.getElem?_toArray, List.getElem?_cons_succ, List.getElem?_cons_zero]; rfl) (by kernel_rfl); (focus (intro wv hgv _; have hcv : ∀ b o, b < _ → wv.cell? ⟨b, o, none⟩ = _ := fun b o hb => Below.cell hgv (p := ⟨b, o, none⟩) hb; (try go_simp); try rfl; done)); simp only [Act.put, List.setIfInBounds_toArray, List.set_cons_succ, List.set_cons_zero])
                        refine hav_end (fun w11 hgw11 _ => ?_); simp only [List.filterMap]; have hcw11 : ∀ b o, b < _ → w11.cell? ⟨b, o, none⟩ = _ := fun b o hb => Below.cell hgw11 (p := ⟨b, o, none⟩) hb; have hfw11 : ∀ b o, b < _ → w11.frozen? ⟨b, o, none⟩ = _ := fun b o hb => Below.frozen hgw11 (p := ⟨b, o, none⟩) hb; have hzw11 := Below.size hgw11; (try simp at hzw11)
                        have HB11 : Hid (Below w10.heap.size w10 w11) := HBA.out.trans (hgw11.mono HBA.out.size)
                        have H0 := (hcw11 gb (off + k) hgb2).trans H0
                        have H1 := (hcw11 gc (off2 + k) hgc).trans H1
                        have hgb2 : gb < w11.heap.size := Nat.lt_of_lt_of_le hgb2 hgw11.size
                        have hgc : gc < w11.heap.size := Nat.lt_of_lt_of_le hgc hgw11.size
                        clear hgw11 hcw11 hfw11
                        go_upto_region 46 with fail
                        refine wp_region_havoc [(0,false),(1,false),(2,false),(3,false),(4,false),(5,false),(6,false),(7,false),(8,false),(9,false),(10,false),(11,false),(12,false)] [] (fun _ _ => False) (by kernel_rfl) (by kernel_rfl) (fun _ _ _ _ h => h.elim) ?_
                        (apply hav_same (by simp only [List.getElem?_toArray, List.getElem?_cons_zero]; rfl) (by kernel_rfl); (focus (intro wv hgv _; have hcv : ∀ b o, b < _ → wv.cell? ⟨b, o, none⟩ = _ := fun b o hb => Below.cell hgv (p := ⟨b, o, none⟩) hb; (try go_simp); try rfl; done)); simp only [Act.put, List.setIfInBounds_toArray, List.set_cons_succ, List.set_cons_zero])
                        iterate 9 (apply hav_same (by simp only [List.getElem?_toArray, List.getElem?_cons_succ, List.getElem?_cons_zero]; rfl) (by kernel_rfl); (focus (intro wv hgv _; have hcv : ∀ b o, b < _ → wv.cell? ⟨b, o, none⟩ = _ := fun b o hb => Below.cell hgv (p := ⟨b, o, none⟩) hb; (try go_simp); try rfl; done)); simp only [Act.put, List.setIfInBounds_toArray, List.set_cons_succ, List.set_cons_zero])
                        (apply hav_call (by simp only [List.getElem?_toArray, List.getElem?_cons_succ, List.getElem?_cons_zero]; rfl) (by kernel_rfl); (focus (intro wv; go_simp; try exact ⟨rfl, rfl⟩; done)); (focus (intro wv hgv _; exact awake_any wv; done)); simp only [Act.put, List.setIfInBounds_toArray, List.set_cons_succ, List.set_cons_zero])
                        iterate 2 (apply hav_same (by simp only [List.getElem?_toArray, List.getElem?_cons_succ, List.getElem?_cons_zero]; rfl) (by kernel_rfl); (focus (intro wv hgv _; have hcv : ∀ b o, b < _ → wv.cell? ⟨b, o, none⟩ = _ := fun b o hb => Below.cell hgv (p := ⟨b, o, none⟩) hb; (try go_simp); try rfl; done)); simp only [Act.put, List.setIfInBounds_toArray, List.set_cons_succ, List.set_cons_zero])
                        refine hav_end (fun w12 hgw12 _ => ?_); simp only [List.filterMap]; have hcw12 : ∀ b o, b < _ → w12.cell? ⟨b, o, none⟩ = _ := fun b o hb => Below.cell hgw12 (p := ⟨b, o, none⟩) hb; have hfw12 : ∀ b o, b < _ → w12.frozen? ⟨b, o, none⟩ = _ := fun b o hb => Below.frozen hgw12 (p := ⟨b, o, none⟩) hb; have hzw12 := Below.size hgw12; (try simp at hzw12)
                        have HB12 : Hid (Below w10.heap.size w10 w12) := HB11.out.trans (hgw12.mono HB11.out.size)
                        clear hgw12 hcw12 hfw12
                        go_wp2
                        go_ret
                        exact ⟨rfl, HBW.out.trans ((HB9.out.trans (HB12.out.mono HB9.out.size)).mono HBW.out.size)⟩
                    · obtain rfl : nM = k := by omega
                      go_wp2_with fail
                      refine (awake_any _).mono ?_
                      rintro e w11 ⟨rfl, hb11⟩
                      go_wp2
                      go_ret
                      exact ⟨rfl, HBW.out.trans ((HB9.out.trans ((HBA.out.trans (hb11.mono HBA.out.size)).mono HB9.out.size)).mono HBW.out.size)⟩
                · have d1 : ((nM : Int) == (n : Int)) = false := by simp; omega
                  have d2 : (nM == n) = false := by simp; omega
                  go_wp2_with fail
                  refine (awake_any _).mono ?_
                  rintro e w11 ⟨rfl, hb11⟩
                  go_wp2
                  go_ret
                  exact ⟨rfl, HBW.out.trans ((HB9.out.trans (hb11.mono HB9.out.size)).mono HBW.out.size)⟩
              · have dk : (K == P) = false := by simp; omega
                clear hKP
                go_wp2_with fail
                refine (awake_any _).mono ?_
                rintro e w11 ⟨rfl, hb11⟩
                go_wp2
                go_ret
                exact ⟨rfl, HBW.out.trans ((HB9.out.trans (hb11.mono HB9.out.size)).mono HBW.out.size)⟩
end
end Go.Proofs.Ytbfjebglaimcmaa
