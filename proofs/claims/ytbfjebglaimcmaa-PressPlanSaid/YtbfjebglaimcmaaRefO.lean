/- The walks of the reference's Most, Plan, Wait; condition: a valid press has few fleeces. -/
import Derived.Test.YtbfjebglaimcmaaRefN
namespace Go.Proofs.Ytbfjebglaimcmaa
open Go.RowKit Go.Hav
theorem chkE_plan (p : PressD) : chkE p true = planE p := by unfold chkE planE; simp
theorem planE_zero {p : PressD} (h : planE p = 0) : p.ok = true ∧ p.wrong = 0 := by
  unfold planE at h
  split at h
  · cases h
  · split at h
    · rename_i h1 h2; exact ⟨by simpa using h1, h2⟩
    · cases h
section
variable {low top bales : Int} {fa wa : Option Addr} {fl fc wl wc : Nat} {p : PressD}
set_option maxRecDepth 100000 in
set_option maxHeartbeats 1600000 in
theorem rMost_any (h6 : p.ok = true → p.n ≤ 6) (w : World) (hP : PressIn w w.heap.size fa fl low top bales wa wl p) :
    Calls Try.prog 23 #[pressV fa fl fc low top bales wa wl wc] w fun e w' => e = .returned (mostR p) ∧ Below w.heap.size w w' := by
  have HP := Lib.hid hP
  have H6 := Lib.hid h6
  have H7 : Hid (p.ok = true → p.n ≤ 7) := fun h => by have := H6.out h; omega
  have HEN : Hid (p.n = fl) := hP.efl
  obtain ⟨E, hE⟩ : ∃ E, planE p = E := ⟨_, rfl⟩
  have HE := Lib.hid hE
  obtain ⟨R, hR⟩ : ∃ R, mostR p = R := ⟨_, rfl⟩
  have HR := Lib.hid hR
  rw [hR]
  clear hP h6 hE hR
  unfold pressV
  go_enter Try.func23, Try.ntmps23
  go_wp2_with fail
  have HBA : Hid (Below w.heap.size w (w.alloc (Obj.cells #[Value.slice fa fl fc, Value.int IntKind.i64 low, Value.int IntKind.i64 top, Value.int IntKind.i64 bales, Value.slice wa wl wc] 25))) := (Below.refl _ _).alloc (Nat.le_refl _) _
  refine (check_any (p := p) H7.out true _ (by exact HP.out.grow HBA.out)).mono ?_
  rw [chkE_plan, HE.out]
  rintro e w1 ⟨rfl, hb1⟩
  have HX : Hid (Blk w1 w.heap.size 25 #[Value.slice fa fl fc, Value.int IntKind.i64 low, Value.int IntKind.i64 top, Value.int IntKind.i64 bales, Value.slice wa wl wc]) := (Blk.new w 25 _).below hb1 (by simp)
  have HB1 : Hid (Below w.heap.size w w1) := HBA.out.trans (hb1.mono (by simp))
  clear hb1
  obtain ⟨x0, x1, x2, x3, x4, xl⟩ := blk5 HX.out
  by_cases h0 : E = 0
  · subst h0
    obtain ⟨k1, k2⟩ := planE_zero HE.out
    obtain ⟨L, hL⟩ : ∃ L, planP p = L := ⟨_, rfl⟩
    obtain ⟨b1, b2, b3, b4⟩ := planP_bd k1
    rw [hL] at b1 b2 b3 b4
    obtain ⟨n, hn⟩ : ∃ n, L.length = n := ⟨_, rfl⟩
    obtain ⟨P, hPP⟩ : ∃ n, pops L = n := ⟨_, rfl⟩
    have HR2 : Hid (R = .tuple #[.int .i64 P, .int .i64 n, .int .i64 0]) := by show _ = _; rw [← HR.out, mostR, if_pos HE.out, hL, hPP, hn]
    have HL := Lib.hid hL
    have HN := Lib.hid hn
    have HPP := Lib.hid hPP
    have HLB : Hid (∀ s ∈ L, s < 1024) := fun s hs => (b2 s hs).2.2
    rw [hn] at b1
    clear hL hn hPP b2 b3 b4
    go_wp2_with fail
    refine (rbest_any (p := p) k1 k2 (H6.out k1) _ (by exact HP.out.grow HB1.out)).mono ?_
    rintro e w2 ⟨A, c, he, hr, hb2⟩
    rw [HL.out, HN.out] at he
    rw [HL.out] at hr
    subst he
    have HRW := Lib.hid hr
    have HB2 : Hid (Below w.heap.size w w2) := HB1.out.trans (hb2.mono HB1.out.size)
    clear hr hb2 x0 x1 x2 x3 x4 xl k1 k2
    go_wp2_with fail
    refine (pressed_any (l := L) (by omega) HN.out HLB.out w2 HRW.out).mono ?_
    rw [HPP.out]
    rintro e w3 ⟨rfl, rfl⟩
    go_wp2
    go_ret3
    exact ⟨by rw [HR2.out]; rfl, HB2.out⟩
  · have HR2 : Hid (R = .tuple #[.int .i64 0, .int .i64 0, .int .i64 E]) := by show _ = _; rw [← HR.out, mostR, if_neg (by rw [HE.out]; exact h0), HE.out]
    have hne : (E != 0) = true := by simp [h0]
    go_wp2
    go_ret3
    exact ⟨by rw [HR2.out]; rfl, HB1.out⟩
theorem RowN.ints {w : World} {A : Option Addr} {L : List Nat} (h : RowN nV 3 w A L) : RdG inF 1 w w.heap.size A (intZ L) := by
  intro k x hx
  rw [intZ, List.getElem?_map] at hx
  cases hs : L[k]? with
  | none => rw [hs] at hx; simp at hx
  | some s =>
    rw [hs] at hx
    obtain rfl : (s : Int) = x := by simpa using hx
    obtain ⟨b, off, e, hb, hc⟩ := h.rd k s hs
    exact ⟨b, off, e, hb, hc⟩
set_option maxRecDepth 100000 in
set_option maxHeartbeats 1600000 in
theorem rPlan_any (h6 : p.ok = true → p.n ≤ 6) (w : World) (hP : PressIn w w.heap.size fa fl low top bales wa wl p) :
    Calls Try.prog 25 #[pressV fa fl fc low top bales wa wl wc] w fun e w' => ∃ A c, e = .returned (.tuple #[.slice A (intsP p).length c, .int .i64 (planE p)]) ∧ RdG inF 1 w' w'.heap.size A (intsP p) ∧ Below w.heap.size w w' := by
  have HP := Lib.hid hP
  have H6 := Lib.hid h6
  have H7 : Hid (p.ok = true → p.n ≤ 7) := fun h => by have := H6.out h; omega
  have HEN : Hid (p.n = fl) := hP.efl
  obtain ⟨E, hE⟩ : ∃ E, planE p = E := ⟨_, rfl⟩
  have HE := Lib.hid hE
  obtain ⟨R, hR⟩ : ∃ R, intsP p = R := ⟨_, rfl⟩
  have HR := Lib.hid hR
  rw [hR, hE]
  clear hP h6 hE hR
  unfold pressV
  go_enter Try.func25, Try.ntmps25
  go_wp2_with fail
  have HBA : Hid (Below w.heap.size w (w.alloc (Obj.cells #[Value.slice fa fl fc, Value.int IntKind.i64 low, Value.int IntKind.i64 top, Value.int IntKind.i64 bales, Value.slice wa wl wc] 25))) := (Below.refl _ _).alloc (Nat.le_refl _) _
  refine (check_any (p := p) H7.out true _ (by exact HP.out.grow HBA.out)).mono ?_
  rw [chkE_plan, HE.out]
  rintro e w1 ⟨rfl, hb1⟩
  have HX : Hid (Blk w1 w.heap.size 25 #[Value.slice fa fl fc, Value.int IntKind.i64 low, Value.int IntKind.i64 top, Value.int IntKind.i64 bales, Value.slice wa wl wc]) := (Blk.new w 25 _).below hb1 (by simp)
  have HB1 : Hid (Below w.heap.size w w1) := HBA.out.trans (hb1.mono (by simp))
  clear hb1
  obtain ⟨x0, x1, x2, x3, x4, xl⟩ := blk5 HX.out
  by_cases h0 : E = 0
  · subst h0
    obtain ⟨k1, k2⟩ := planE_zero HE.out
    obtain ⟨L, hL⟩ : ∃ L, planP p = L := ⟨_, rfl⟩
    obtain ⟨n, hn⟩ : ∃ n, L.length = n := ⟨_, rfl⟩
    have HR2 : Hid (R = intZ L) := by show _ = _; rw [← HR.out, intsP, if_pos HE.out, hL]
    have HL := Lib.hid hL
    have HN := Lib.hid hn
    clear hL hn
    go_wp2_with fail
    refine (rbest_any (p := p) k1 k2 (H6.out k1) _ (by exact HP.out.grow HB1.out)).mono ?_
    rintro e w2 ⟨A, c, he, hr, hb2⟩
    rw [HL.out, HN.out] at he
    rw [HL.out] at hr
    subst he
    have HRW := Lib.hid hr
    have HB2 : Hid (Below w.heap.size w w2) := HB1.out.trans (hb2.mono HB1.out.size)
    clear hr hb2 x0 x1 x2 x3 x4 xl k1 k2
    go_wp2
    go_ret2
    exact ⟨A, c, by rw [HR2.out, intZ_len, HN.out]; rfl, by rw [HR2.out]; exact HRW.out.ints, HB2.out⟩
  · have HR2 : Hid (R = []) := by show _ = _; rw [← HR.out, intsP, if_neg (by rw [HE.out]; exact h0)]
    have hne : (E != 0) = true := by simp [h0]
    go_wp2
    go_ret2
    exact ⟨none, 0, by rw [HR2.out]; rfl, by rw [HR2.out]; exact RdG.nil _ _ _ _ _, HB1.out⟩
theorem any_next {L : List Nat} {q s : Nat} (h : L[q]? = some s) (k : Nat) : ((L.take (q + 1)).any fun s => s.testBit k) = (((L.take q).any fun s => s.testBit k) || s.testBit k) := by
  rw [List.take_add_one, h, List.any_append]
  simp
theorem RowN.set {α : Type} {e : α → Value} {t t2 : TypeId} {w : World} {A : Option Addr} {l : List α} {g o : Nat} {cs : Array Value} {u : Value} (h : RowN e t w A l) (hk : Blk w g t2 cs) (hne : t ≠ t2) : RowN e t (w.setCell ⟨g, o, none⟩ u) A l := fun k x hx => by
  obtain ⟨b, off, cur, h1, h2, h3⟩ := h k x hx
  refine ⟨b, off, cur, h1, h2.far (p := ⟨g, o, none⟩) (fun e => ?_) u, h3⟩
  have e : b = g := e
  subst e
  have := h2.symm.trans hk
  injection this with this
  injection this with _ h4 _
  exact hne h4
set_option maxRecDepth 100000 in
set_option maxHeartbeats 6400000 in
theorem rWait_any (h6 : p.ok = true → p.n ≤ 6) (w : World) (hP : PressIn w w.heap.size fa fl low top bales wa wl p) :
    Calls Try.prog 27 #[pressV fa fl fc low top bales wa wl wc] w fun e w' => e = .returned (waitR p) ∧ Below w.heap.size w w' := by
  have HP := Lib.hid hP
  have H6 := Lib.hid h6
  have H7 : Hid (p.ok = true → p.n ≤ 7) := fun h => by have := H6.out h; omega
  have HEN : Hid (p.n = fl) := hP.efl
  obtain ⟨E, hE⟩ : ∃ E, planE p = E := ⟨_, rfl⟩
  have HE := Lib.hid hE
  obtain ⟨R, hR⟩ : ∃ R, waitR p = R := ⟨_, rfl⟩
  have HR := Lib.hid hR
  rw [hR]
  clear hP h6 hE hR
  unfold pressV
  go_enter Try.func27, Try.ntmps27
  go_wp2_with fail
  obtain ⟨W, hW⟩ : ∃ W, W = ((w.alloc (Obj.cells #[Value.slice fa fl fc, Value.int IntKind.i64 low, Value.int IntKind.i64 top, Value.int IntKind.i64 bales, Value.slice wa wl wc] 25)).alloc (Obj.cells #[.int .i64 0, .int .i64 0, .int .i64 0] 41)).alloc (Obj.cells #[.int .i64 0, .int .i64 0, .int .i64 0] 41) := ⟨_, rfl⟩
  have HA1 : Hid (Blk W w.heap.size 25 #[Value.slice fa fl fc, Value.int IntKind.i64 low, Value.int IntKind.i64 top, Value.int IntKind.i64 bales, Value.slice wa wl wc]) := by rw [hW]; exact ((Blk.new w 25 _).alloc _).alloc _
  have HA2 : Hid (Blk W (w.heap.size + 1) 41 #[.int .i64 0, .int .i64 0, .int .i64 0]) := by rw [hW]; exact (Blk.new_ (by simp) 41 _).alloc _
  have HA4 : Hid (Blk W (w.heap.size + 1 + 1) 41 #[.int .i64 0, .int .i64 0, .int .i64 0]) := by rw [hW]; exact Blk.new_ (by simp) 41 _
  have HBW : Hid (Below w.heap.size w W) := by rw [hW]; exact (((Below.refl _ _).alloc (Nat.le_refl _) _).alloc (by simp) _).alloc (by simp; omega) _
  rw [← hW]
  clear hW
  refine (check_any (p := p) H7.out true W (by exact HP.out.grow HBW.out)).mono ?_
  rw [chkE_plan, HE.out]
  rintro e w1 ⟨rfl, hb1⟩
  have HC1 := Lib.hid (HA1.out.below hb1 HA1.out.lt)
  have HC2 := Lib.hid (HA2.out.below hb1 HA2.out.lt)
  have HC4 := Lib.hid (HA4.out.below hb1 HA4.out.lt)
  have HB1 : Hid (Below w.heap.size w w1) := HBW.out.trans (hb1.mono HBW.out.size)
  clear hb1
  obtain ⟨x0, x1, x2, x3, x4, xl⟩ := blk5 HC1.out
  by_cases h0 : E = 0
  · subst h0
    obtain ⟨k1, k2⟩ := planE_zero HE.out
    obtain ⟨L, hL⟩ : ∃ L, planP p = L := ⟨_, rfl⟩
    obtain ⟨b1, b2, -, -⟩ := planP_bd k1
    rw [hL] at b1 b2
    obtain ⟨n, hn⟩ : ∃ n, L.length = n := ⟨_, rfl⟩
    have HR2 : Hid (R = .tuple #[waitV p L p.n, .int .i64 0]) := by show _ = _; rw [← HR.out, waitR, if_pos HE.out, hL]
    have HL := Lib.hid hL
    have HN := Lib.hid hn
    have HLB : Hid (∀ s ∈ L, s < 1024) := fun s hs => (b2 s hs).2.2
    rw [hn] at b1
    have hf6 : fl ≤ 6 := by rw [← HEN.out]; exact H6.out k1
    have HV := Lib.hid k1
    clear hL hn b2
    go_wp2_with fail
    refine (rbest_any (p := p) k1 k2 (H6.out k1) _ (by exact HP.out.grow HB1.out)).mono ?_
    rintro e w2 ⟨A, c, he, hr, hb2⟩
    rw [HL.out, HN.out] at he
    rw [HL.out] at hr
    subst he
    have HRW := Lib.hid hr
    have HB2 : Hid (Below w.heap.size w w2) := HB1.out.trans (hb2.mono HB1.out.size)
    have HD1 := Lib.hid (HC1.out.below hb2 HC1.out.lt)
    have HD2 := Lib.hid (HC2.out.below hb2 HC2.out.lt)
    have HD4 := Lib.hid (HC4.out.below hb2 HC4.out.lt)
    clear hr hb2 x0 x1 x2 x3 x4 xl k1 k2
    go_wp2
    go_loopw [7] (fun i wr => ∃ (k : Nat) (y0 y1 y2 : Int), k ≤ fl ∧ i = .int .i64 k ∧ Hid (y0 = waitK p L k 0) ∧ Hid (y1 = waitK p L k 1) ∧ Hid (y2 = waitK p L k 2) ∧ Blk wr w.heap.size 25 #[Value.slice fa fl fc, Value.int IntKind.i64 low, Value.int IntKind.i64 top, Value.int IntKind.i64 bales, Value.slice wa wl wc] ∧ Blk wr (w.heap.size + 1) 41 #[.int .i64 0, .int .i64 0, .int .i64 0] ∧ Blk wr (w.heap.size + 1 + 1) 41 #[.int .i64 y0, .int .i64 y1, .int .i64 y2] ∧ RowN nV 3 wr A L ∧ Below w.heap.size w wr) (fun i _ => fl - (intOf i).toNat)
    case atStart => exact ⟨0, 0, 0, 0, Nat.zero_le _, rfl, rfl, rfl, rfl, HD1.out, HD2.out, HD4.out, HRW.out, HB2.out⟩
    case round =>
      clear HD1 HD2 HD4 HRW HB2
      obtain ⟨k, y0, y1, y2, hk, rfl, HX0, HX1, HX2, hk1, hk2, hk4, hrw, hb⟩ := hrel
      have HK1 := Lib.hid hk1
      have HK2 := Lib.hid hk2
      have HK4 := Lib.hid hk4
      have HRW := Lib.hid hrw
      have HB := Lib.hid hb
      clear hk1 hk2 hk4 hrw hb
      have e0 := waitK_bd p L 0 k
      have e1 := waitK_bd p L 1 k
      have e2 := waitK_bd p L 2 k
      rw [← HX0.out] at e0
      rw [← HX1.out] at e1
      rw [← HX2.out] at e2
      obtain ⟨e00, e01⟩ := e0
      obtain ⟨e10, e11⟩ := e1
      obtain ⟨e20, e21⟩ := e2
      obtain ⟨x0', x1', x2', x3', x4', xl'⟩ := blk5 HK1.out
      by_cases hlt : k < fl
      · obtain ⟨⟨⟨c0, c1⟩, cl⟩, hc⟩ : ∃ c, p.fl[k]? = some c := ⟨p.fl[k]'(by have := HEN.out; unfold PressD.n at this; omega), by simp⟩
        have HCL : Hid (p.line k = cl) := (fw_of hc).2
        have hln := PressD.ok_fl HV.out (i := k) (by rw [HEN.out]; exact hlt)
        rw [HCL.out] at hln
        obtain ⟨-, -, -, -, g0, g1⟩ := hln
        obtain ⟨gb, off, hfa, hbl, H0, H1, H2⟩ := rd_fl ((HP.out.grow HB.out).hfl) k _ hc
        subst hfa
        have hgb : gb < wr.heap.size := hbl
        simp only at H0 H1 H2
        clear hc hbl
        go_wp2
        obtain ⟨wo, rfl⟩ : ∃ wo : World, wo = wr := ⟨_, rfl⟩
        go_loopw [8, 9] (fun bv iv wr => ∃ (q : Nat) (b : Bool), q ≤ n ∧ iv = .int .i64 q ∧ bv = .bool b ∧ Hid (b = !((L.take q).any fun s => s.testBit k)) ∧ wr = wo) (fun _ iv _ => n - (intOf iv).toNat)
        case atStart => exact ⟨0, true, Nat.zero_le _, rfl, rfl, rfl, rfl⟩
        case round =>
          obtain ⟨q, b, hq, rfl, rfl, HBB, rfl⟩ := hrel
          by_cases hlt2 : q < n
          · obtain ⟨s, hs⟩ : ∃ s, L[q]? = some s := ⟨_, List.getElem?_eq_getElem (by rw [HN.out]; exact hlt2)⟩
            have hs10 := HLB.out s (List.mem_of_getElem? hs)
            obtain ⟨g2, o2, hA, hg2, H3⟩ := rd_row HRW.out q s hs
            subst hA
            have HNX := Lib.hid (any_next hs k)
            clear hs
            cases b
            · have HB2 : Hid (false = !((L.take (q + 1)).any fun s => s.testBit k)) := by
                show _ = _
                have h := HBB.out
                rw [HNX.out]
                cases hany : (L.take q).any fun s => s.testBit k
                · rw [hany] at h; cases h
                · rfl
              go_wp2
              go_roundw
              case rel => exact ⟨q + 1, false, by omega, by go_num, rfl, HB2, trivial⟩
              case measure => simp [intOf]; omega
            · have HB2 : Hid ((!s.testBit k) = !((L.take (q + 1)).any fun s => s.testBit k)) := by
                show _ = _
                have h := HBB.out
                rw [HNX.out]
                cases hany : (L.take q).any fun s => s.testBit k
                · rfl
                · rw [hany] at h; cases h
              go_wp2_with fail
              refine (has_any s k (by omega) (by omega) wr).mono ?_
              rintro e w5 ⟨rfl, rfl⟩
              go_wp2
              go_roundw
              case rel => exact ⟨q + 1, _, by omega, by go_num, rfl, HB2, trivial⟩
              case measure => simp [intOf]; omega
          · obtain rfl : n = q := by omega
            have HWT : Hid (waits L k = b) := by
              show _ = _
              rw [HBB.out, List.take_of_length_le (by rw [HN.out]; exact Nat.le_refl _)]
              rfl
            have z0 := HK4.out.cell 0
            have z1 := HK4.out.cell 1
            have z2 := HK4.out.cell 2
            have zl := HK4.out.lt
            simp at z0 z1 z2
            cases b
            · have HY0 : Hid (y0 = waitK p L (k + 1) 0) := by show _ = _; rw [waitK_out HWT.out, ← HX0.out]
              have HY1 : Hid (y1 = waitK p L (k + 1) 1) := by show _ = _; rw [waitK_out HWT.out, ← HX1.out]
              have HY2 : Hid (y2 = waitK p L (k + 1) 2) := by show _ = _; rw [waitK_out HWT.out, ← HX2.out]
              go_wp2
              go_roundw
              case rel => exact ⟨k + 1, y0, y1, y2, by omega, by go_num, HY0, HY1, HY2, HK1.out, HK2.out, HK4.out, HRW.out, HB.out⟩
              case measure => simp [intOf]; omega
            · have HW0 := Lib.hid (waitK_in (p := p) HWT.out 0)
              have HW1 := Lib.hid (waitK_in (p := p) HWT.out 1)
              have HW2 := Lib.hid (waitK_in (p := p) HWT.out 2)
              rw [HCL.out, ← HX0.out] at HW0
              rw [HCL.out, ← HX1.out] at HW1
              rw [HCL.out, ← HX2.out] at HW2
              have h3 : cl = 0 ∨ cl = 1 ∨ cl = 2 := by omega
              rcases h3 with rfl | rfl | rfl
              · have HY0 : Hid (y0 + 1 = waitK p L (k + 1) 0) := by show _ = _; rw [HW0.out]; simp
                have HY1 : Hid (y1 = waitK p L (k + 1) 1) := by show _ = _; rw [HW1.out]; simp
                have HY2 : Hid (y2 = waitK p L (k + 1) 2) := by show _ = _; rw [HW2.out]; simp
                have qw : IntKind.i64.wrap (y0 + 1) = y0 + 1 := wrap_i64 (by omega) (by omega)
                go_wp2
                refine wp_region_havoc [(0,false),(1,false),(2,false),(3,false),(4,false),(5,false),(6,false),(7,false),(8,false),(9,false),(10,false),(11,false),(12,false),(13,false),(14,false),(15,false)] [16] (fun _ _ => False) (by kernel_rfl) (by kernel_rfl) (fun _ _ _ _ h => h.elim) ?_
                (apply hav_same (by simp only [List.getElem?_toArray, List.getElem?_cons_zero]; rfl) (by kernel_rfl); (focus (intro wv hgv _; have hcv : ∀ b o, b < _ → wv.cell? ⟨b, o, none⟩ = _ := fun b o hb => Below.cell hgv (p := ⟨b, o, none⟩) hb; (try go_simp); try rfl; done)); simp only [Act.put, List.setIfInBounds_toArray, List.set_cons_succ, List.set_cons_zero])
                iterate 15 (apply hav_same (by simp only [List.getElem?_toArray, List.getElem?_cons_succ, List.getElem?_cons_zero]; rfl) (by kernel_rfl); (focus (intro wv hgv _; have hcv : ∀ b o, b < _ → wv.cell? ⟨b, o, none⟩ = _ := fun b o hb => Below.cell hgv (p := ⟨b, o, none⟩) hb; (try go_simp); try rfl; done)); simp only [Act.put, List.setIfInBounds_toArray, List.set_cons_succ, List.set_cons_zero])
                refine hav_end (fun w5 hgw5 _ => ?_); simp only [List.filterMap]; have hcw5 : ∀ b o, b < _ → w5.cell? ⟨b, o, none⟩ = _ := fun b o hb => Below.cell hgw5 (p := ⟨b, o, none⟩) hb; have hfw5 : ∀ b o, b < _ → w5.frozen? ⟨b, o, none⟩ = _ := fun b o hb => Below.frozen hgw5 (p := ⟨b, o, none⟩) hb; have hzw5 := Below.size hgw5; (try simp at hzw5)
                have HQ1 := Lib.hid (HK1.out.below hgw5 HK1.out.lt)
                have HQ2 := Lib.hid (HK2.out.below hgw5 HK2.out.lt)
                have HQ4 := Lib.hid (HK4.out.below hgw5 HK4.out.lt)
                have HB5 : Hid (Below w.heap.size w w5) := HB.out.trans (hgw5.mono HB.out.size)
                have HR5 := Lib.hid (HRW.out.below hgw5)
                clear hgw5 hcw5 hfw5 H0 H1 H2 z0 z1 z2 zl x0' x1' x2' x3' x4' xl' qw
                have z0 := HQ4.out.cell 0
                have z1 := HQ4.out.cell 1
                have z2 := HQ4.out.cell 2
                have f0 := HQ4.out.frozen 0
                have f1 := HQ4.out.frozen 1
                have f2 := HQ4.out.frozen 2
                have zl := HQ4.out.lt
                simp at z0 z1 z2
                go_wp2
                go_roundw
                case rel => exact ⟨k + 1, y0 + 1, y1, y2, by omega, by go_num, HY0, HY1, HY2, HQ1.out.far (p := ⟨w.heap.size + 1 + 1, 0, none⟩) (by show w.heap.size ≠ w.heap.size + 1 + 1; omega) _, HQ2.out.far (p := ⟨w.heap.size + 1 + 1, 0, none⟩) (by show w.heap.size + 1 ≠ w.heap.size + 1 + 1; omega) _, HQ4.out.set_ 0 _, HR5.out.set HQ4.out (by decide), setCell_below HB5.out (by omega) _ _⟩
                case measure => simp [intOf]; omega
              · have HY0 : Hid (y0 = waitK p L (k + 1) 0) := by show _ = _; rw [HW0.out]; simp
                have HY1 : Hid (y1 + 1 = waitK p L (k + 1) 1) := by show _ = _; rw [HW1.out]; simp
                have HY2 : Hid (y2 = waitK p L (k + 1) 2) := by show _ = _; rw [HW2.out]; simp
                have qw : IntKind.i64.wrap (y1 + 1) = y1 + 1 := wrap_i64 (by omega) (by omega)
                go_wp2
                refine wp_region_havoc [(0,false),(1,false),(2,false),(3,false),(4,false),(5,false),(6,false),(7,false),(8,false),(9,false),(10,false),(11,false),(12,false),(13,false),(14,false),(15,false)] [16] (fun _ _ => False) (by kernel_rfl) (by kernel_rfl) (fun _ _ _ _ h => h.elim) ?_
                (apply hav_same (by simp only [List.getElem?_toArray, List.getElem?_cons_zero]; rfl) (by kernel_rfl); (focus (intro wv hgv _; have hcv : ∀ b o, b < _ → wv.cell? ⟨b, o, none⟩ = _ := fun b o hb => Below.cell hgv (p := ⟨b, o, none⟩) hb; (try go_simp); try rfl; done)); simp only [Act.put, List.setIfInBounds_toArray, List.set_cons_succ, List.set_cons_zero])
                iterate 15 (apply hav_same (by simp only [List.getElem?_toArray, List.getElem?_cons_succ, List.getElem?_cons_zero]; rfl) (by kernel_rfl); (focus (intro wv hgv _; have hcv : ∀ b o, b < _ → wv.cell? ⟨b, o, none⟩ = _ := fun b o hb => Below.cell hgv (p := ⟨b, o, none⟩) hb; (try go_simp); try rfl; done)); simp only [Act.put, List.setIfInBounds_toArray, List.set_cons_succ, List.set_cons_zero])
                refine hav_end (fun w5 hgw5 _ => ?_); simp only [List.filterMap]; have hcw5 : ∀ b o, b < _ → w5.cell? ⟨b, o, none⟩ = _ := fun b o hb => Below.cell hgw5 (p := ⟨b, o, none⟩) hb; have hfw5 : ∀ b o, b < _ → w5.frozen? ⟨b, o, none⟩ = _ := fun b o hb => Below.frozen hgw5 (p := ⟨b, o, none⟩) hb; have hzw5 := Below.size hgw5; (try simp at hzw5)
                have HQ1 := Lib.hid (HK1.out.below hgw5 HK1.out.lt)
                have HQ2 := Lib.hid (HK2.out.below hgw5 HK2.out.lt)
                have HQ4 := Lib.hid (HK4.out.below hgw5 HK4.out.lt)
                have HB5 : Hid (Below w.heap.size w w5) := HB.out.trans (hgw5.mono HB.out.size)
                have HR5 := Lib.hid (HRW.out.below hgw5)
                clear hgw5 hcw5 hfw5 H0 H1 H2 z0 z1 z2 zl x0' x1' x2' x3' x4' xl' qw
                have z0 := HQ4.out.cell 0
                have z1 := HQ4.out.cell 1
                have z2 := HQ4.out.cell 2
                have f0 := HQ4.out.frozen 0
                have f1 := HQ4.out.frozen 1
                have f2 := HQ4.out.frozen 2
                have zl := HQ4.out.lt
                simp at z0 z1 z2
                go_wp2
                go_roundw
                case rel => exact ⟨k + 1, y0, y1 + 1, y2, by omega, by go_num, HY0, HY1, HY2, HQ1.out.far (p := ⟨w.heap.size + 1 + 1, 1, none⟩) (by show w.heap.size ≠ w.heap.size + 1 + 1; omega) _, HQ2.out.far (p := ⟨w.heap.size + 1 + 1, 1, none⟩) (by show w.heap.size + 1 ≠ w.heap.size + 1 + 1; omega) _, HQ4.out.set_ 1 _, HR5.out.set HQ4.out (by decide), setCell_below HB5.out (by omega) _ _⟩
                case measure => simp [intOf]; omega
              · have HY0 : Hid (y0 = waitK p L (k + 1) 0) := by show _ = _; rw [HW0.out]; simp
                have HY1 : Hid (y1 = waitK p L (k + 1) 1) := by show _ = _; rw [HW1.out]; simp
                have HY2 : Hid (y2 + 1 = waitK p L (k + 1) 2) := by show _ = _; rw [HW2.out]; simp
                have qw : IntKind.i64.wrap (y2 + 1) = y2 + 1 := wrap_i64 (by omega) (by omega)
                go_wp2
                refine wp_region_havoc [(0,false),(1,false),(2,false),(3,false),(4,false),(5,false),(6,false),(7,false),(8,false),(9,false),(10,false),(11,false),(12,false),(13,false),(14,false),(15,false)] [16] (fun _ _ => False) (by kernel_rfl) (by kernel_rfl) (fun _ _ _ _ h => h.elim) ?_
                (apply hav_same (by simp only [List.getElem?_toArray, List.getElem?_cons_zero]; rfl) (by kernel_rfl); (focus (intro wv hgv _; have hcv : ∀ b o, b < _ → wv.cell? ⟨b, o, none⟩ = _ := fun b o hb => Below.cell hgv (p := ⟨b, o, none⟩) hb; (try go_simp); try rfl; done)); simp only [Act.put, List.setIfInBounds_toArray, List.set_cons_succ, List.set_cons_zero])
                iterate 15 (apply hav_same (by simp only [List.getElem?_toArray, List.getElem?_cons_succ, List.getElem?_cons_zero]; rfl) (by kernel_rfl); (focus (intro wv hgv _; have hcv : ∀ b o, b < _ → wv.cell? ⟨b, o, none⟩ = _ := fun b o hb => Below.cell hgv (p := ⟨b, o, none⟩) hb; (try go_simp); try rfl; done)); simp only [Act.put, List.setIfInBounds_toArray, List.set_cons_succ, List.set_cons_zero])
                refine hav_end (fun w5 hgw5 _ => ?_); simp only [List.filterMap]; have hcw5 : ∀ b o, b < _ → w5.cell? ⟨b, o, none⟩ = _ := fun b o hb => Below.cell hgw5 (p := ⟨b, o, none⟩) hb; have hfw5 : ∀ b o, b < _ → w5.frozen? ⟨b, o, none⟩ = _ := fun b o hb => Below.frozen hgw5 (p := ⟨b, o, none⟩) hb; have hzw5 := Below.size hgw5; (try simp at hzw5)
                have HQ1 := Lib.hid (HK1.out.below hgw5 HK1.out.lt)
                have HQ2 := Lib.hid (HK2.out.below hgw5 HK2.out.lt)
                have HQ4 := Lib.hid (HK4.out.below hgw5 HK4.out.lt)
                have HB5 : Hid (Below w.heap.size w w5) := HB.out.trans (hgw5.mono HB.out.size)
                have HR5 := Lib.hid (HRW.out.below hgw5)
                clear hgw5 hcw5 hfw5 H0 H1 H2 z0 z1 z2 zl x0' x1' x2' x3' x4' xl' qw
                have z0 := HQ4.out.cell 0
                have z1 := HQ4.out.cell 1
                have z2 := HQ4.out.cell 2
                have f0 := HQ4.out.frozen 0
                have f1 := HQ4.out.frozen 1
                have f2 := HQ4.out.frozen 2
                have zl := HQ4.out.lt
                simp at z0 z1 z2
                go_wp2
                go_roundw
                case rel => exact ⟨k + 1, y0, y1, y2 + 1, by omega, by go_num, HY0, HY1, HY2, HQ1.out.far (p := ⟨w.heap.size + 1 + 1, 2, none⟩) (by show w.heap.size ≠ w.heap.size + 1 + 1; omega) _, HQ2.out.far (p := ⟨w.heap.size + 1 + 1, 2, none⟩) (by show w.heap.size + 1 ≠ w.heap.size + 1 + 1; omega) _, HQ4.out.set_ 2 _, HR5.out.set HQ4.out (by decide), setCell_below HB5.out (by omega) _ _⟩
                case measure => simp [intOf]; omega
      · obtain rfl : fl = k := by omega
        have HVV : Hid (waitV p L p.n = .agg #[.int .i64 y0, .int .i64 y1, .int .i64 y2]) := by show _ = _; rw [HEN.out, waitV, ← HX0.out, ← HX1.out, ← HX2.out]
        have z0 := HK4.out.cell 0
        have z1 := HK4.out.cell 1
        have z2 := HK4.out.cell 2
        have zl := HK4.out.lt
        have r0 := HK2.out.cell 0
        have r1 := HK2.out.cell 1
        have r2 := HK2.out.cell 2
        have f0 := HK2.out.frozen 0
        have f1 := HK2.out.frozen 1
        have f2 := HK2.out.frozen 2
        have rl := HK2.out.lt
        simp at z0 z1 z2 r0 r1 r2
        go_wp2
        have hk := ((HK2.out.set_ 0 (.int .i64 y0)).set_ 1 (.int .i64 y1)).set_ 2 (.int .i64 y2)
        have g0 := hk.cell 0
        have g1 := hk.cell 1
        have g2 := hk.cell 2
        simp at g0 g1 g2
        refine bodyPost_ret (v := .tuple #[.agg #[.int .i64 y0, .int .i64 y1, .int .i64 y2], .int .i64 0]) (by simp [results, Try.results27, go_sem, g0, g1, g2]) rfl ⟨by rw [HR2.out, HVV.out], setCell_below (setCell_below (setCell_below HB.out (by omega) 0 _) (by omega) 1 _) (by omega) 2 _⟩
  · have HR2 : Hid (R = .tuple #[.agg #[.int .i64 0, .int .i64 0, .int .i64 0], .int .i64 E]) := by show _ = _; rw [← HR.out, waitR, if_neg (by rw [HE.out]; exact h0), HE.out]
    have hne : (E != 0) = true := by simp [h0]
    have z0 := HC4.out.cell 0
    have z1 := HC4.out.cell 1
    have z2 := HC4.out.cell 2
    have zl := HC4.out.lt
    have r0 := HC2.out.cell 0
    have r1 := HC2.out.cell 1
    have r2 := HC2.out.cell 2
    have f0 := HC2.out.frozen 0
    have f1 := HC2.out.frozen 1
    have f2 := HC2.out.frozen 2
    have rl := HC2.out.lt
    simp at z0 z1 z2 r0 r1 r2
    go_wp2
    have hk := ((HC2.out.set_ 0 (.int .i64 0)).set_ 1 (.int .i64 0)).set_ 2 (.int .i64 0)
    have g0 := hk.cell 0
    have g1 := hk.cell 1
    have g2 := hk.cell 2
    simp at g0 g1 g2
    refine bodyPost_ret (v := .tuple #[.agg #[.int .i64 0, .int .i64 0, .int .i64 0], .int .i64 E]) (by simp [results, Try.results27, go_sem, g0, g1, g2]) rfl ⟨by rw [HR2.out], setCell_below (setCell_below (setCell_below HB1.out (by omega) 0 _) (by omega) 1 _) (by omega) 2 _⟩
end
end Go.Proofs.Ytbfjebglaimcmaa
