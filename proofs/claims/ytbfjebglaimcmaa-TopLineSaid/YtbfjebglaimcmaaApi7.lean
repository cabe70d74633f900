/- The walk of Wait: for every press. -/
import Derived.Test.YtbfjebglaimcmaaWait1
namespace Go.Proofs.Ytbfjebglaimcmaa
open Go.RowKit Go.Hav Go.Shelf
section
variable {low top bales : Int} {fa wa : Option Addr} {fl fc wl wc : Nat} {p : PressD}
set_option maxRecDepth 100000 in
set_option maxHeartbeats 6400000 in
theorem PWait_err (w : World) (hP : PressIn w w.heap.size fa fl low top bales wa wl p) (h : planE p ≠ 0) :
    Calls Try.prog 26 #[pressV fa fl fc low top bales wa wl wc] w fun e w' => e = .returned (waitR p) ∧ Below w.heap.size w w' := by
  have HR : Hid (waitR p = .tuple #[.agg #[.int .i64 0, .int .i64 0, .int .i64 0], .int .i64 (planE p)]) := by show _ = _; simp [waitR, h]
  cases hv : p.ok
  · have HV := Lib.hid hv
    have HE : Hid (planE p = 1) := by show _ = _; simp [planE, hv]
    clear hv h
    have HP := Lib.hid hP
    have HL : Hid (fl ≤ 9223372036854775807 ∧ wl ≤ 9223372036854775807) := ⟨hP.mfl, hP.mwl⟩
    have HEQ : Hid (p.n = fl ∧ p.bales = bales) := ⟨hP.efl, hP.ebales⟩
    have EG := Lib.hid (enters_of Try.func69 (by kernel_rfl) rfl)
    clear hP
    unfold pressV
    go_enter_defers Try.func26, Try.ntmps26
    go_wp2_with fail
    obtain ⟨W, hW⟩ : ∃ W, W = ((w.alloc (Obj.cells #[Value.slice fa fl fc, Value.int IntKind.i64 low, Value.int IntKind.i64 top, Value.int IntKind.i64 bales, Value.slice wa wl wc] 25)).alloc (.cells #[.int .i64 0, .int .i64 0, .int .i64 0] 41)).alloc (.cells #[.int .i64 0] 30) := ⟨_, rfl⟩
    have HBE : Hid (Blk W (w.heap.size + 1 + 1) 30 #[.int .i64 0]) := by rw [hW]; exact Blk.new_ (by simp) _ _
    have HBO : Hid (Blk W (w.heap.size + 1) 41 #[.int .i64 0, .int .i64 0, .int .i64 0]) := by rw [hW]; exact (Blk.new_ (by simp) _ _).alloc _
    have HBW : Hid (Below w.heap.size w W) := by rw [hW]; exact (((Below.refl w.heap.size w).alloc (by simp) _).alloc (by simp) _).alloc (by simp; omega) _
    have HBX : Hid (Blk W w.heap.size 25 #[Value.slice fa fl fc, Value.int IntKind.i64 low, Value.int IntKind.i64 top, Value.int IntKind.i64 bales, Value.slice wa wl wc]) := by rw [hW]; exact ((Blk.new w 25 _).alloc _).alloc _
    rw [← hW]
    clear hW
    refine (open_bad (p := p) _ W (by exact HP.out.grow HBW.out) HV.out).mono ?_
    rintro e w1 ⟨rfl, hb1⟩
    have HB1 := Lib.hid hb1
    have HBO1 := HBO.out.below HB1.out HBO.out.lt
    clear hb1
    go_wp2
    refine end_panic (w0 := w) (b := w.heap.size + 1 + 1) rfl (HBE.out.below HB1.out HBE.out.lt) (v := .tuple #[.agg #[.int .i64 0, .int .i64 0, .int .i64 0], .int .i64 1]) (fun w' hk ho => ?_) (by omega) (HBW.out.trans (HB1.out.mono HBW.out.size)) (fun w' h => ⟨by rw [HR.out, HE.out], h⟩)
    have hbo : Blk w' (w.heap.size + 1) 41 #[.int .i64 0, .int .i64 0, .int .i64 0] := (ho _ (by omega)).trans HBO1
    have g0 := hk.cell 0
    have o0 := hbo.cell 0
    have o1 := hbo.cell 1
    have o2 := hbo.cell 2
    simp at o0 o1 o2 g0
    simp [results, Try.results26, go_sem, g0, o0, o1, o2]
  · have HV := Lib.hid hv
    have ht : p.wrong ≠ 0 := fun e => h (by simp [planE, hv, e])
    have HT := Lib.hid ht
    have HE : Hid (planE p = 10) := by show _ = _; simp [planE, hv, ht]
    clear hv h ht
    have HP := Lib.hid hP
    have HL : Hid (fl ≤ 9223372036854775807 ∧ wl ≤ 9223372036854775807) := ⟨hP.mfl, hP.mwl⟩
    have HEQ : Hid (p.n = fl ∧ p.bales = bales) := ⟨hP.efl, hP.ebales⟩
    have EG := Lib.hid (enters_of Try.func69 (by kernel_rfl) rfl)
    clear hP
    unfold pressV
    go_enter_defers Try.func26, Try.ntmps26
    go_wp2_with fail
    obtain ⟨W, hW⟩ : ∃ W, W = ((w.alloc (Obj.cells #[Value.slice fa fl fc, Value.int IntKind.i64 low, Value.int IntKind.i64 top, Value.int IntKind.i64 bales, Value.slice wa wl wc] 25)).alloc (.cells #[.int .i64 0, .int .i64 0, .int .i64 0] 41)).alloc (.cells #[.int .i64 0] 30) := ⟨_, rfl⟩
    have HBE : Hid (Blk W (w.heap.size + 1 + 1) 30 #[.int .i64 0]) := by rw [hW]; exact Blk.new_ (by simp) _ _
    have HBO : Hid (Blk W (w.heap.size + 1) 41 #[.int .i64 0, .int .i64 0, .int .i64 0]) := by rw [hW]; exact (Blk.new_ (by simp) _ _).alloc _
    have HBW : Hid (Below w.heap.size w W) := by rw [hW]; exact (((Below.refl w.heap.size w).alloc (by simp) _).alloc (by simp) _).alloc (by simp; omega) _
    have HBX : Hid (Blk W w.heap.size 25 #[Value.slice fa fl fc, Value.int IntKind.i64 low, Value.int IntKind.i64 top, Value.int IntKind.i64 bales, Value.slice wa wl wc]) := by rw [hW]; exact ((Blk.new w 25 _).alloc _).alloc _
    rw [← hW]
    clear hW
    refine (open_fine (p := p) 69 #[] EG.out W (by exact HP.out.grow HBW.out) HV.out (isShed_always _)).mono ?_
    rintro e w1 ⟨d, r, ga, rfl, hS, hm, hr, hb1⟩
    have HS := Lib.hid hS
    have HM := Lib.hid hm
    have HB1 := Lib.hid hb1
    have HLR := Lib.hid hr
    have HRD := Lib.hid hS.hd
    clear hb1 hS hm hr
    go_wp2_with fail
    refine (told_any HV.out _ (HS.out.shed HL.out.1 HL.out.2)).mono ?_
    rw [if_neg HT.out]
    rintro e w2 ⟨rfl, hb2⟩
    have HB2 : Hid (Below W.heap.size W w2) := HB1.out.trans (hb2.mono HB1.out.size)
    have HBO1 := HBO.out.below HB2.out HBO.out.lt
    clear hb2
    go_wp2
    refine end_panic (w0 := w) (b := w.heap.size + 1 + 1) rfl (HBE.out.below HB2.out HBE.out.lt) (v := .tuple #[.agg #[.int .i64 0, .int .i64 0, .int .i64 0], .int .i64 10]) (fun w' hk ho => ?_) (by omega) (HBW.out.trans (HB2.out.mono HBW.out.size)) (fun w' h => ⟨by rw [HR.out, HE.out], h⟩)
    have hbo : Blk w' (w.heap.size + 1) 41 #[.int .i64 0, .int .i64 0, .int .i64 0] := (ho _ (by omega)).trans HBO1
    have g0 := hk.cell 0
    have o0 := hbo.cell 0
    have o1 := hbo.cell 1
    have o2 := hbo.cell 2
    simp at o0 o1 o2 g0
    simp [results, Try.results26, go_sem, g0, o0, o1, o2]
theorem waitK_in {p : PressD} {L : List Nat} {k : Nat} (hw : waits L k = true) : ∀ j, waitK p L (k + 1) j = if p.line k = j then waitK p L k j + 1 else waitK p L k j := fun j => by
  rw [waitK]
  by_cases h : p.line k = j <;> simp [h, hw]
theorem waitK_out {p : PressD} {L : List Nat} {k : Nat} (hw : waits L k = false) : ∀ j, waitK p L (k + 1) j = waitK p L k j := fun j => by
  rw [waitK]
  simp [hw]
set_option maxRecDepth 100000 in
set_option maxHeartbeats 6400000 in
theorem PWait_ok (w : World) (hP : PressIn w w.heap.size fa fl low top bales wa wl p) (h : planE p = 0) :
    Calls Try.prog 26 #[pressV fa fl fc low top bales wa wl wc] w fun e w' => e = .returned (waitR p) ∧ Below w.heap.size w w' := by
  have hv : p.ok = true := by cases hv : p.ok <;> simp [planE, hv] at h ⊢
  have ht : p.wrong = 0 := by by_cases e : p.wrong = 0 <;> simp [planE, hv, e] at h ⊢
  have HR : Hid (waitR p = .tuple #[waitV p (planP p) p.n, .int .i64 0]) := by show _ = _; simp [waitR, h]
  have HV := Lib.hid hv
  have HT := Lib.hid ht
  have hfl10 : fl ≤ 10 := by have h1 := (PressD.ok_head hv).1; have h2 := hP.efl; unfold PressD.n at h1; omega
  clear hv ht h
  have HP := Lib.hid hP
  have HL : Hid (fl ≤ 9223372036854775807 ∧ wl ≤ 9223372036854775807) := ⟨hP.mfl, hP.mwl⟩
  have HEQ : Hid (p.n = fl ∧ p.bales = bales) := ⟨hP.efl, hP.ebales⟩
  have EG := Lib.hid (enters_of Try.func69 (by kernel_rfl) rfl)
  clear hP
  unfold pressV
  go_enter_defers Try.func26, Try.ntmps26
  go_wp2_with fail
  obtain ⟨W, hW⟩ : ∃ W, W = ((w.alloc (Obj.cells #[Value.slice fa fl fc, Value.int IntKind.i64 low, Value.int IntKind.i64 top, Value.int IntKind.i64 bales, Value.slice wa wl wc] 25)).alloc (.cells #[.int .i64 0, .int .i64 0, .int .i64 0] 41)).alloc (.cells #[.int .i64 0] 30) := ⟨_, rfl⟩
  have HBE : Hid (Blk W (w.heap.size + 1 + 1) 30 #[.int .i64 0]) := by rw [hW]; exact Blk.new_ (by simp) _ _
  have HBO : Hid (Blk W (w.heap.size + 1) 41 #[.int .i64 0, .int .i64 0, .int .i64 0]) := by rw [hW]; exact (Blk.new_ (by simp) _ _).alloc _
  have HBW : Hid (Below w.heap.size w W) := by rw [hW]; exact (((Below.refl w.heap.size w).alloc (by simp) _).alloc (by simp) _).alloc (by simp; omega) _
  have HBX : Hid (Blk W w.heap.size 25 #[Value.slice fa fl fc, Value.int IntKind.i64 low, Value.int IntKind.i64 top, Value.int IntKind.i64 bales, Value.slice wa wl wc]) := by rw [hW]; exact ((Blk.new w 25 _).alloc _).alloc _
  rw [← hW]
  clear hW
  refine (open_fine (p := p) 69 #[] EG.out W (by exact HP.out.grow HBW.out) HV.out (isShed_always _)).mono ?_
  rintro e w1 ⟨d, r, ga, rfl, hS, hm, hr, hb1⟩
  have HS := Lib.hid hS
  have HM := Lib.hid hm
  have HB1 := Lib.hid hb1
  have HLR := Lib.hid hr
  have HRD := Lib.hid hS.hd
  clear hb1 hS hm hr
  go_wp2_with fail
  refine (told_any HV.out _ (HS.out.shed HL.out.1 HL.out.2)).mono ?_
  rw [if_pos HT.out]
  rintro e w2 ⟨rfl, hb2⟩
  have HB2 := Lib.hid hb2
  clear hb2
  go_wp2_with fail
  refine (ready2_any HV.out HL.out.2 w2 (HS.out.grow HB2.out) (((HB2.out.block r (by have := HS.out.blk.lt; have := HRD.out; omega))).trans HM.out)).mono ?_
  rintro e w3 ⟨rfl, hp3, hf3⟩
  have HP3 := Lib.hid hp3
  have HF3 := Lib.hid hf3
  clear hp3 hf3
  go_wp2_with fail
  refine (plan2_any HV.out HEQ.out.1 HEQ.out.2 w3 HP3.out).mono ?_
  rintro e w4 ⟨A, c, rfl, hrd, hgl, hf4⟩
  have HBW4 : Hid (Below W.heap.size W w4) := by
    have a1 := HB1.out.size
    have a2 := HB2.out.size
    have a3 := HF3.out.size
    have a4 := HLR.out
    have a5 := HRD.out
    exact HB1.out.trans ((HB2.out.mono a1).trans ((HF3.out.toBelow (by omega) (by omega) (by omega)).trans (hf4.toBelow (by omega) (by omega) (by omega))))
  have HRL := Lib.hid hrd
  have HGL : Hid (∀ g, (Value.slice A (planP p).length c).ownBlock = some g → W.heap.size ≤ g) := fun g hg => by
    have a1 := HB1.out.size
    have a2 := HB2.out.size
    have a3 := HF3.out.size
    have := hgl g hg
    omega
  have HE4 : Hid (Blk w4 (w.heap.size + 1 + 1) 30 #[.int .i64 0]) := HBE.out.below HBW4.out HBE.out.lt
  have HO4 : Hid (Blk w4 (w.heap.size + 1) 41 #[.int .i64 0, .int .i64 0, .int .i64 0]) := HBO.out.below HBW4.out HBO.out.lt
  have HB4 : Hid (Below w.heap.size w w4) := HBW.out.trans (HBW4.out.mono HBW.out.size)
  have HX4 : Hid (Blk w4 w.heap.size 25 #[Value.slice fa fl fc, Value.int IntKind.i64 low, Value.int IntKind.i64 top, Value.int IntKind.i64 bales, Value.slice wa wl wc]) := HBX.out.below HBW4.out HBX.out.lt
  clear hrd hgl hf4
  obtain ⟨b1, b2, b3, b4⟩ := planP_bd HV.out
  have HSL := Lib.hid b2
  clear b2 b3 b4
  obtain ⟨L, hL⟩ : ∃ L, planP p = L := ⟨_, rfl⟩
  rw [hL] at b1 HSL HRL HGL HR
  rw [hL]
  obtain ⟨n, hn⟩ : ∃ n, L.length = n := ⟨_, rfl⟩
  have HLN := Lib.hid hn
  rw [hn] at b1
  rw [hn]
  clear hL hn
  have EG78 := Lib.hid (enters_of Try.func78 (by kernel_rfl) rfl)
  have hmf : ∀ (fn : Fn) (first cap : Array Value) (w : World), (Instr.makeFunc fn first cap).run Try.prog w = .ok (.func fn first cap) w := fun _ _ _ _ => rfl
  have xc0 : w4.cell? ⟨w.heap.size, 0, none⟩ = some (.slice fa fl fc) := HX4.out.cell 0
  have xl := HX4.out.lt
  have HPR : Hid (PressIn w4 w.heap.size fa fl low top bales wa wl p) := HP.out.below HB4.out
  go_wp2_with fail
  go_loopw [16] (fun i wr => ∃ (k : Nat) (x0 x1 x2 : Int), k ≤ fl ∧ i = .int .i64 k ∧ Hid (x0 = waitK p L k 0) ∧ Hid (x1 = waitK p L k 1) ∧ Hid (x2 = waitK p L k 2) ∧ Blk wr w4.heap.size 41 #[.int .i64 x0, .int .i64 x1, .int .i64 x2] ∧ Below w4.heap.size w4 wr) (fun i _ => fl - (intOf i).toNat)
  case atStart => exact ⟨0, 0, 0, 0, Nat.zero_le _, rfl, rfl, rfl, rfl, Blk.new w4 41 _, (Below.refl _ _).alloc (Nat.le_refl _) _⟩
  case round =>
    obtain ⟨k, x0, x1, x2, hk, rfl, HX0, HX1, HX2, hblk, hb⟩ := hrel
    have HK := Lib.hid hblk
    have HB := Lib.hid hb
    have hz4 : w4.heap.size < wr.heap.size := hblk.lt
    clear hblk hb
    have e0 := waitK_bd p L 0 k
    have e1 := waitK_bd p L 1 k
    have e2 := waitK_bd p L 2 k
    rw [← HX0.out] at e0
    rw [← HX1.out] at e1
    rw [← HX2.out] at e2
    obtain ⟨e00, e01⟩ := e0
    obtain ⟨e10, e11⟩ := e1
    obtain ⟨e20, e21⟩ := e2
    by_cases hlt : k < fl
    · obtain ⟨c, hc⟩ : ∃ c, p.fl[k]? = some c := ⟨p.fl[k]'(by have := HPR.out.efl; omega), by simp⟩
      have HC := Lib.hid (fw_of hc)
      obtain ⟨gb, off, rfl, hbl, H0, H1, H2⟩ := rd_fl ((HPR.out.below (HB.out.mono (by omega))).hfl) k c hc
      have hgb : gb < wr.heap.size := by omega
      obtain ⟨⟨c0, c1⟩, cl⟩ := c
      simp only at H0 H1 H2
      clear hc
      go_wp2_with fail
      obtain ⟨W5, hW5⟩ : ∃ W5, W5 = (wr.alloc (.cells #[.int .i64 k] 3)).alloc (.cells #[.int .i64 c0, .int .i64 c1, .int .i64 cl] 58) := ⟨_, rfl⟩
      have HI5 : Hid (Blk W5 wr.heap.size 3 #[.int .i64 k]) := by rw [hW5]; exact (Blk.new wr 3 _).alloc _
      have HF5 : Hid (Blk W5 (wr.heap.size + 1) 58 #[.int .i64 c0, .int .i64 c1, .int .i64 cl]) := by rw [hW5]; exact Blk.new_ (by simp) 58 _
      have HBR5 : Hid (Below wr.heap.size wr W5) := by rw [hW5]; exact ((Below.refl _ _).alloc (Nat.le_refl _) _).alloc (by simp) _
      rw [← hW5]
      clear hW5
      refine (contains_any 78 #[.pointer (some ⟨wr.heap.size, 0, none⟩)] (fun s => s.testBit k) EG78.out W5 (by omega) HLN.out (HRL.out.grow (HB.out.trans (HBR5.out.mono (by omega)))) (fun s hs wq hbq => bit_any s k wr.heap.size wq (HSL.out s hs).2.2 (by omega) ((HI5.out.below hbq HI5.out.lt).cell 0))).mono ?_
      have HWT : Hid (waits L k = !(L.any fun s => s.testBit k)) := rfl
      rintro e w5 ⟨rfl, hb5⟩
      have HBR6 : Hid (Below wr.heap.size wr w5) := HBR5.out.trans (hb5.mono HBR5.out.size)
      have HF6 := Lib.hid (HF5.out.below hb5 HF5.out.lt)
      have HB5 : Hid (Below w4.heap.size w4 w5) := HB.out.trans (HBR6.out.mono (by omega))
      have HK5 := Lib.hid (HK.out.below HBR6.out hz4)
      clear hb5
      cases hany : L.any (fun s => s.testBit k)
      · have hw : waits L k = true := by rw [HWT.out, hany]; rfl
        have HW0 := Lib.hid (waitK_in (p := p) hw 0)
        have HW1 := Lib.hid (waitK_in (p := p) hw 1)
        have HW2 := Lib.hid (waitK_in (p := p) hw 2)
        rw [HC.out.2, ← HX0.out] at HW0
        rw [HC.out.2, ← HX1.out] at HW1
        rw [HC.out.2, ← HX2.out] at HW2
        have hln := PressD.ok_fl HV.out (i := k) (by unfold PressD.n; have := HPR.out.efl; omega)
        rw [HC.out.2] at hln
        try simp only at hln
        have h3 : cl = 0 ∨ cl = 1 ∨ cl = 2 := by omega
        have k0 : w5.cell? ⟨w4.heap.size, 0, none⟩ = some (.int .i64 x0) := HK5.out.cell 0
        have k1 : w5.cell? ⟨w4.heap.size, 1, none⟩ = some (.int .i64 x1) := HK5.out.cell 1
        have k2 : w5.cell? ⟨w4.heap.size, 2, none⟩ = some (.int .i64 x2) := HK5.out.cell 2
        have z0 : w5.frozen? ⟨w4.heap.size, 0, none⟩ = false := HK5.out.frozen 0
        have z1 : w5.frozen? ⟨w4.heap.size, 1, none⟩ = false := HK5.out.frozen 1
        have z2 : w5.frozen? ⟨w4.heap.size, 2, none⟩ = false := HK5.out.frozen 2
        have l5 := HK5.out.lt
        have g2 : w5.cell? ⟨wr.heap.size + 1, 2, none⟩ = some (.int .i64 cl) := HF6.out.cell 2
        have l6 := HF6.out.lt
        clear hw hany hln
        rcases h3 with rfl | rfl | rfl
        · have HY0 : Hid (x0 + 1 = waitK p L (k + 1) 0) := by show _ = _; rw [HW0.out]; simp
          have HY1 : Hid (x1 = waitK p L (k + 1) 1) := by show _ = _; rw [HW1.out]; simp
          have HY2 : Hid (x2 = waitK p L (k + 1) 2) := by show _ = _; rw [HW2.out]; simp
          go_wp2
          go_roundw
          case rel => exact ⟨k + 1, x0 + 1, x1, x2, by omega, by go_num, HY0, HY1, HY2, HK5.out.set_ 0 _, setCell_below HB5.out (Nat.le_refl _) _ _⟩
          case measure => simp [intOf]; omega
        · have HY0 : Hid (x0 = waitK p L (k + 1) 0) := by show _ = _; rw [HW0.out]; simp
          have HY1 : Hid (x1 + 1 = waitK p L (k + 1) 1) := by show _ = _; rw [HW1.out]; simp
          have HY2 : Hid (x2 = waitK p L (k + 1) 2) := by show _ = _; rw [HW2.out]; simp
          go_wp2
          go_roundw
          case rel => exact ⟨k + 1, x0, x1 + 1, x2, by omega, by go_num, HY0, HY1, HY2, HK5.out.set_ 1 _, setCell_below HB5.out (Nat.le_refl _) _ _⟩
          case measure => simp [intOf]; omega
        · have HY0 : Hid (x0 = waitK p L (k + 1) 0) := by show _ = _; rw [HW0.out]; simp
          have HY1 : Hid (x1 = waitK p L (k + 1) 1) := by show _ = _; rw [HW1.out]; simp
          have HY2 : Hid (x2 + 1 = waitK p L (k + 1) 2) := by show _ = _; rw [HW2.out]; simp
          go_wp2
          go_roundw
          case rel => exact ⟨k + 1, x0, x1, x2 + 1, by omega, by go_num, HY0, HY1, HY2, HK5.out.set_ 2 _, setCell_below HB5.out (Nat.le_refl _) _ _⟩
          case measure => simp [intOf]; omega
      · have hw : waits L k = false := by rw [HWT.out, hany]; rfl
        have HY0 : Hid (x0 = waitK p L (k + 1) 0) := by show _ = _; rw [waitK_out hw, ← HX0.out]
        have HY1 : Hid (x1 = waitK p L (k + 1) 1) := by show _ = _; rw [waitK_out hw, ← HX1.out]
        have HY2 : Hid (x2 = waitK p L (k + 1) 2) := by show _ = _; rw [waitK_out hw, ← HX2.out]
        clear hw hany
        go_wp2
        go_roundw
        case rel => exact ⟨k + 1, x0, x1, x2, by omega, by go_num, HY0, HY1, HY2, HK5.out, HB5.out⟩
        case measure => simp [intOf]; omega
    · obtain rfl : fl = k := by omega
      have HVV : Hid (waitV p L p.n = .agg #[.int .i64 x0, .int .i64 x1, .int .i64 x2]) := by show _ = _; rw [HEQ.out.1, waitV, ← HX0.out, ← HX1.out, ← HX2.out]
      have k0 : wr.cell? ⟨w4.heap.size, 0, none⟩ = some (.int .i64 x0) := HK.out.cell 0
      have k1 : wr.cell? ⟨w4.heap.size, 1, none⟩ = some (.int .i64 x1) := HK.out.cell 1
      have k2 : wr.cell? ⟨w4.heap.size, 2, none⟩ = some (.int .i64 x2) := HK.out.cell 2
      have HER : Hid (Blk wr (w.heap.size + 1 + 1) 30 #[.int .i64 0]) := HE4.out.below HB.out HE4.out.lt
      have HOR : Hid (Blk wr (w.heap.size + 1) 41 #[.int .i64 0, .int .i64 0, .int .i64 0]) := HO4.out.below HB.out HO4.out.lt
      have o0 : wr.cell? ⟨w.heap.size + 1, 0, none⟩ = some (.int .i64 0) := HOR.out.cell 0
      have o1 : wr.cell? ⟨w.heap.size + 1, 1, none⟩ = some (.int .i64 0) := HOR.out.cell 1
      have o2 : wr.cell? ⟨w.heap.size + 1, 2, none⟩ = some (.int .i64 0) := HOR.out.cell 2
      have q0 : wr.frozen? ⟨w.heap.size + 1, 0, none⟩ = false := HOR.out.frozen 0
      have q1 : wr.frozen? ⟨w.heap.size + 1, 1, none⟩ = false := HOR.out.frozen 1
      have q2 : wr.frozen? ⟨w.heap.size + 1, 2, none⟩ = false := HOR.out.frozen 2
      have i0 : wr.cell? ⟨w.heap.size + 1 + 1, 0, none⟩ = some (.int .i64 0) := HER.out.cell 0
      have f0 : wr.frozen? ⟨w.heap.size + 1 + 1, 0, none⟩ = false := HER.out.frozen 0
      have HBE6 : Hid (Below w.heap.size w wr) := HB4.out.trans (HB.out.mono HB4.out.size)
      have lo := HOR.out.lt
      have le := HER.out.lt
      go_wp2
      have b1 := (((HOR.out.set_ 0 (.int .i64 x0)).set_ 1 (.int .i64 x1)).set_ 2 (.int .i64 x2)).far (p := ⟨w.heap.size + 1 + 1, 0, none⟩) (by show w.heap.size + 1 ≠ w.heap.size + 1 + 1; omega) (.int .i64 0)
      have b2 := (((HER.out.far (p := ⟨w.heap.size + 1, 0, none⟩) (by show w.heap.size + 1 + 1 ≠ w.heap.size + 1; omega) (.int .i64 x0)).far (p := ⟨w.heap.size + 1, 1, none⟩) (by show w.heap.size + 1 + 1 ≠ w.heap.size + 1; omega) (.int .i64 x1)).far (p := ⟨w.heap.size + 1, 2, none⟩) (by show w.heap.size + 1 + 1 ≠ w.heap.size + 1; omega) (.int .i64 x2)).set_ 0 (.int .i64 0)
      have HBF := Lib.hid (setCell_below (setCell_below (setCell_below (setCell_below HBE6.out (b := w.heap.size + 1) (by omega) 0 (.int .i64 x0)) (b := w.heap.size + 1) (by omega) 1 (.int .i64 x1)) (b := w.heap.size + 1) (by omega) 2 (.int .i64 x2)) (b := w.heap.size + 1 + 1) (by omega) 0 (.int .i64 0))
      generalize ((((wr.setCell ⟨w.heap.size + 1, 0, none⟩ (.int .i64 x0)).setCell ⟨w.heap.size + 1, 1, none⟩ (.int .i64 x1)).setCell ⟨w.heap.size + 1, 2, none⟩ (.int .i64 x2)).setCell ⟨w.heap.size + 1 + 1, 0, none⟩ (.int .i64 0)) = wz at *
      have g0 := b1.cell 0
      have g1 := b1.cell 1
      have g2 := b1.cell 2
      have g3 := b2.cell 0
      simp at g0 g1 g2 g3
      exact api_returns (b := w.heap.size + 1 + 1) rfl (v := .tuple #[.agg #[.int .i64 x0, .int .i64 x1, .int .i64 x2], .int .i64 0]) (by simp [results, Try.results26, go_sem, g0, g1, g2, g3]) ⟨by rw [HR.out, HVV.out], HBF.out⟩
theorem PWait_any (w : World) (hP : PressIn w w.heap.size fa fl low top bales wa wl p) : Calls Try.prog 26 #[pressV fa fl fc low top bales wa wl wc] w fun e w' => e = .returned (waitR p) ∧ Below w.heap.size w w' := by
  by_cases h : planE p = 0
  · exact PWait_ok w hP h
  · exact PWait_err w hP h
end
end Go.Proofs.Ytbfjebglaimcmaa
