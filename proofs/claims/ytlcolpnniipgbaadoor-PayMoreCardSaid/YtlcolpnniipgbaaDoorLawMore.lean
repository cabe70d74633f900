/- The walk of PayMore: for every pay, every call and every two numbers it answers true. -/
import Derived.Test.YtlcolpnniipgbaaDoorLawM7
import Derived.Test.YtlcolpnniipgbaaDoorLawM6
import Derived.Test.YtlcolpnniipgbaaDoorLawE0
namespace Go.Proofs.YtlcolpnniipgbaaDoor
open Go.RowKit Go.Hav
theorem payB_call {p : PayD} (h : payB p = true) {k : Nat} {c : Ca} (hc : p.calls[k]? = some c) : 0 ≤ c.sh.lo ∧ c.sh.lo ≤ c.sh.hi ∧ c.sh.hi ≤ 100 := by
  simp only [payB, Bool.and_eq_true, List.all_eq_true] at h
  have := h.1.1.2 c (List.mem_of_getElem? hc)
  simp only [callB, Bool.and_eq_true] at this
  exact spanB_iff.1 this.2
section
variable {people rate bill : Int} {ra ca da pa : Option Addr} {rl rc cl cc dl dc pl pc : Nat} {p : PayD}
set_option maxRecDepth 100000 in
set_option maxHeartbeats 6400000 in
theorem PayMore_any (e : Ca) (which other : Int) (k0 : 0 ≤ which) (k1 : which ≤ 255) (l0 : 0 ≤ other) (l1 : other ≤ 255) (w : World) (hP : PayIn w w.heap.size people ra rl ca cl rate bill da dl pa pl p) (hR : RulesIn w) (hcap : cl ≤ cc) (hnil : ca = none → cc = 0) :
    Calls Tryd.prog 11 #[payV people ra rl rc ca cl cc rate bill da dl dc pa pl pc, .agg #[.int .i64 e.who, .int .i64 e.run, .int .i64 e.sh.lo, .int .i64 e.sh.hi, .bool e.struck], .int .u8 which, .int .u8 other] w fun e w' => e = .returned (.bool true) ∧ Below w.heap.size w w' := by
  have HP := Lib.hid hP
  have HR := Lib.hid hR
  have HNIL := Lib.hid hnil
  clear hP hR hnil
  unfold payV
  go_enter Tryd.func11, Tryd.ntmps11
  go_wp2_with fail
  obtain ⟨W, hW⟩ : ∃ W, W = ((w.alloc (.cells (payCs people ra rl rc ca cl cc rate bill da dl dc pa pl pc) 27)).alloc (.cells #[.int .i64 e.who, .int .i64 e.run, .int .i64 e.sh.lo, .int .i64 e.sh.hi, .bool e.struck] 55)).alloc (.cells #[.int .u8 which] 5) := ⟨_, rfl⟩
  have HBK : Hid (Blk W w.heap.size 27 (payCs people ra rl rc ca cl cc rate bill da dl dc pa pl pc)) := by show Blk _ _ _ _; rw [hW]; exact ((Blk.new _ _ _).alloc _).alloc _
  have HBE0 : Hid (Blk W (w.heap.size + 1) 55 #[.int .i64 e.who, .int .i64 e.run, .int .i64 e.sh.lo, .int .i64 e.sh.hi, .bool e.struck]) := by show Blk _ _ _ _; rw [hW]; exact (Blk.new_ (by simp) _ _).alloc _
  have HBX : Hid (Blk W (w.heap.size + 1 + 1) 5 #[.int .u8 which]) := by show Blk _ _ _ _; rw [hW]; exact Blk.new_ (by simp) _ _
  have HBW : Hid (Below w.heap.size w W) := by show Below _ _ _; rw [hW]; exact (((Below.refl _ _).alloc (Nat.le_refl _) _).alloc (by simp) _).alloc (by simp; omega) _
  have hs0 : w.heap.size < W.heap.size := HBK.out.lt
  have hW' := hW.symm
  unfold payCs at hW'
  rw [hW']
  clear hW hW'
  have facts : ∀ wv, Below W.heap.size W wv → wv.cell? ⟨w.heap.size, 0, none⟩ = some (.int .i64 people) ∧ wv.cell? ⟨w.heap.size, 1, none⟩ = some (.slice ra rl rc) ∧ wv.cell? ⟨w.heap.size, 2, none⟩ = some (.slice ca cl cc) ∧
      wv.cell? ⟨w.heap.size, 3, none⟩ = some (.int .i64 rate) ∧ wv.cell? ⟨w.heap.size, 4, none⟩ = some (.int .i64 bill) ∧ wv.cell? ⟨w.heap.size, 5, none⟩ = some (.slice da dl dc) ∧ wv.cell? ⟨w.heap.size, 6, none⟩ = some (.slice pa pl pc) ∧ w.heap.size < wv.heap.size ∧ W.heap.size ≤ wv.heap.size := fun wv hb => by
    have h := HBK.out.below hb hs0
    exact ⟨h.cell 0, h.cell 1, h.cell 2, h.cell 3, h.cell 4, h.cell 5, h.cell 6, h.lt, hb.size⟩
  have HF := Lib.hid facts
  clear facts
  have HPB : Hid (∀ wv, Below W.heap.size W wv → PayIn wv wv.heap.size people ra rl ca cl rate bill da dl pa pl p) := fun wv hb => HP.out.grow (HBW.out.trans (hb.mono (by omega)))
  refine (fine_any (p := p) _ (by exact HP.out.grow HBW.out)).mono ?_
  rintro e1 w1 ⟨⟨b, rfl, hv⟩, hb1⟩
  have HB1 : Hid (Below W.heap.size W w1) := hb1
  clear hb1
  obtain ⟨x0, x1, x2, x3, x4, x5, x6, x7, x8⟩ := HF.out _ HB1.out
  cases b
  case false =>
    go_wp2_with fail
    refine (awake_any _ (by exact HR.out.below (HBW.out.trans (HB1.out.mono (by omega))))).mono ?_
    rintro e2 w2 ⟨rfl, hb2⟩
    go_wp2
    go_ret
    exact ⟨rfl, HBW.out.trans ((HB1.out.trans (hb2.mono HB1.out.size)).mono (by omega))⟩
  case true =>
  have hv := hv rfl
  have HV := Lib.hid hv
  obtain ⟨⟨a1, a2, a3, a4, a5, a6, a7, a8, a9, a10, a11⟩, _⟩ := payB_parts HP.out hv
  have HPE := Lib.hid HP.out.epeople
  have HRL := Lib.hid HP.out.erl
  have HCL := Lib.hid HP.out.ecl
  clear hv a10
  have hdl : dl ≤ 4 := by have := payB_rate HV.out; have := payB_people HV.out; have := HP.out.edl; omega
  have hp0 : ¬ people = 0 := by omega
  have hr0 : ¬ rl = 0 := by omega
  have s1 : w.heap.size + 1 + 1 < w1.heap.size := by have := HBX.out.lt; omega
  have y0 : w1.cell? ⟨w.heap.size + 1 + 1, 0, none⟩ = some (.int .u8 which) := (HBX.out.below HB1.out HBX.out.lt).cell 0
  go_wp2
  refine wp_region_havoc [(0,false),(1,false),(2,false),(3,false),(4,false),(5,false),(6,false),(7,false),(8,false),(9,false),(10,false),(11,false),(12,false)] [] (fun _ _ => False) (by kernel_rfl) (by kernel_rfl) (fun _ _ _ _ h => h.elim) ?_
  (apply hav_same (by simp only [List.getElem?_toArray, List.getElem?_cons_zero]; rfl) (by kernel_rfl); (focus (intro wv hgv _; have hcv : ∀ b o, b < _ → wv.cell? ⟨b, o, none⟩ = _ := fun b o hb => Below.cell hgv (p := ⟨b, o, none⟩) hb; go_simp; try rfl; done)); simp only [Act.put, List.setIfInBounds_toArray, List.set_cons_succ, List.set_cons_zero])
  (apply hav_same (by simp only [List.getElem?_toArray, List.getElem?_cons_succ, List.getElem?_cons_zero]; rfl) (by kernel_rfl); (focus (intro wv hgv _; exact conv8 rfl rfl k0 k1 _)); simp only [Act.put, List.setIfInBounds_toArray, List.set_cons_succ, List.set_cons_zero])
  iterate 5 (apply hav_same (by simp only [List.getElem?_toArray, List.getElem?_cons_succ, List.getElem?_cons_zero]; rfl) (by kernel_rfl); (focus (intro wv hgv _; have hcv : ∀ b o, b < _ → wv.cell? ⟨b, o, none⟩ = _ := fun b o hb => Below.cell hgv (p := ⟨b, o, none⟩) hb; go_simp; try rfl; done)); simp only [Act.put, List.setIfInBounds_toArray, List.set_cons_succ, List.set_cons_zero])
  (apply hav_same (by simp only [List.getElem?_toArray, List.getElem?_cons_succ, List.getElem?_cons_zero]; rfl) (by kernel_rfl); (focus (intro wv hgv _; exact conv8 rfl rfl l0 l1 _)); simp only [Act.put, List.setIfInBounds_toArray, List.set_cons_succ, List.set_cons_zero])
  iterate 5 (apply hav_same (by simp only [List.getElem?_toArray, List.getElem?_cons_succ, List.getElem?_cons_zero]; rfl) (by kernel_rfl); (focus (intro wv hgv _; have hcv : ∀ b o, b < _ → wv.cell? ⟨b, o, none⟩ = _ := fun b o hb => Below.cell hgv (p := ⟨b, o, none⟩) hb; go_simp; try rfl; done)); simp only [Act.put, List.setIfInBounds_toArray, List.set_cons_succ, List.set_cons_zero])
  refine hav_end (fun w3 hgw3 _ => ?_); simp only [List.filterMap]; have hcw3 : ∀ b o, b < _ → w3.cell? ⟨b, o, none⟩ = _ := fun b o hb => Below.cell hgw3 (p := ⟨b, o, none⟩) hb; have hfw3 : ∀ b o, b < _ → w3.frozen? ⟨b, o, none⟩ = _ := fun b o hb => Below.frozen hgw3 (p := ⟨b, o, none⟩) hb; have hzw3 := Below.size hgw3; (try simp at hzw3)
  have HB3 : Hid (Below W.heap.size W w3) := HB1.out.trans (hgw3.mono HB1.out.size)
  clear hgw3 hcw3 hfw3 x0 x1 x2 x3 x4 x5 x6 x7 x8 y0
  obtain ⟨who, hwho⟩ : ∃ who, other.tmod people = who := ⟨_, rfl⟩
  obtain ⟨run', hrun⟩ : ∃ run, which.tmod (rl : Int) = run := ⟨_, rfl⟩
  have who0 : 0 ≤ who := by rw [← hwho]; exact Int.tmod_nonneg _ l0
  have who1 : who < people := by rw [← hwho]; exact Int.tmod_lt_of_pos _ (by omega)
  have run0 : 0 ≤ run' := by rw [← hrun]; exact Int.tmod_nonneg _ k0
  have run1 : run' < rl := by rw [← hrun]; exact Int.tmod_lt_of_pos _ (by omega)
  rw [hwho, hrun]
  clear hwho hrun
  obtain ⟨run, rfl⟩ : ∃ run : Nat, run' = run := ⟨run'.toNat, by omega⟩
  have run2 : run < rl := by omega
  clear run0
  have HWB : Hid (whoB p who = true) := whoB_in who0 (by rw [HPE.out]; exact who1)
  have HRB : Hid (runB p run = true) := runB_in (by omega) (by rw [HRL.out]; exact run1)
  go_wp2
  have HBK3 := Lib.hid (HBK.out.below HB3.out hs0)
  refine region4 (p := p) (people := people) (ra := ra) (rl := rl) (rc := rc) (ca := ca) (cl := cl) (cc := cc) (rate := rate) (bill := bill) (da := da) (dl := dl) (dc := dc) (pa := pa) (pl := pl) (pc := pc) rfl rfl HBK3.out (by exact HPB.out _ HB3.out) (by omega) (by omega) (by omega) (by omega) ?_
  intro a' w4 hag hI
  obtain ⟨hG4, _, bs, hf, hap⟩ := hI
  have f1 := hf 1 (by decide) (by simp)
  have f3 := hf 3 (by decide) (by simp)
  have f5 := hf 5 (by decide) (by simp)
  have f7 := hf 7 (by decide) (by simp)
  have f8 := hf 8 (by decide) (by simp)
  have f9 := hf 9 (by decide) (by simp)
  have f10 := hf 10 (by decide) (by simp)
  have f11 := hf 11 (by decide) (by simp)
  obtain ⟨⟨gx1, cx1, gx2, cx2, gx3, cx3, gx4, cx4, v1, o1, b1⟩, l1'⟩ := f1
  obtain ⟨⟨gy1, cy1, gy2, cy2, gy3, cy3, gy4, cy4, v3, o3, b3⟩, l3'⟩ := f3
  obtain ⟨⟨gz1, cz1, gz2, cz2, gz3, cz3, gz4, cz4, v5, o5, b5⟩, l5'⟩ := f5
  obtain ⟨⟨gt1, ct1, gt2, ct2, gt3, ct3, gt4, ct4, v7, o7, b7⟩, l7'⟩ := f7
  obtain ⟨⟨X1, v8, B8, b8⟩, l8⟩ := f8
  obtain ⟨⟨X2, v9, B9, b9⟩, l9⟩ := f9
  obtain ⟨⟨X3, v10, B10, b10⟩, l10⟩ := f10
  obtain ⟨⟨X4, v11, B11, b11⟩, l11⟩ := f11
  have s60 := (hf 0 (by decide) (by simp)).1.1
  have s62 := (hf 2 (by decide) (by simp)).1.1
  have s64 := (hf 4 (by decide) (by simp)).1.1
  have s66 := (hf 6 (by decide) (by simp)).1.1
  have ea := agree_puts hag [60, 61, 62, 63, 64, 65, 66, 67, 11, 12, 13, 14] (by kernel_rfl)
  simp only [puts, List.foldl, v1, v3, v5, v7, v8, v9, v10, v11, s60, s62, s64, s66, Act.put, List.setIfInBounds_toArray, List.set_cons_succ, List.set_cons_zero] at ea
  have hB3 : W.heap.size ≤ w3.heap.size := HB3.out.size
  rw [b8] at l8
  rw [b9] at l9
  rw [b10] at l10
  rw [b11] at l11
  simp only [List.mem_singleton, forall_eq] at l8 l9 l10 l11
  have d12 : X1 ≠ X2 := fun h => hap 8 9 (by decide) (by decide) (by decide) (by simp) (by simp) X1 (by rw [b8]; simp) (by rw [b9, h]; simp)
  have d13 : X1 ≠ X3 := fun h => hap 8 10 (by decide) (by decide) (by decide) (by simp) (by simp) X1 (by rw [b8]; simp) (by rw [b10, h]; simp)
  have d14 : X1 ≠ X4 := fun h => hap 8 11 (by decide) (by decide) (by decide) (by simp) (by simp) X1 (by rw [b8]; simp) (by rw [b11, h]; simp)
  have d23 : X2 ≠ X3 := fun h => hap 9 10 (by decide) (by decide) (by decide) (by simp) (by simp) X2 (by rw [b9]; simp) (by rw [b10, h]; simp)
  have d24 : X2 ≠ X4 := fun h => hap 9 11 (by decide) (by decide) (by decide) (by simp) (by simp) X2 (by rw [b9]; simp) (by rw [b11, h]; simp)
  have d34 : X3 ≠ X4 := fun h => hap 10 11 (by decide) (by decide) (by decide) (by simp) (by simp) X3 (by rw [b10]; simp) (by rw [b11, h]; simp)
  have HXY : Hid (∀ b ∈ [gx1, gx2, gx3, gx4], b ∉ [gy1, gy2, gy3, gy4]) := by have := hap 1 3 (by decide) (by decide) (by decide) (by simp) (by simp); rw [b1, b3] at this; exact this
  have HXZ : Hid (∀ b ∈ [gx1, gx2, gx3, gx4], b ∉ [gz1, gz2, gz3, gz4]) := by have := hap 1 5 (by decide) (by decide) (by decide) (by simp) (by simp); rw [b1, b5] at this; exact this
  have HXT : Hid (∀ b ∈ [gx1, gx2, gx3, gx4], b ∉ [gt1, gt2, gt3, gt4]) := by have := hap 1 7 (by decide) (by decide) (by decide) (by simp) (by simp); rw [b1, b7] at this; exact this
  have HYX : Hid (∀ b ∈ [gy1, gy2, gy3, gy4], b ∉ [gx1, gx2, gx3, gx4]) := by have := hap 3 1 (by decide) (by decide) (by decide) (by simp) (by simp); rw [b1, b3] at this; exact this
  have HYZ : Hid (∀ b ∈ [gy1, gy2, gy3, gy4], b ∉ [gz1, gz2, gz3, gz4]) := by have := hap 3 5 (by decide) (by decide) (by decide) (by simp) (by simp); rw [b3, b5] at this; exact this
  have HYT : Hid (∀ b ∈ [gy1, gy2, gy3, gy4], b ∉ [gt1, gt2, gt3, gt4]) := by have := hap 3 7 (by decide) (by decide) (by decide) (by simp) (by simp); rw [b3, b7] at this; exact this
  have HTX : Hid (∀ b ∈ [gt1, gt2, gt3, gt4], b ∉ [gx1, gx2, gx3, gx4]) := by have := hap 7 1 (by decide) (by decide) (by decide) (by simp) (by simp); rw [b1, b7] at this; exact this
  have HTY : Hid (∀ b ∈ [gt1, gt2, gt3, gt4], b ∉ [gy1, gy2, gy3, gy4]) := by have := hap 7 3 (by decide) (by decide) (by decide) (by simp) (by simp); rw [b3, b7] at this; exact this
  have HTZ : Hid (∀ b ∈ [gt1, gt2, gt3, gt4], b ∉ [gz1, gz2, gz3, gz4]) := by have := hap 7 5 (by decide) (by decide) (by decide) (by simp) (by simp); rw [b5, b7] at this; exact this
  have HKX1 : Hid (Blk (payW (payW (payW (payW w4 X1 people (some ⟨gx1, 0, none⟩) rl cx1 (some ⟨gx2, 0, none⟩) cl cx2 rate bill (some ⟨gx3, 0, none⟩) dl cx3 (some ⟨gx4, 0, none⟩) pl cx4) X2 people (some ⟨gy1, 0, none⟩) rl cy1 (some ⟨gy2, 0, none⟩) cl cy2 rate bill (some ⟨gy3, 0, none⟩) dl cy3 (some ⟨gy4, 0, none⟩) pl cy4) X3 people (some ⟨gz1, 0, none⟩) rl cz1 (some ⟨gz2, 0, none⟩) cl cz2 rate bill (some ⟨gz3, 0, none⟩) dl cz3 (some ⟨gz4, 0, none⟩) pl cz4) X4 people (some ⟨gt1, 0, none⟩) rl ct1 (some ⟨gt2, 0, none⟩) cl ct2 rate bill (some ⟨gt3, 0, none⟩) dl ct3 (some ⟨gt4, 0, none⟩) pl ct4) X1 27 (payCs people (some ⟨gx1, 0, none⟩) rl cx1 (some ⟨gx2, 0, none⟩) cl cx2 rate bill (some ⟨gx3, 0, none⟩) dl cx3 (some ⟨gx4, 0, none⟩) pl cx4)) := payW_far (payW_far (payW_far (payW_blk B8) d12) d13) d14
  have HKX2 : Hid (Blk (payW (payW (payW (payW w4 X1 people (some ⟨gx1, 0, none⟩) rl cx1 (some ⟨gx2, 0, none⟩) cl cx2 rate bill (some ⟨gx3, 0, none⟩) dl cx3 (some ⟨gx4, 0, none⟩) pl cx4) X2 people (some ⟨gy1, 0, none⟩) rl cy1 (some ⟨gy2, 0, none⟩) cl cy2 rate bill (some ⟨gy3, 0, none⟩) dl cy3 (some ⟨gy4, 0, none⟩) pl cy4) X3 people (some ⟨gz1, 0, none⟩) rl cz1 (some ⟨gz2, 0, none⟩) cl cz2 rate bill (some ⟨gz3, 0, none⟩) dl cz3 (some ⟨gz4, 0, none⟩) pl cz4) X4 people (some ⟨gt1, 0, none⟩) rl ct1 (some ⟨gt2, 0, none⟩) cl ct2 rate bill (some ⟨gt3, 0, none⟩) dl ct3 (some ⟨gt4, 0, none⟩) pl ct4) X2 27 (payCs people (some ⟨gy1, 0, none⟩) rl cy1 (some ⟨gy2, 0, none⟩) cl cy2 rate bill (some ⟨gy3, 0, none⟩) dl cy3 (some ⟨gy4, 0, none⟩) pl cy4)) := payW_far (payW_far (payW_blk (payW_far B9 d12.symm)) d23) d24
  have HKX3 : Hid (Blk (payW (payW (payW (payW w4 X1 people (some ⟨gx1, 0, none⟩) rl cx1 (some ⟨gx2, 0, none⟩) cl cx2 rate bill (some ⟨gx3, 0, none⟩) dl cx3 (some ⟨gx4, 0, none⟩) pl cx4) X2 people (some ⟨gy1, 0, none⟩) rl cy1 (some ⟨gy2, 0, none⟩) cl cy2 rate bill (some ⟨gy3, 0, none⟩) dl cy3 (some ⟨gy4, 0, none⟩) pl cy4) X3 people (some ⟨gz1, 0, none⟩) rl cz1 (some ⟨gz2, 0, none⟩) cl cz2 rate bill (some ⟨gz3, 0, none⟩) dl cz3 (some ⟨gz4, 0, none⟩) pl cz4) X4 people (some ⟨gt1, 0, none⟩) rl ct1 (some ⟨gt2, 0, none⟩) cl ct2 rate bill (some ⟨gt3, 0, none⟩) dl ct3 (some ⟨gt4, 0, none⟩) pl ct4) X3 27 (payCs people (some ⟨gz1, 0, none⟩) rl cz1 (some ⟨gz2, 0, none⟩) cl cz2 rate bill (some ⟨gz3, 0, none⟩) dl cz3 (some ⟨gz4, 0, none⟩) pl cz4)) := payW_far (payW_blk (payW_far (payW_far B10 d13.symm) d23.symm)) d34
  have HKX4 : Hid (Blk (payW (payW (payW (payW w4 X1 people (some ⟨gx1, 0, none⟩) rl cx1 (some ⟨gx2, 0, none⟩) cl cx2 rate bill (some ⟨gx3, 0, none⟩) dl cx3 (some ⟨gx4, 0, none⟩) pl cx4) X2 people (some ⟨gy1, 0, none⟩) rl cy1 (some ⟨gy2, 0, none⟩) cl cy2 rate bill (some ⟨gy3, 0, none⟩) dl cy3 (some ⟨gy4, 0, none⟩) pl cy4) X3 people (some ⟨gz1, 0, none⟩) rl cz1 (some ⟨gz2, 0, none⟩) cl cz2 rate bill (some ⟨gz3, 0, none⟩) dl cz3 (some ⟨gz4, 0, none⟩) pl cz4) X4 people (some ⟨gt1, 0, none⟩) rl ct1 (some ⟨gt2, 0, none⟩) cl ct2 rate bill (some ⟨gt3, 0, none⟩) dl ct3 (some ⟨gt4, 0, none⟩) pl ct4) X4 27 (payCs people (some ⟨gt1, 0, none⟩) rl ct1 (some ⟨gt2, 0, none⟩) cl ct2 rate bill (some ⟨gt3, 0, none⟩) dl ct3 (some ⟨gt4, 0, none⟩) pl ct4)) := payW_blk (payW_far (payW_far (payW_far B11 d14.symm) d24.symm) d34.symm)
  have HOX : Hid (OwnPay (payW (payW (payW (payW w4 X1 people (some ⟨gx1, 0, none⟩) rl cx1 (some ⟨gx2, 0, none⟩) cl cx2 rate bill (some ⟨gx3, 0, none⟩) dl cx3 (some ⟨gx4, 0, none⟩) pl cx4) X2 people (some ⟨gy1, 0, none⟩) rl cy1 (some ⟨gy2, 0, none⟩) cl cy2 rate bill (some ⟨gy3, 0, none⟩) dl cy3 (some ⟨gy4, 0, none⟩) pl cy4) X3 people (some ⟨gz1, 0, none⟩) rl cz1 (some ⟨gz2, 0, none⟩) cl cz2 rate bill (some ⟨gz3, 0, none⟩) dl cz3 (some ⟨gz4, 0, none⟩) pl cz4) X4 people (some ⟨gt1, 0, none⟩) rl ct1 (some ⟨gt2, 0, none⟩) cl ct2 rate bill (some ⟨gt3, 0, none⟩) dl ct3 (some ⟨gt4, 0, none⟩) pl ct4) w3.heap.size p gx1 cx1 gx2 cx2 gx3 cx3 gx4 cx4) := payW_own (payW_own (payW_own (payW_own o1 (o1.box B8)) (o1.box B9)) (o1.box B10)) (o1.box B11)
  have HOY : Hid (OwnPay (payW (payW (payW (payW w4 X1 people (some ⟨gx1, 0, none⟩) rl cx1 (some ⟨gx2, 0, none⟩) cl cx2 rate bill (some ⟨gx3, 0, none⟩) dl cx3 (some ⟨gx4, 0, none⟩) pl cx4) X2 people (some ⟨gy1, 0, none⟩) rl cy1 (some ⟨gy2, 0, none⟩) cl cy2 rate bill (some ⟨gy3, 0, none⟩) dl cy3 (some ⟨gy4, 0, none⟩) pl cy4) X3 people (some ⟨gz1, 0, none⟩) rl cz1 (some ⟨gz2, 0, none⟩) cl cz2 rate bill (some ⟨gz3, 0, none⟩) dl cz3 (some ⟨gz4, 0, none⟩) pl cz4) X4 people (some ⟨gt1, 0, none⟩) rl ct1 (some ⟨gt2, 0, none⟩) cl ct2 rate bill (some ⟨gt3, 0, none⟩) dl ct3 (some ⟨gt4, 0, none⟩) pl ct4) w3.heap.size p gy1 cy1 gy2 cy2 gy3 cy3 gy4 cy4) := payW_own (payW_own (payW_own (payW_own o3 (o3.box B8)) (o3.box B9)) (o3.box B10)) (o3.box B11)
  have HOZ : Hid (OwnPay (payW (payW (payW (payW w4 X1 people (some ⟨gx1, 0, none⟩) rl cx1 (some ⟨gx2, 0, none⟩) cl cx2 rate bill (some ⟨gx3, 0, none⟩) dl cx3 (some ⟨gx4, 0, none⟩) pl cx4) X2 people (some ⟨gy1, 0, none⟩) rl cy1 (some ⟨gy2, 0, none⟩) cl cy2 rate bill (some ⟨gy3, 0, none⟩) dl cy3 (some ⟨gy4, 0, none⟩) pl cy4) X3 people (some ⟨gz1, 0, none⟩) rl cz1 (some ⟨gz2, 0, none⟩) cl cz2 rate bill (some ⟨gz3, 0, none⟩) dl cz3 (some ⟨gz4, 0, none⟩) pl cz4) X4 people (some ⟨gt1, 0, none⟩) rl ct1 (some ⟨gt2, 0, none⟩) cl ct2 rate bill (some ⟨gt3, 0, none⟩) dl ct3 (some ⟨gt4, 0, none⟩) pl ct4) w3.heap.size p gz1 cz1 gz2 cz2 gz3 cz3 gz4 cz4) := payW_own (payW_own (payW_own (payW_own o5 (o5.box B8)) (o5.box B9)) (o5.box B10)) (o5.box B11)
  have HOT : Hid (OwnPay (payW (payW (payW (payW w4 X1 people (some ⟨gx1, 0, none⟩) rl cx1 (some ⟨gx2, 0, none⟩) cl cx2 rate bill (some ⟨gx3, 0, none⟩) dl cx3 (some ⟨gx4, 0, none⟩) pl cx4) X2 people (some ⟨gy1, 0, none⟩) rl cy1 (some ⟨gy2, 0, none⟩) cl cy2 rate bill (some ⟨gy3, 0, none⟩) dl cy3 (some ⟨gy4, 0, none⟩) pl cy4) X3 people (some ⟨gz1, 0, none⟩) rl cz1 (some ⟨gz2, 0, none⟩) cl cz2 rate bill (some ⟨gz3, 0, none⟩) dl cz3 (some ⟨gz4, 0, none⟩) pl cz4) X4 people (some ⟨gt1, 0, none⟩) rl ct1 (some ⟨gt2, 0, none⟩) cl ct2 rate bill (some ⟨gt3, 0, none⟩) dl ct3 (some ⟨gt4, 0, none⟩) pl ct4) w3.heap.size p gt1 ct1 gt2 ct2 gt3 ct3 gt4 ct4) := payW_own (payW_own (payW_own (payW_own o7 (o7.box B8)) (o7.box B9)) (o7.box B10)) (o7.box B11)
  have HB8 : Hid (Below W.heap.size W (payW (payW (payW (payW w4 X1 people (some ⟨gx1, 0, none⟩) rl cx1 (some ⟨gx2, 0, none⟩) cl cx2 rate bill (some ⟨gx3, 0, none⟩) dl cx3 (some ⟨gx4, 0, none⟩) pl cx4) X2 people (some ⟨gy1, 0, none⟩) rl cy1 (some ⟨gy2, 0, none⟩) cl cy2 rate bill (some ⟨gy3, 0, none⟩) dl cy3 (some ⟨gy4, 0, none⟩) pl cy4) X3 people (some ⟨gz1, 0, none⟩) rl cz1 (some ⟨gz2, 0, none⟩) cl cz2 rate bill (some ⟨gz3, 0, none⟩) dl cz3 (some ⟨gz4, 0, none⟩) pl cz4) X4 people (some ⟨gt1, 0, none⟩) rl ct1 (some ⟨gt2, 0, none⟩) cl ct2 rate bill (some ⟨gt3, 0, none⟩) dl ct3 (some ⟨gt4, 0, none⟩) pl ct4)) := payW_below (payW_below (payW_below (payW_below (HB3.out.trans (hG4.mono hB3)) (by omega)) (by omega)) (by omega)) (by omega)
  obtain ⟨q12, h12⟩ : ∃ o, ops4[12]? = some o := ⟨_, Array.getElem?_eq_getElem (by rw [size4]; decide)⟩
  obtain ⟨q13, h13⟩ : ∃ o, ops4[13]? = some o := ⟨_, Array.getElem?_eq_getElem (by rw [size4]; decide)⟩
  obtain ⟨q14, h14⟩ : ∃ o, ops4[14]? = some o := ⟨_, Array.getElem?_eq_getElem (by rw [size4]; decide)⟩
  obtain ⟨q15, h15⟩ : ∃ o, ops4[15]? = some o := ⟨_, Array.getElem?_eq_getElem (by rw [size4]; decide)⟩
  obtain ⟨i12, j12, k12⟩ := o4 h12 (X := .store 27 (.tmp 11) (.tmp 61)) (D := none) (by kernel_rfl)
  obtain ⟨i13, j13, k13⟩ := o4 h13 (X := .store 27 (.tmp 12) (.tmp 63)) (D := none) (by kernel_rfl)
  obtain ⟨i14, j14, k14⟩ := o4 h14 (X := .store 27 (.tmp 13) (.tmp 65)) (D := none) (by kernel_rfl)
  obtain ⟨i15, j15, k15⟩ := o4 h15 (X := .store 27 (.tmp 14) (.tmp 67)) (D := none) (by kernel_rfl)
  simp only [List.filterMap, h12, h13, h14, h15]
  refine wp_store27 i12 j12 k12 v8 v1 B8 (wp_store27 i13 j13 k13 v9 v3 (payW_far B9 d12.symm) (wp_store27 i14 j14 k14 v10 v5 (payW_far (payW_far B10 d13.symm) d23.symm) (wp_store27 i15 j15 k15 v11 v7 (payW_far (payW_far (payW_far B11 d14.symm) d24.symm) d34.symm) ?_)))
  clear i12 i13 i14 i15 j12 j13 j14 j15 k12 k13 k14 k15 h12 h13 h14 h15 q12 q13 q14 q15
  generalize (payW (payW (payW (payW w4 X1 people (some ⟨gx1, 0, none⟩) rl cx1 (some ⟨gx2, 0, none⟩) cl cx2 rate bill (some ⟨gx3, 0, none⟩) dl cx3 (some ⟨gx4, 0, none⟩) pl cx4) X2 people (some ⟨gy1, 0, none⟩) rl cy1 (some ⟨gy2, 0, none⟩) cl cy2 rate bill (some ⟨gy3, 0, none⟩) dl cy3 (some ⟨gy4, 0, none⟩) pl cy4) X3 people (some ⟨gz1, 0, none⟩) rl cz1 (some ⟨gz2, 0, none⟩) cl cz2 rate bill (some ⟨gz3, 0, none⟩) dl cz3 (some ⟨gz4, 0, none⟩) pl cz4) X4 people (some ⟨gt1, 0, none⟩) rl ct1 (some ⟨gt2, 0, none⟩) cl ct2 rate bill (some ⟨gt3, 0, none⟩) dl ct3 (some ⟨gt4, 0, none⟩) pl ct4) = w8 at *
  have L8 : Hid (∀ b ∈ [gx1, gx2, gx3, gx4] ++ ([gy1, gy2, gy3, gy4] ++ ([gz1, gz2, gz3, gz4] ++ [gt1, gt2, gt3, gt4])), w3.heap.size ≤ b) := by
    show ∀ b, _
    intro b hb
    rcases List.mem_append.1 hb with h | hb
    · exact (HOX.out.bounds b h).1
    rcases List.mem_append.1 hb with h | hb
    · exact (HOY.out.bounds b h).1
    rcases List.mem_append.1 hb with h | h
    · exact (HOZ.out.bounds b h).1
    · exact (HOT.out.bounds b h).1
  clear hf hap b1 b3 b5 b7 b8 b9 b10 b11 v1 v3 v5 v7 v8 v9 v10 v11 B8 B9 B10 B11 o1 o3 o5 o7 l1' l3' l5' l7' s60 s62 s64 s66 hag
  subst ea
  obtain ⟨l8, _⟩ := l8
  obtain ⟨l9, _⟩ := l9
  obtain ⟨l10, _⟩ := l10
  obtain ⟨l11, _⟩ := l11
  obtain ⟨x0, x1, x2, x3, x4, x5, x6, x7, x8⟩ := HF.out _ HB8.out
  have z1 := HKX1.out.cell 1
  simp [payCs] at z1
  have z2 := HKX1.out.lt
  obtain ⟨⟨RL, RU⟩, HRG⟩ : ∃ s, Hid (p.runs[run]? = some s) := ⟨p.runs[run]'(by rw [HRL.out]; exact run2), by show _ = _; simp⟩
  obtain ⟨r0, r1, r2⟩ : 0 ≤ RL ∧ RL ≤ RU ∧ RU ≤ 400 := payB_run HV.out HRG.out
  -- what holds of the four copies
  obtain ⟨St, hSt⟩ : ∃ St : World → PayD → PayD → Prop, St = fun wv px py => OwnPay wv w3.heap.size px gx1 cx1 gx2 cx2 gx3 cx3 gx4 cx4 ∧ OwnPay wv w3.heap.size py gy1 cy1 gy2 cy2 gy3 cy3 gy4 cy4 ∧ OwnPay wv w3.heap.size p gz1 cz1 gz2 cz2 gz3 cz3 gz4 cz4 ∧ OwnPay wv w3.heap.size p gt1 ct1 gt2 ct2 gt3 ct3 gt4 ct4 ∧
      Blk wv X1 27 (payCs people (some ⟨gx1, 0, none⟩) rl cx1 (some ⟨gx2, 0, none⟩) cl cx2 rate bill (some ⟨gx3, 0, none⟩) dl cx3 (some ⟨gx4, 0, none⟩) pl cx4) ∧ Blk wv X2 27 (payCs people (some ⟨gy1, 0, none⟩) rl cy1 (some ⟨gy2, 0, none⟩) cl cy2 rate bill (some ⟨gy3, 0, none⟩) dl cy3 (some ⟨gy4, 0, none⟩) pl cy4) ∧ Blk wv X3 27 (payCs people (some ⟨gz1, 0, none⟩) rl cz1 (some ⟨gz2, 0, none⟩) cl cz2 rate bill (some ⟨gz3, 0, none⟩) dl cz3 (some ⟨gz4, 0, none⟩) pl cz4) ∧ Blk wv X4 27 (payCs people (some ⟨gt1, 0, none⟩) rl ct1 (some ⟨gt2, 0, none⟩) cl ct2 rate bill (some ⟨gt3, 0, none⟩) dl ct3 (some ⟨gt4, 0, none⟩) pl ct4) ∧ Below W.heap.size W wv := ⟨_, rfl⟩
  have HStI : Hid (∀ wv px py, St wv px py ↔ (OwnPay wv w3.heap.size px gx1 cx1 gx2 cx2 gx3 cx3 gx4 cx4 ∧ OwnPay wv w3.heap.size py gy1 cy1 gy2 cy2 gy3 cy3 gy4 cy4 ∧ OwnPay wv w3.heap.size p gz1 cz1 gz2 cz2 gz3 cz3 gz4 cz4 ∧ OwnPay wv w3.heap.size p gt1 ct1 gt2 ct2 gt3 ct3 gt4 ct4 ∧
      Blk wv X1 27 (payCs people (some ⟨gx1, 0, none⟩) rl cx1 (some ⟨gx2, 0, none⟩) cl cx2 rate bill (some ⟨gx3, 0, none⟩) dl cx3 (some ⟨gx4, 0, none⟩) pl cx4) ∧ Blk wv X2 27 (payCs people (some ⟨gy1, 0, none⟩) rl cy1 (some ⟨gy2, 0, none⟩) cl cy2 rate bill (some ⟨gy3, 0, none⟩) dl cy3 (some ⟨gy4, 0, none⟩) pl cy4) ∧ Blk wv X3 27 (payCs people (some ⟨gz1, 0, none⟩) rl cz1 (some ⟨gz2, 0, none⟩) cl cz2 rate bill (some ⟨gz3, 0, none⟩) dl cz3 (some ⟨gz4, 0, none⟩) pl cz4) ∧ Blk wv X4 27 (payCs people (some ⟨gt1, 0, none⟩) rl ct1 (some ⟨gt2, 0, none⟩) cl ct2 rate bill (some ⟨gt3, 0, none⟩) dl ct3 (some ⟨gt4, 0, none⟩) pl ct4) ∧ Below W.heap.size W wv)) := fun wv px py => by rw [hSt]
  have HStB : Hid (∀ wv wv' px py, St wv px py → Below wv.heap.size wv wv' → St wv' px py) := by
    show ∀ wv wv' px py, _
    intro wv wv' px py h hb
    rw [HStI.out] at h ⊢
    obtain ⟨h1, h2, h3, h4, h5, h6, h7, h8, h9⟩ := h
    exact ⟨h1.below hb, h2.below hb, h3.below hb, h4.below hb, h5.below hb h5.lt, h6.below hb h6.lt, h7.below hb h7.lt, h8.below hb h8.lt, h9.trans (hb.mono h9.size)⟩
  have HS8 : Hid (St w8 p p) := (HStI.out _ _ _).2 ⟨HOX.out, HOY.out, HOZ.out, HOT.out, HKX1.out, HKX2.out, HKX3.out, HKX4.out, HB8.out⟩
  -- a store in a row of x, of y
  have HStX : Hid (∀ wv px py px' j u, St wv px py → OwnPay (wv.setCell ⟨gx1, j, none⟩ u) w3.heap.size px' gx1 cx1 gx2 cx2 gx3 cx3 gx4 cx4 → St (wv.setCell ⟨gx1, j, none⟩ u) px' py) := by
    show ∀ wv px py px' j u, _
    intro wv px py px' j u h hx
    rw [HStI.out] at h ⊢
    obtain ⟨h1, h2, h3, h4, h5, h6, h7, h8, h9⟩ := h
    have m := List.mem_cons_self (a := gx1) (l := [gx2, gx3, gx4])
    have n1 := h1.box h5
    have n2 := h1.box h6
    have n3 := h1.box h7
    have n4 := h1.box h8
    simp only [List.mem_cons, List.not_mem_nil, or_false, not_or] at n1 n2 n3 n4
    exact ⟨hx, h2.far (HXY.out _ m) j u, h3.far (HXZ.out _ m) j u, h4.far (HXT.out _ m) j u, h5.far n1.1 u, h6.far n2.1 u, h7.far n3.1 u, h8.far n4.1 u, setK_below h9 (Nat.le_trans hB3 (L8.out gx1 (by simp))) j u⟩
  have HStY : Hid (∀ wv px py py' j u, St wv px py → OwnPay (wv.setCell ⟨gy2, j, none⟩ u) w3.heap.size py' gy1 cy1 gy2 cy2 gy3 cy3 gy4 cy4 → St (wv.setCell ⟨gy2, j, none⟩ u) px py') := by
    show ∀ wv px py px' j u, _
    intro wv px py px' j u h hx
    rw [HStI.out] at h ⊢
    obtain ⟨h1, h2, h3, h4, h5, h6, h7, h8, h9⟩ := h
    have m : gy2 ∈ [gy1, gy2, gy3, gy4] := by simp
    have n1 := h2.box h5
    have n2 := h2.box h6
    have n3 := h2.box h7
    have n4 := h2.box h8
    simp only [List.mem_cons, List.not_mem_nil, or_false, not_or] at n1 n2 n3 n4
    exact ⟨h1.far (HYX.out _ m) j u, hx, h3.far (HYZ.out _ m) j u, h4.far (HYT.out _ m) j u, h5.far n1.2.1 u, h6.far n2.2.1 u, h7.far n3.2.1 u, h8.far n4.2.1 u, setK_below h9 (Nat.le_trans hB3 (L8.out gy2 (by simp))) j u⟩
  have HU8 : Hid (∀ wv, Below W.heap.size W wv → wv.cell? ⟨w.heap.size + 1 + 1, 0, none⟩ = some (.int .u8 which) ∧ w.heap.size + 1 + 1 < wv.heap.size) := fun wv hb => ⟨(HBX.out.below hb HBX.out.lt).cell 0, by have := HBX.out.lt; have := hb.size; omega⟩
  obtain ⟨u0, u1, u2, u3, _⟩ := HOX.out.runCells HRG.out
  simp only at u0 u1
  obtain ⟨q0, q1⟩ := HU8.out _ HB8.out
  clear hSt HOX HOY HOZ HOT HKX1 HKX2 HKX3 HKX4
  go_wp2_with fail
  refine (narrow_any which RL RU k0 k1 r1 r0 (by omega) gx1 (run * 2) (w.heap.size + 1 + 1) w8 u0 u1 (u2 _) (u2 _) u3 q1 q0).mono ?_
  rintro e2 w9 ⟨lo', hi', hN, rfl, w9', hb9, hst⟩
  have HN1 : Hid (Narrow p (setRun p run ⟨lo', hi'⟩)) := narrow_setRun HRG.out hN.a hN.c
  have HPL1 : Hid ((setRun p run ⟨lo', hi'⟩).calls.length = cl) := HCL.out
  have HS9 : Hid (St w9 (setRun p run ⟨lo', hi'⟩) p) := by
    have hS := HStB.out _ _ _ _ HS8.out hb9
    have hx := ((HStI.out _ _ _).1 HS8.out).1.narrowRun HRG.out hb9 hst
    rcases hst with ⟨_, h⟩ | ⟨_, h⟩
    · rw [h] at hx ⊢; exact HStX.out _ _ _ _ _ _ hS hx
    · rw [h] at hx ⊢; exact HStX.out _ _ _ _ _ _ hS hx
  have hS9 := (HStI.out _ _ _).1 HS9.out
  have HB9 : Hid (Below W.heap.size W w9) := hS9.2.2.2.2.2.2.2.2
  have HK2 := Lib.hid hS9.2.2.2.2.2.1
  have HOY9 := Lib.hid hS9.2.1
  clear hS9 hb9 hst hN u0 u1 u2 u3 q0 q1 z1 z2 x0 x1 x2 x3 x4 x5 x6 x7 x8
  obtain ⟨x0, x1, x2, x3, x4, x5, x6, x7, x8⟩ := HF.out _ HB9.out
  generalize setRun p run ⟨lo', hi'⟩ = px at *
  obtain ⟨cb, hcb⟩ : ∃ cb, decide (0 < (cl : Int)) = cb := ⟨_, rfl⟩
  have hcb' : decide ((cl : Int) > 0) = cb := hcb
  have hcb2 : decide (0 < cl) = cb := by rw [← hcb]; exact decide_eq_decide.2 (by omega)
  go_upto_if 78 with fail
  have HCB := Lib.hid hcb2
  clear hcb hcb' hcb2
  go_cut [] from 79 to 90 (fun wx => Hid (∃ py, Narrow p py ∧ py.calls.length = cl ∧ St wx px py))
  case first =>
    cases cb
    · go_wp2_with fail
      go_meet
      exact ⟨p, Narrow.refl p, HCL.out, HS9.out⟩
    · have hcl0 : ¬ cl = 0 := by have := of_decide_eq_true HCB.out; omega
      obtain ⟨i, him, hil⟩ : ∃ i : Nat, other.tmod (cl : Int) = (i : Int) ∧ i < cl := by
        have h1 := Int.tmod_nonneg (cl : Int) (a := other) l0
        have h2 := Int.tmod_lt_of_pos other (b := (cl : Int)) (by omega)
        exact ⟨(other.tmod (cl : Int)).toNat, by omega, by omega⟩
      obtain ⟨d, hd⟩ : ∃ d, p.calls[i]? = some d := ⟨p.calls[i]'(by rw [HCL.out]; exact hil), by simp⟩
      have HD := Lib.hid hd
      have hdb := payB_call HV.out hd
      have HDB := Lib.hid hdb
      clear hd hdb
      have z2 := HK2.out.cell 2
      simp [payCs] at z2
      have z3 := HK2.out.lt
      go_wp2
      refine wp_region_havoc [(0,false),(1,false),(2,false),(3,false),(4,false),(5,false),(6,false),(7,false),(8,false),(9,false),(10,false)] [11] (fun _ _ => False) (by kernel_rfl) (by kernel_rfl) (fun _ _ _ _ h => h.elim) ?_
      (apply hav_same (by simp only [List.getElem?_toArray, List.getElem?_cons_zero]; rfl) (by kernel_rfl); (focus (intro wv hgv _; have hcv : ∀ b o, b < _ → wv.cell? ⟨b, o, none⟩ = _ := fun b o hb => Below.cell hgv (p := ⟨b, o, none⟩) hb; go_simp; try rfl; done)); simp only [Act.put, List.setIfInBounds_toArray, List.set_cons_succ, List.set_cons_zero])
      iterate 3 (apply hav_same (by simp only [List.getElem?_toArray, List.getElem?_cons_succ, List.getElem?_cons_zero]; rfl) (by kernel_rfl); (focus (intro wv hgv _; have hcv : ∀ b o, b < _ → wv.cell? ⟨b, o, none⟩ = _ := fun b o hb => Below.cell hgv (p := ⟨b, o, none⟩) hb; go_simp; try rfl; done)); simp only [Act.put, List.setIfInBounds_toArray, List.set_cons_succ, List.set_cons_zero])
      (apply hav_same (by simp only [List.getElem?_toArray, List.getElem?_cons_succ, List.getElem?_cons_zero]; rfl) (by kernel_rfl); (focus (intro wv hgv _; exact conv8 rfl rfl l0 l1 _)); simp only [Act.put, List.setIfInBounds_toArray, List.set_cons_succ, List.set_cons_zero])
      iterate 6 (apply hav_same (by simp only [List.getElem?_toArray, List.getElem?_cons_succ, List.getElem?_cons_zero]; rfl) (by kernel_rfl); (focus (intro wv hgv _; have hcv : ∀ b o, b < _ → wv.cell? ⟨b, o, none⟩ = _ := fun b o hb => Below.cell hgv (p := ⟨b, o, none⟩) hb; go_simp; try rfl; done)); simp only [Act.put, List.setIfInBounds_toArray, List.set_cons_succ, List.set_cons_zero])
      refine hav_end (fun wd hgwd _ => ?_); simp only [List.filterMap]; have hcwd : ∀ b o, b < _ → wd.cell? ⟨b, o, none⟩ = _ := fun b o hb => Below.cell hgwd (p := ⟨b, o, none⟩) hb; have hfwd : ∀ b o, b < _ → wd.frozen? ⟨b, o, none⟩ = _ := fun b o hb => Below.frozen hgwd (p := ⟨b, o, none⟩) hb; have hzwd := Below.size hgwd; (try simp at hzwd)
      simp only [List.getElem?_toArray, List.getElem?_cons_succ, List.getElem?_cons_zero]
      have HSd : Hid (St wd px p) := HStB.out _ _ _ _ HS9.out hgwd
      have hSd := (HStI.out _ _ _).1 HSd.out
      obtain ⟨u0, u1, u2, u3, _⟩ := hSd.2.1.callCells HD.out
      obtain ⟨q0, q1⟩ := HU8.out _ hSd.2.2.2.2.2.2.2.2
      have HOYd := Lib.hid hSd.2.1
      clear hgwd hcwd hfwd hSd
      go_wp2_with fail
      refine (narrow_any which d.sh.lo d.sh.hi k0 k1 HDB.out.2.1 HDB.out.1 (by have := HDB.out.2.2; omega) gy2 (i * 5 + 2) (w.heap.size + 1 + 1) wd u0 u1 (u2 _) (u2 _) u3 q1 q0).mono ?_
      rintro e3 we ⟨lo2, hi2, hN, rfl, we', hbe, hst⟩
      have hS := HStB.out _ _ _ _ HSd.out hbe
      have hy := HOYd.out.narrowCall HD.out hbe hst
      have HS10 : Hid (St we px (setSh p i d ⟨lo2, hi2⟩)) := by
        rcases hst with ⟨_, h⟩ | ⟨_, h⟩
        · rw [h] at hy ⊢; exact HStY.out _ _ _ _ _ _ hS hy
        · rw [h] at hy ⊢; exact HStY.out _ _ _ _ _ _ hS hy
      have HN2 : Hid (Narrow p (setSh p i d ⟨lo2, hi2⟩)) := narrow_setSh HD.out hN.a hN.c
      clear hS hy hst hbe hN u0 u1 u2 u3 q0 q1
      go_wp2_with fail
      go_meet
      exact ⟨setSh p i d ⟨lo2, hi2⟩, HN2.out, (by show (p.calls.set i _).length = cl; rw [List.length_set, HCL.out]), HS10.out⟩
  case rest =>
  obtain ⟨py, hny, hpl, hSc⟩ : ∃ py, Narrow p py ∧ py.calls.length = cl ∧ St wc px py := hcut
  have HNY := Lib.hid hny
  have HPL2 := Lib.hid hpl
  have hS := (HStI.out _ _ _).1 hSc
  clear hny hpl hSc HS8 HS9 HK2 HOY9 HStX HStY HB9 x0 x1 x2 x3 x4 x5 x6 x7 x8
  obtain ⟨ox, oy, oz, ot, B1, B2, B3, B4, hBc⟩ := hS
  have HBc := Lib.hid hBc
  have HBEc := Lib.hid (HBE0.out.below hBc HBE0.out.lt)
  have y0 := HBEc.out.cell 4
  simp at y0
  have y1 := HBEc.out.frozen 4
  have y2 := HBEc.out.lt
  have hWx : w.heap.size + 1 + 1 < W.heap.size := HBX.out.lt
  have hnot : ∀ b, w3.heap.size ≤ b → w.heap.size + 1 ≠ b := fun b hb => by omega
  have no4 : ∀ a b c d : Nat, w3.heap.size ≤ a → w3.heap.size ≤ b → w3.heap.size ≤ c → w3.heap.size ≤ d → w.heap.size + 1 ∉ [a, b, c, d] := fun a b c d h1 h2 h3 h4 => by
    simp only [List.mem_cons, List.not_mem_nil, or_false, not_or]
    exact ⟨hnot a h1, hnot b h2, hnot c h3, hnot d h4⟩
  have L := L8.out
  have HVX : Hid (OwnPay (wc.setCell ⟨w.heap.size + 1, 4, none⟩ (.bool true)) w3.heap.size px gx1 cx1 gx2 cx2 gx3 cx3 gx4 cx4) := ox.far (no4 _ _ _ _ (L _ (by simp)) (L _ (by simp)) (L _ (by simp)) (L _ (by simp))) 4 _
  have HVY : Hid (OwnPay (wc.setCell ⟨w.heap.size + 1, 4, none⟩ (.bool true)) w3.heap.size py gy1 cy1 gy2 cy2 gy3 cy3 gy4 cy4) := oy.far (no4 _ _ _ _ (L _ (by simp)) (L _ (by simp)) (L _ (by simp)) (L _ (by simp))) 4 _
  have HVZ : Hid (OwnPay (wc.setCell ⟨w.heap.size + 1, 4, none⟩ (.bool true)) w3.heap.size p gz1 cz1 gz2 cz2 gz3 cz3 gz4 cz4) := oz.far (no4 _ _ _ _ (L _ (by simp)) (L _ (by simp)) (L _ (by simp)) (L _ (by simp))) 4 _
  have HVT : Hid (OwnPay (wc.setCell ⟨w.heap.size + 1, 4, none⟩ (.bool true)) w3.heap.size p gt1 ct1 gt2 ct2 gt3 ct3 gt4 ct4) := ot.far (no4 _ _ _ _ (L _ (by simp)) (L _ (by simp)) (L _ (by simp)) (L _ (by simp))) 4 _
  have HVB1 : Hid (Blk (wc.setCell ⟨w.heap.size + 1, 4, none⟩ (.bool true)) X1 27 (payCs people (some ⟨gx1, 0, none⟩) rl cx1 (some ⟨gx2, 0, none⟩) cl cx2 rate bill (some ⟨gx3, 0, none⟩) dl cx3 (some ⟨gx4, 0, none⟩) pl cx4)) := B1.far (by show X1 ≠ w.heap.size + 1; omega) _
  have HVB2 : Hid (Blk (wc.setCell ⟨w.heap.size + 1, 4, none⟩ (.bool true)) X2 27 (payCs people (some ⟨gy1, 0, none⟩) rl cy1 (some ⟨gy2, 0, none⟩) cl cy2 rate bill (some ⟨gy3, 0, none⟩) dl cy3 (some ⟨gy4, 0, none⟩) pl cy4)) := B2.far (by show X2 ≠ w.heap.size + 1; omega) _
  have HVB3 : Hid (Blk (wc.setCell ⟨w.heap.size + 1, 4, none⟩ (.bool true)) X3 27 (payCs people (some ⟨gz1, 0, none⟩) rl cz1 (some ⟨gz2, 0, none⟩) cl cz2 rate bill (some ⟨gz3, 0, none⟩) dl cz3 (some ⟨gz4, 0, none⟩) pl cz4)) := B3.far (by show X3 ≠ w.heap.size + 1; omega) _
  have HVB4 : Hid (Blk (wc.setCell ⟨w.heap.size + 1, 4, none⟩ (.bool true)) X4 27 (payCs people (some ⟨gt1, 0, none⟩) rl ct1 (some ⟨gt2, 0, none⟩) cl ct2 rate bill (some ⟨gt3, 0, none⟩) dl ct3 (some ⟨gt4, 0, none⟩) pl ct4)) := B4.far (by show X4 ≠ w.heap.size + 1; omega) _
  have HVw : Hid (Below w.heap.size w (wc.setCell ⟨w.heap.size + 1, 4, none⟩ (.bool true))) := setK_below (HBW.out.trans (hBc.mono (by omega))) (by omega) 4 _
  have HVK : Hid (Blk (wc.setCell ⟨w.heap.size + 1, 4, none⟩ (.bool true)) w.heap.size 27 (payCs people ra rl rc ca cl cc rate bill da dl dc pa pl pc)) := (HBK.out.below hBc hs0).far (by show w.heap.size ≠ w.heap.size + 1; omega) _
  have HVE : Hid (Blk (wc.setCell ⟨w.heap.size + 1, 4, none⟩ (.bool true)) (w.heap.size + 1) 55 (caF (strike e)).toArray) := by
    have h := HBEc.out.set_ 4 (.bool true)
    exact h
  have HVU : Hid (Blk (wc.setCell ⟨w.heap.size + 1, 4, none⟩ (.bool true)) (w.heap.size + 1 + 1) 5 #[.int .u8 which]) := (HBX.out.below hBc HBX.out.lt).far (by show w.heap.size + 1 + 1 ≠ w.heap.size + 1; omega) _
  obtain ⟨x0, x1, x2, x3, x4, x5, x6, x7, x8⟩ := HF.out _ HBc.out
  clear ox oy oz ot B1 B2 B3 B4 hBc L no4 hnot
  go_wp2
  generalize (wc.setCell ⟨w.heap.size + 1, 4, none⟩ (.bool true)) = V at *
  obtain ⟨m, hm, hml⟩ : ∃ m : Nat, which.tmod ((cl : Int) + 1) = (m : Int) ∧ m ≤ cl := by
    have h1 := Int.tmod_nonneg ((cl : Int) + 1) (a := which) k0
    have h2 := Int.tmod_lt_of_pos which (b := (cl : Int) + 1) (by omega)
    exact ⟨(which.tmod ((cl : Int) + 1)).toNat, by omega, by omega⟩
  refine region10 (p := p) (people := people) (ra := ra) (rl := rl) (rc := rc) (ca := ca) (cl := cl) (cc := cc) (rate := rate) (bill := bill) (da := da) (dl := dl) (dc := dc) (pa := pa) (pl := pl) (pc := pc) (e := strike e) (m := m) rfl rfl rfl rfl rfl HVK.out HVE.out HVU.out (by exact HP.out.grow HVw.out) (by omega) hcap k0 k1 hm hml HNIL.out ?_
  intro a' w10 hag hI
  have v118 := hI.val 26 (by decide) (by simp) (by decide) (by decide) (by decide) (by decide) (by decide)
  obtain ⟨⟨gn, cn, v117⟩, hon⟩ := hI.f4 (by simp)
  rw [v117] at hon
  have HON := Lib.hid hon
  have HB10 : Hid (Below V.heap.size V w10) := hI.bel
  have HXB3 := Lib.hid (HVB3.out.below hI.bel HVB3.out.lt)
  obtain ⟨q27, h27⟩ : ∃ o, ops10[27]? = some o := ⟨_, Array.getElem?_eq_getElem (by rw [size10]; decide)⟩
  obtain ⟨i27, j27, k27⟩ := o10 h27 (X := .store 23 (.tmp 118) (.tmp 117)) (D := none) (by kernel_rfl)
  simp only [List.filterMap, h27]
  refine wp_store23 i27 j27 k27 v118 v117 (HXB3.out.cell 2) (HXB3.out.frozen 2) ?_
  have ea := agree_puts hag [92, 93, 94, 95, 96, 97, 98, 99, 100, 101, 102, 103, 104, 105, 106, 107, 108, 109, 110, 111, 112, 113, 114, 115, 116, 117, 118] (by kernel_rfl)
  obtain ⟨sl, hsl⟩ : ∃ sl : Nat → Value, sl = slot a' := ⟨_, rfl⟩
  rw [← hsl] at ea
  simp only [puts, List.foldl, Act.put, List.setIfInBounds_toArray, List.set_cons_succ, List.set_cons_zero] at ea
  clear hI v118 v117 hon hag hsl i27 j27 k27 h27 q27 hm
  subst ea
  have HgnV : V.heap.size ≤ gn := by obtain ⟨_, _, h, _⟩ := own_blk HON.out; exact h
  have hVw3 : w3.heap.size ≤ V.heap.size := by have := HVB1.out.lt; omega
  obtain ⟨S2, hS2⟩ : ∃ S2 : World → PayD → Prop, S2 = fun wv pt => OwnPay wv w3.heap.size px gx1 cx1 gx2 cx2 gx3 cx3 gx4 cx4 ∧ OwnPay wv w3.heap.size py gy1 cy1 gy2 cy2 gy3 cy3 gy4 cy4 ∧ OwnPay wv w3.heap.size (moreP p m (strike e)) gz1 cz1 gn cn gz3 cz3 gz4 cz4 ∧ OwnPay wv w3.heap.size pt gt1 ct1 gt2 ct2 gt3 ct3 gt4 ct4 ∧
      Blk wv X1 27 (payCs people (some ⟨gx1, 0, none⟩) rl cx1 (some ⟨gx2, 0, none⟩) cl cx2 rate bill (some ⟨gx3, 0, none⟩) dl cx3 (some ⟨gx4, 0, none⟩) pl cx4) ∧ Blk wv X2 27 (payCs people (some ⟨gy1, 0, none⟩) rl cy1 (some ⟨gy2, 0, none⟩) cl cy2 rate bill (some ⟨gy3, 0, none⟩) dl cy3 (some ⟨gy4, 0, none⟩) pl cy4) ∧ Blk wv X3 27 (payCs people (some ⟨gz1, 0, none⟩) rl cz1 (some ⟨gn, 0, none⟩) (p.calls.length + 1) cn rate bill (some ⟨gz3, 0, none⟩) dl cz3 (some ⟨gz4, 0, none⟩) pl cz4) ∧ Blk wv X4 27 (payCs people (some ⟨gt1, 0, none⟩) rl ct1 (some ⟨gt2, 0, none⟩) cl ct2 rate bill (some ⟨gt3, 0, none⟩) dl ct3 (some ⟨gt4, 0, none⟩) pl ct4) ∧ Blk wv w.heap.size 27 (payCs people ra rl rc ca cl cc rate bill da dl dc pa pl pc) ∧ Below w.heap.size w wv := ⟨_, rfl⟩
  have HS2I : Hid (∀ wv pt, S2 wv pt ↔ (OwnPay wv w3.heap.size px gx1 cx1 gx2 cx2 gx3 cx3 gx4 cx4 ∧ OwnPay wv w3.heap.size py gy1 cy1 gy2 cy2 gy3 cy3 gy4 cy4 ∧ OwnPay wv w3.heap.size (moreP p m (strike e)) gz1 cz1 gn cn gz3 cz3 gz4 cz4 ∧ OwnPay wv w3.heap.size pt gt1 ct1 gt2 ct2 gt3 ct3 gt4 ct4 ∧
      Blk wv X1 27 (payCs people (some ⟨gx1, 0, none⟩) rl cx1 (some ⟨gx2, 0, none⟩) cl cx2 rate bill (some ⟨gx3, 0, none⟩) dl cx3 (some ⟨gx4, 0, none⟩) pl cx4) ∧ Blk wv X2 27 (payCs people (some ⟨gy1, 0, none⟩) rl cy1 (some ⟨gy2, 0, none⟩) cl cy2 rate bill (some ⟨gy3, 0, none⟩) dl cy3 (some ⟨gy4, 0, none⟩) pl cy4) ∧ Blk wv X3 27 (payCs people (some ⟨gz1, 0, none⟩) rl cz1 (some ⟨gn, 0, none⟩) (p.calls.length + 1) cn rate bill (some ⟨gz3, 0, none⟩) dl cz3 (some ⟨gz4, 0, none⟩) pl cz4) ∧ Blk wv X4 27 (payCs people (some ⟨gt1, 0, none⟩) rl ct1 (some ⟨gt2, 0, none⟩) cl ct2 rate bill (some ⟨gt3, 0, none⟩) dl ct3 (some ⟨gt4, 0, none⟩) pl ct4) ∧ Blk wv w.heap.size 27 (payCs people ra rl rc ca cl cc rate bill da dl dc pa pl pc) ∧ Below w.heap.size w wv)) := fun wv pt => by rw [hS2]
  have HS2B : Hid (∀ wv wv' pt, S2 wv pt → Below wv.heap.size wv wv' → S2 wv' pt) := by
    show ∀ wv wv' pt, _
    intro wv wv' pt h hb
    rw [HS2I.out] at h ⊢
    obtain ⟨h1, h2, h3, h4, h5, h6, h7, h8, h9, hz⟩ := h
    exact ⟨h1.below hb, h2.below hb, h3.below hb, h4.below hb, h5.below hb h5.lt, h6.below hb h6.lt, h7.below hb h7.lt, h8.below hb h8.lt, h9.below hb h9.lt, hz.trans (hb.mono hz.size)⟩
  have HSM : Hid (S2 (w10.setCell ⟨X3, 2, none⟩ (.slice (some ⟨gn, 0, none⟩) (p.calls.length + 1) cn)) p) := by
    rw [hS2]
    have g1 := HVX.out.below HB10.out
    have g2 := HVY.out.below HB10.out
    have g3 := HVZ.out.below HB10.out
    have g4 := HVT.out.below HB10.out
    have n1 := g1.box HXB3.out
    have n2 := g2.box HXB3.out
    have n3 := g3.box HXB3.out
    have n4 := g4.box HXB3.out
    have f1 := g1.far n1 2 (.slice (some ⟨gn, 0, none⟩) (p.calls.length + 1) cn)
    have f2 := g2.far n2 2 (.slice (some ⟨gn, 0, none⟩) (p.calls.length + 1) cn)
    have f3 := g3.far n3 2 (.slice (some ⟨gn, 0, none⟩) (p.calls.length + 1) cn)
    have f4 := g4.far n4 2 (.slice (some ⟨gn, 0, none⟩) (p.calls.length + 1) cn)
    have hgx : gn ≠ X3 := fun h => own_out HON.out HXB3.out (by decide) (by rw [← h]; rfl)
    have fz : OwnPay (w10.setCell ⟨X3, 2, none⟩ (.slice (some ⟨gn, 0, none⟩) (p.calls.length + 1) cn)) w3.heap.size (moreP p m (strike e)) gz1 cz1 gn cn gz3 cz3 gz4 cz4 := ⟨f3.runs, by
      have e : (moreP p m (strike e)).calls.length = p.calls.length + 1 := by
        show (p.calls.take m ++ strike e :: p.calls.drop m).length = _
        have := HCL.out
        rw [List.length_append, List.length_cons, List.length_take, List.length_drop]; omega
      rw [e]
      exact own_le (own_far HON.out hgx _ _) hVw3, f3.days, f3.paid⟩
    exact ⟨f1, f2, fz, f4, (HVB1.out.below HB10.out HVB1.out.lt).far (by show X1 ≠ X3; exact d13) _, (HVB2.out.below HB10.out HVB2.out.lt).far (by show X2 ≠ X3; exact d23) _, HXB3.out.set_ 2 _, (HVB4.out.below HB10.out HVB4.out.lt).far (by show X4 ≠ X3; exact d34.symm) _, (HVK.out.below HB10.out HVK.out.lt).far (by show w.heap.size ≠ X3; omega) _,
      setK_below (HVw.out.trans (HB10.out.mono HVw.out.size)) (by omega) 2 _⟩
  -- a store in a row of t
  have HS2T : Hid (∀ wv pt pt' j u, S2 wv pt → wv.heap.size ≤ wv.heap.size → gt2 < V.heap.size → OwnPay (wv.setCell ⟨gt2, j, none⟩ u) w3.heap.size pt' gt1 ct1 gt2 ct2 gt3 ct3 gt4 ct4 → S2 (wv.setCell ⟨gt2, j, none⟩ u) pt') := by
    show ∀ wv pt pt' j u, _
    intro wv pt pt' j u h _ hlt hx
    rw [HS2I.out] at h ⊢
    obtain ⟨h1, h2, h3, h4, h5, h6, h7, h8, h9, hz⟩ := h
    have mm : gt2 ∈ [gt1, gt2, gt3, gt4] := by simp
    have n1 := h4.box h5
    have n2 := h4.box h6
    have n3 := h4.box h7
    have n4 := h4.box h8
    have n9 := h4.box h9
    have nz : gt2 ∉ [gz1, gn, gz3, gz4] := by
      have := HTZ.out gt2 mm
      simp only [List.mem_cons, List.not_mem_nil, or_false, not_or] at this ⊢
      exact ⟨this.1, by omega, this.2.2.1, this.2.2.2⟩
    have hlo := L8.out gt2 (by simp)
    simp only [List.mem_cons, List.not_mem_nil, or_false, not_or] at n1 n2 n3 n4 n9
    exact ⟨h1.far (HTX.out _ mm) j u, h2.far (HTY.out _ mm) j u, h3.far nz j u, hx, h5.far n1.2.1 u, h6.far n2.2.1 u, h7.far n3.2.1 u, h8.far n4.2.1 u, h9.far n9.2.1 u, setK_below hz (by omega) j u⟩
  have hgt : gt2 < V.heap.size := (HVT.out.bounds gt2 (by simp)).2
  have HF2 : Hid (∀ wv pt, S2 wv pt → wv.cell? ⟨w.heap.size, 0, none⟩ = some (.int .i64 people) ∧ wv.cell? ⟨w.heap.size, 1, none⟩ = some (.slice ra rl rc) ∧ wv.cell? ⟨w.heap.size, 2, none⟩ = some (.slice ca cl cc) ∧
      wv.cell? ⟨w.heap.size, 3, none⟩ = some (.int .i64 rate) ∧ wv.cell? ⟨w.heap.size, 4, none⟩ = some (.int .i64 bill) ∧ wv.cell? ⟨w.heap.size, 5, none⟩ = some (.slice da dl dc) ∧ wv.cell? ⟨w.heap.size, 6, none⟩ = some (.slice pa pl pc) ∧ w.heap.size < wv.heap.size) := fun wv pt h => by
    obtain ⟨_, _, _, _, _, _, _, _, h9, _⟩ := (HS2I.out _ _).1 h
    exact ⟨h9.cell 0, h9.cell 1, h9.cell 2, h9.cell 3, h9.cell 4, h9.cell 5, h9.cell 6, h9.lt⟩
  have HX4 : Hid (∀ wv pt, S2 wv pt → wv.cell? ⟨X4, 0, none⟩ = some (.int .i64 people) ∧ wv.cell? ⟨X4, 1, none⟩ = some (.slice (some ⟨gt1, 0, none⟩) rl ct1) ∧ wv.cell? ⟨X4, 2, none⟩ = some (.slice (some ⟨gt2, 0, none⟩) cl ct2) ∧
      wv.cell? ⟨X4, 3, none⟩ = some (.int .i64 rate) ∧ wv.cell? ⟨X4, 4, none⟩ = some (.int .i64 bill) ∧ wv.cell? ⟨X4, 5, none⟩ = some (.slice (some ⟨gt3, 0, none⟩) dl ct3) ∧ wv.cell? ⟨X4, 6, none⟩ = some (.slice (some ⟨gt4, 0, none⟩) pl ct4) ∧ X4 < wv.heap.size) := fun wv pt h => by
    obtain ⟨_, _, _, _, _, _, _, h8, _, _⟩ := (HS2I.out _ _).1 h
    exact ⟨h8.cell 0, h8.cell 1, h8.cell 2, h8.cell 3, h8.cell 4, h8.cell 5, h8.cell 6, h8.lt⟩
  clear hS2 HVX HVY HVZ HVT HVB1 HVB2 HVB3 HVB4 HVK HVE HVU HON HXB3 x0 x1 x2 x3 x4 x5 x6 x7 x8 HBEc y0 y1 y2 HgnV hml
  generalize (w10.setCell ⟨X3, 2, none⟩ (.slice (some ⟨gn, 0, none⟩) (p.calls.length + 1) cn)) = M at *
  obtain ⟨x0, x1, x2, x3, x4, x5, x6, x7⟩ := HF2.out _ _ HSM.out
  obtain ⟨z0, z1, z2, z3, z4, z5, z6, z7⟩ := HX4.out _ _ HSM.out
  go_wp2
  clear x0 x1 x2 x3 x4 x5 x6 x7 z0 z1 z2 z3 z4 z5 z6 z7
  go_loopw [122] (fun i wr => ∃ k : Nat, i = .int .i64 k ∧ k ≤ cl ∧ Hid (S2 wr (turnK p k))) (fun i _ => cl - (intOf i).toNat)
  case atStart => exact ⟨0, rfl, Nat.zero_le _, HSM.out⟩
  case round =>
    obtain ⟨k, rfl, hk, HSR⟩ := hrel
    obtain ⟨x0, x1, x2, x3, x4, x5, x6, x7⟩ := HF2.out _ _ HSR.out
    obtain ⟨z0, z1, z2, z3, z4, z5, z6, z7⟩ := HX4.out _ _ HSR.out
    by_cases hlt : k < cl
    · obtain ⟨c, hc⟩ : ∃ c, p.calls[k]? = some c := ⟨p.calls[k]'(by rw [HCL.out]; exact hlt), by simp⟩
      have HC := Lib.hid hc
      have hS := (HS2I.out _ _).1 HSR.out
      have HOTr := Lib.hid hS.2.2.2.1
      obtain ⟨b, off, rfl, hbl, H0, _⟩ := (HP.out.grow hS.2.2.2.2.2.2.2.2.2).hcalls k c hc
      obtain ⟨t0, t1, t2, t3⟩ := hS.2.2.2.1.whoCell (turnK_get hc)
      obtain ⟨cw0, cw1⟩ : 0 ≤ c.who ∧ c.who < people := by
        have h := HV.out
        simp only [payB, Bool.and_eq_true, List.all_eq_true] at h
        have := h.1.1.2 c (List.mem_of_getElem? hc)
        simp only [callB, Bool.and_eq_true] at this
        have h2 := inB_iff.1 this.1.1
        rw [HPE.out] at h2
        omega
      have j1 : IntKind.i64.wrap (people - 1) = people - 1 := IntWalk.i64_in _ (by omega)
      have j2 : IntKind.i64.wrap (people - 1 - c.who) = people - 1 - c.who := IntWalk.i64_in _ (by omega)
      have f0 := t1 (k * 5)
      clear hc hS
      go_wp2
      refine wp_region_havoc [(0,false),(1,false),(2,false),(3,false),(4,false),(5,false),(6,false),(7,false),(8,false),(9,false),(10,false),(11,false),(12,false),(13,false),(14,false)] [15] (fun _ _ => False) (by kernel_rfl) (by kernel_rfl) (fun _ _ _ _ h => h.elim) ?_
      (apply hav_same (by simp only [List.getElem?_toArray, List.getElem?_cons_zero]; rfl) (by kernel_rfl); (focus (intro wv hgv _; have hcv : ∀ b o, b < _ → wv.cell? ⟨b, o, none⟩ = _ := fun b o hb => Below.cell hgv (p := ⟨b, o, none⟩) hb; go_simp; try rfl; done)); simp only [Act.put, List.setIfInBounds_toArray, List.set_cons_succ, List.set_cons_zero])
      iterate 14 (apply hav_same (by simp only [List.getElem?_toArray, List.getElem?_cons_succ, List.getElem?_cons_zero]; rfl) (by kernel_rfl); (focus (intro wv hgv _; have hcv : ∀ b o, b < _ → wv.cell? ⟨b, o, none⟩ = _ := fun b o hb => Below.cell hgv (p := ⟨b, o, none⟩) hb; go_simp; try rfl; done)); simp only [Act.put, List.setIfInBounds_toArray, List.set_cons_succ, List.set_cons_zero])
      refine hav_end (fun wd hgwd _ => ?_); simp only [List.filterMap]; have hcwd : ∀ b o, b < _ → wd.cell? ⟨b, o, none⟩ = _ := fun b o hb => Below.cell hgwd (p := ⟨b, o, none⟩) hb; have hfwd : ∀ b o, b < _ → wd.frozen? ⟨b, o, none⟩ = _ := fun b o hb => Below.frozen hgwd (p := ⟨b, o, none⟩) hb; have hzwd := Below.size hgwd; (try simp at hzwd)
      simp only [List.getElem?_toArray, List.getElem?_cons_succ, List.getElem?_cons_zero]
      have e0 : wd.cell? ⟨gt2, k * 5, none⟩ = some (.int .i64 c.who) := (hcwd gt2 (k * 5) t2).trans t0
      have e1 : wd.frozen? ⟨gt2, k * 5, none⟩ = false := (hfwd gt2 (k * 5) t2).trans f0
      have e2 : gt2 < wd.heap.size := by omega
      have HSd : Hid (S2 wd (turnK p k)) := HS2B.out _ _ _ HSR.out hgwd
      have ho := (HOTr.out.below hgwd).setWho HC.out
      rw [HPE.out] at ho
      have HSe : Hid (S2 (wd.setCell ⟨gt2, k * 5, none⟩ (.int .i64 (people - 1 - c.who))) (turnK p (k + 1))) := HS2T.out _ _ _ _ _ HSd.out (Nat.le_refl _) hgt ho
      clear hgwd hcwd hfwd ho t0 t1 t2 t3 f0 H0 hbl x0 x1 x2 x3 x4 x5 x6 x7 z0 z1 z2 z3 z4 z5 z6 z7
      go_wp2
      go_roundw
      case rel => exact ⟨k + 1, by go_num, by omega, HSe.out⟩
      case measure => simp [intOf]; omega
    · obtain rfl : cl = k := by omega
      have HSP : Hid (S2 wr (turnP p)) := by have := HSR.out; rw [← HCL.out, turnK_all] at this; exact this
      have HBr : Hid (Below w.heap.size w wr) := ((HS2I.out _ _).1 HSP.out).2.2.2.2.2.2.2.2.2
      go_wp2_with fail
      refine (copied_any (p := p) _ (by exact HP.out.grow HBr.out) (by omega) (by omega) (by omega) (by omega)).mono ?_
      simp only [payV]
      rintro e3 wk ⟨⟨k1', ck1, k2', ck2, k3', ck3, k4', ck4, rfl, HOk⟩, hbk⟩
      have HKk := Lib.hid HOk
      have HSk : Hid (S2 wk (turnP p)) := HS2B.out _ _ _ HSP.out hbk
      clear hbk HOk x0 x1 x2 x3 x4 x5 x6 x7 z0 z1 z2 z3 z4 z5 z6 z7
      obtain ⟨x0, x1, x2, x3, x4, x5, x6, x7⟩ := HF2.out _ _ HSk.out
      go_wp2_with fail
      obtain ⟨K, hK⟩ : ∃ K, K = wk.alloc (.cells (payCs people (some ⟨k1', 0, none⟩) rl ck1 (some ⟨k2', 0, none⟩) cl ck2 rate bill (some ⟨k3', 0, none⟩) dl ck3 (some ⟨k4', 0, none⟩) pl ck4) 27) := ⟨_, rfl⟩
      have HKB : Hid (Blk K wk.heap.size 27 (payCs people (some ⟨k1', 0, none⟩) rl ck1 (some ⟨k2', 0, none⟩) cl ck2 rate bill (some ⟨k3', 0, none⟩) dl ck3 (some ⟨k4', 0, none⟩) pl ck4)) := by show Blk _ _ _ _; rw [hK]; exact Blk.new _ _ _
      have HKW : Hid (Below wk.heap.size wk K) := by show Below _ _ _; rw [hK]; exact (Below.refl _ _).alloc (Nat.le_refl _) _
      have HSK : Hid (S2 K (turnP p)) := HS2B.out _ _ _ HSk.out HKW.out
      have HOK : Hid (OwnPay K wr.heap.size p k1' ck1 k2' ck2 k3' ck3 k4' ck4) := HKk.out.below HKW.out
      have hK' := hK.symm
      unfold payCs at hK'
      rw [hK']
      clear hK hK' HKk HSk x0 x1 x2 x3 x4 x5 x6 x7
      -- what holds in every world behind K
      have HSB : Hid (∀ wv, Below K.heap.size K wv → S2 wv (turnP p)) := fun wv hb => HS2B.out _ _ _ HSK.out hb
      have HPB2 : Hid (∀ wv, Below K.heap.size K wv → PayIn wv wv.heap.size people ra rl ca cl rate bill da dl pa pl p) := fun wv hb => HP.out.grow (((HS2I.out _ _).1 (HSB.out wv hb)).2.2.2.2.2.2.2.2.2)
      have HRK : Hid (∀ wv, Below K.heap.size K wv → RulesIn wv ∧ Below w.heap.size w wv) := fun wv hb => by
        have h := ((HS2I.out _ _).1 (HSB.out wv hb)).2.2.2.2.2.2.2.2.2
        exact ⟨HR.out.below h, h⟩
      have HF3 : Hid (∀ wv, Below K.heap.size K wv → wv.cell? ⟨w.heap.size, 0, none⟩ = some (.int .i64 people) ∧ wv.cell? ⟨w.heap.size, 1, none⟩ = some (.slice ra rl rc) ∧ wv.cell? ⟨w.heap.size, 2, none⟩ = some (.slice ca cl cc) ∧
          wv.cell? ⟨w.heap.size, 3, none⟩ = some (.int .i64 rate) ∧ wv.cell? ⟨w.heap.size, 4, none⟩ = some (.int .i64 bill) ∧ wv.cell? ⟨w.heap.size, 5, none⟩ = some (.slice da dl dc) ∧ wv.cell? ⟨w.heap.size, 6, none⟩ = some (.slice pa pl pc) ∧ w.heap.size < wv.heap.size ∧ K.heap.size ≤ wv.heap.size) := fun wv hb => by
        obtain ⟨h0, h1, h2, h3, h4, h5, h6, h7⟩ := HF2.out _ _ (HSB.out wv hb)
        exact ⟨h0, h1, h2, h3, h4, h5, h6, h7, hb.size⟩
      obtain ⟨E, HEE⟩ : ∃ E : Int, Hid ((if wrongI p = 0 then (0 : Int) else 10) = E) := ⟨_, rfl⟩
      obtain ⟨⟨A1, A2⟩, hA⟩ := span_err HV.out (show (whoB p who && runB p run) = true by rw [HWB.out, HRB.out]; rfl) (sheepS p who run)
      obtain ⟨⟨B1, B2⟩, hB⟩ := span_err HV.out HWB.out (wagesP p who)
      obtain ⟨⟨C1, C2⟩, hC⟩ := span_err HV.out HWB.out (leftP p who)
      obtain ⟨⟨D1, D2⟩, hD⟩ := span_err HV.out HRB.out (outS p run)
      rw [HEE.out] at hA hB hC hD
      have HAA := Lib.hid hA
      have HAB := Lib.hid hB
      have HAC := Lib.hid hC
      have HAD := Lib.hid hD
      clear hA hB hC hD
      obtain ⟨x0, x1, x2, x3, x4, x5, x6, x7, x8⟩ := HF3.out _ (Below.refl _ _)
      go_wp2_with fail
      refine (PSheep_any (p := p) who run _ (by exact HPB2.out _ (Below.refl _ _))).mono ?_
      rw [HAA.out]
      simp only [spV]
      rintro e4 wa ⟨rfl, hba⟩
      have HBa : Hid (Below K.heap.size K wa) := hba
      clear hba x0 x1 x2 x3 x4 x5 x6 x7 x8
      obtain ⟨x0, x1, x2, x3, x4, x5, x6, x7, x8⟩ := HF3.out _ HBa.out
      go_wp2_with fail
      refine (PWages_any (p := p) who _ (by exact HPB2.out _ (HBa.out.alloc x8 _))).mono ?_
      rw [HAB.out]
      simp only [spV]
      rintro e5 wb ⟨rfl, hbb⟩
      have HBb : Hid (Below K.heap.size K wb) := (HBa.out.alloc x8 _).trans (hbb.mono (HBa.out.alloc x8 _).size)
      have HKa : Hid (Blk wb wa.heap.size 34 #[.int .i64 A1, .int .i64 A2]) := (Blk.new_ rfl _ _).below hbb (by simp)
      clear hbb x0 x1 x2 x3 x4 x5 x6 x7 x8
      obtain ⟨x0, x1, x2, x3, x4, x5, x6, x7, x8⟩ := HF3.out _ HBb.out
      have ha1 := HKa.out.lt
      go_wp2_with fail
      refine (PLeft_any (p := p) who _ (by exact HPB2.out _ (HBb.out.alloc x8 _))).mono ?_
      rw [HAC.out]
      simp only [spV]
      rintro e6 wc' ⟨rfl, hbc⟩
      have HBc' : Hid (Below K.heap.size K wc') := (HBb.out.alloc x8 _).trans (hbc.mono (HBb.out.alloc x8 _).size)
      have HKa2 : Hid (Blk wc' wa.heap.size 34 #[.int .i64 A1, .int .i64 A2]) := (HKa.out.alloc _).below hbc (HKa.out.alloc _).lt
      have HKb : Hid (Blk wc' wb.heap.size 34 #[.int .i64 B1, .int .i64 B2]) := (Blk.new_ rfl _ _).below hbc (by simp)
      clear hbc x0 x1 x2 x3 x4 x5 x6 x7 x8 HKa
      obtain ⟨x0, x1, x2, x3, x4, x5, x6, x7, x8⟩ := HF3.out _ HBc'.out
      have ha2 := HKb.out.lt
      go_wp2_with fail
      refine (POut_any (p := p) run _ (by exact HPB2.out _ (HBc'.out.alloc x8 _))).mono ?_
      rw [HAD.out]
      simp only [spV]
      rintro e7 wd ⟨rfl, hbd⟩
      have HBd : Hid (Below K.heap.size K wd) := (HBc'.out.alloc x8 _).trans (hbd.mono (HBc'.out.alloc x8 _).size)
      have HKa3 : Hid (Blk wd wa.heap.size 34 #[.int .i64 A1, .int .i64 A2]) := (HKa2.out.alloc _).below hbd (HKa2.out.alloc _).lt
      have HKb3 : Hid (Blk wd wb.heap.size 34 #[.int .i64 B1, .int .i64 B2]) := (HKb.out.alloc _).below hbd (HKb.out.alloc _).lt
      have HKc3 : Hid (Blk wd wc'.heap.size 34 #[.int .i64 C1, .int .i64 C2]) := (Blk.new_ rfl _ _).below hbd (by simp)
      clear hbd x0 x1 x2 x3 x4 x5 x6 x7 x8 HKa2 HKb
      have hS := (HS2I.out _ _).1 (HSB.out _ HBd.out)
      obtain ⟨_, _, _, _, b1, b2, b3, b4, _, _⟩ := hS
      have hx1 := b1.lt
      have hx2 := b2.lt
      have hx3 := b3.lt
      have p0 := b1.cell 0
      have p1 := b1.cell 1
      have p2 := b1.cell 2
      have p3 := b1.cell 3
      have p4 := b1.cell 4
      have p5 := b1.cell 5
      have p6 := b1.cell 6
      have q0 := b2.cell 0
      have q1 := b2.cell 1
      have q2 := b2.cell 2
      have q3 := b2.cell 3
      have q4 := b2.cell 4
      have q5 := b2.cell 5
      have q6 := b2.cell 6
      have t0 := b3.cell 0
      have t1 := b3.cell 1
      have t2 := b3.cell 2
      have t3 := b3.cell 3
      have t4 := b3.cell 4
      have t5 := b3.cell 5
      have t6 := b3.cell 6
      simp [payCs] at p0 p1 p2 p3 p4 p5 p6 q0 q1 q2 q3 q4 q5 q6 t0 t1 t2 t3 t4 t5 t6
      clear b1 b2 b3 b4
      go_wp2
      obtain ⟨_, _, _, _, _, _, _, _, sz⟩ := HF3.out _ HBd.out
      obtain ⟨K2, hK2⟩ : ∃ K2, K2 = (wd.alloc (.cells #[.int .i64 D1, .int .i64 D2] 34)).alloc (.cells #[.int .i64 people, .slice (some ⟨gx1, 0, none⟩) rl cx1, .slice (some ⟨gx2, 0, none⟩) cl cx2, .int .i64 rate, .int .i64 bill, .slice (some ⟨gx3, 0, none⟩) dl cx3, .slice (some ⟨gx4, 0, none⟩) pl cx4, .int .i64 people, .slice (some ⟨gy1, 0, none⟩) rl cy1, .slice (some ⟨gy2, 0, none⟩) cl cy2, .int .i64 rate, .int .i64 bill, .slice (some ⟨gy3, 0, none⟩) dl cy3, .slice (some ⟨gy4, 0, none⟩) pl cy4, .int .i64 people, .slice (some ⟨gz1, 0, none⟩) rl cz1, .slice (some ⟨gn, 0, none⟩) (p.calls.length + 1) cn, .int .i64 rate, .int .i64 bill, .slice (some ⟨gz3, 0, none⟩) dl cz3, .slice (some ⟨gz4, 0, none⟩) pl cz4] 27) := ⟨_, rfl⟩
      have HBK : Hid (Below K.heap.size K K2) := by show Below _ _ _; rw [hK2]; exact (HBd.out.alloc sz _).alloc (by simp; omega) _
      have HK1 : Hid (Blk K2 wa.heap.size 34 #[.int .i64 A1, .int .i64 A2]) := by show Blk _ _ _ _; rw [hK2]; exact (HKa3.out.alloc _).alloc _
      have HK2 : Hid (Blk K2 wb.heap.size 34 #[.int .i64 B1, .int .i64 B2]) := by show Blk _ _ _ _; rw [hK2]; exact (HKb3.out.alloc _).alloc _
      have HK3 : Hid (Blk K2 wc'.heap.size 34 #[.int .i64 C1, .int .i64 C2]) := by show Blk _ _ _ _; rw [hK2]; exact (HKc3.out.alloc _).alloc _
      have HK4 : Hid (Blk K2 wd.heap.size 34 #[.int .i64 D1, .int .i64 D2]) := by show Blk _ _ _ _; rw [hK2]; exact (Blk.new _ _ _).alloc _
      have HARR : Hid (Blk K2 (wd.heap.size + 1) 27 #[.int .i64 people, .slice (some ⟨gx1, 0, none⟩) rl cx1, .slice (some ⟨gx2, 0, none⟩) cl cx2, .int .i64 rate, .int .i64 bill, .slice (some ⟨gx3, 0, none⟩) dl cx3, .slice (some ⟨gx4, 0, none⟩) pl cx4, .int .i64 people, .slice (some ⟨gy1, 0, none⟩) rl cy1, .slice (some ⟨gy2, 0, none⟩) cl cy2, .int .i64 rate, .int .i64 bill, .slice (some ⟨gy3, 0, none⟩) dl cy3, .slice (some ⟨gy4, 0, none⟩) pl cy4, .int .i64 people, .slice (some ⟨gz1, 0, none⟩) rl cz1, .slice (some ⟨gn, 0, none⟩) (p.calls.length + 1) cn, .int .i64 rate, .int .i64 bill, .slice (some ⟨gz3, 0, none⟩) dl cz3, .slice (some ⟨gz4, 0, none⟩) pl cz4]) := by show Blk _ _ _ _; rw [hK2]; exact Blk.new_ (by simp) _ _
      have hK2' := hK2.symm
      rw [hK2']
      clear hK2 hK2' HKa3 HKb3 HKc3 p0 p1 p2 p3 p4 p5 p6 q0 q1 q2 q3 q4 q5 q6 t0 t1 t2 t3 t4 t5 t6
      -- the three pays
      have HEL : Hid (∀ wv, Below K2.heap.size K2 wv → ∀ k, k < 3 → ∃ v a1 b1 a2 b2 a3 b3 a4 b4 n2, Narrow p v ∧ (k = 2 → SameCalled p v) ∧ n2 ≤ 1000 ∧ v.calls.length = n2 ∧ OwnPay wv w3.heap.size v a1 b1 a2 b2 a3 b3 a4 b4 ∧
          wv.cell? ⟨wd.heap.size + 1, k * 7, none⟩ = some (.int .i64 people) ∧ wv.cell? ⟨wd.heap.size + 1, k * 7 + 1, none⟩ = some (.slice (some ⟨a1, 0, none⟩) rl b1) ∧ wv.cell? ⟨wd.heap.size + 1, k * 7 + 2, none⟩ = some (.slice (some ⟨a2, 0, none⟩) n2 b2) ∧ wv.cell? ⟨wd.heap.size + 1, k * 7 + 3, none⟩ = some (.int .i64 rate) ∧
          wv.cell? ⟨wd.heap.size + 1, k * 7 + 4, none⟩ = some (.int .i64 bill) ∧ wv.cell? ⟨wd.heap.size + 1, k * 7 + 5, none⟩ = some (.slice (some ⟨a3, 0, none⟩) dl b3) ∧ wv.cell? ⟨wd.heap.size + 1, k * 7 + 6, none⟩ = some (.slice (some ⟨a4, 0, none⟩) pl b4)) := by
        show ∀ wv, _
        intro wv hb k hk
        have ha := HARR.out.below hb HARR.out.lt
        have hS := (HS2I.out _ _).1 (HSB.out _ (HBK.out.trans (hb.mono HBK.out.size)))
        have hcl := HCL.out
        obtain rfl | rfl | rfl : k = 0 ∨ k = 1 ∨ k = 2 := by omega
        · exact ⟨px, gx1, cx1, gx2, cx2, gx3, cx3, gx4, cx4, cl, HN1.out, by omega, by omega, HPL1.out, hS.1, ha.cell 0, ha.cell 1, ha.cell 2, ha.cell 3, ha.cell 4, ha.cell 5, ha.cell 6⟩
        · exact ⟨py, gy1, cy1, gy2, cy2, gy3, cy3, gy4, cy4, cl, HNY.out, by omega, by omega, HPL2.out, hS.2.1, ha.cell 7, ha.cell 8, ha.cell 9, ha.cell 10, ha.cell 11, ha.cell 12, ha.cell 13⟩
        · exact ⟨moreP p m (strike e), gz1, cz1, gn, cn, gz3, cz3, gz4, cz4, p.calls.length + 1, (more_same p m rfl).narrow rfl rfl rfl, fun _ => more_same p m rfl, by omega, by show (p.calls.take m ++ strike e :: p.calls.drop m).length = _; rw [List.length_append, List.length_cons, List.length_take, List.length_drop]; omega, hS.2.2.1, ha.cell 14, ha.cell 15, ha.cell 16, ha.cell 17, ha.cell 18, ha.cell 19, ha.cell 20⟩
      rename ∀ a w, Code.wp Tryd.prog (moreTail 18) _ a w → _ => hK18
      have HK18 := Lib.hid hK18
      clear hK18
      go_loopw [186] (fun i wr => ∃ k : Nat, i = .int .i64 k ∧ k ≤ 3 ∧ Hid (Below K2.heap.size K2 wr)) (fun i _ => 3 - (intOf i).toNat)
      case atStart => exact ⟨0, rfl, Nat.zero_le _, Below.refl _ _⟩
      case round =>
        obtain ⟨k, rfl, hk, HBR⟩ := hrel
        by_cases hlt : k < 3
        · obtain ⟨v, a1, b1, a2, b2, a3, b3, a4, b4, n2, hN, hsame, hn2, hcn, hown, v0, v1, v2, v3, v4, v5, v6⟩ := HEL.out _ HBR.out k hlt
          have HNV := Lib.hid hN
          have HOV := Lib.hid hown
          clear hN hown
          have hsz := HARR.out.lt
          have hsz2 := HBR.out.size
          go_wp2_with fail
          obtain ⟨R, hR⟩ : ∃ R, R = wr.alloc (.cells #[.int .i64 people, .slice (some ⟨a1, 0, none⟩) rl b1, .slice (some ⟨a2, 0, none⟩) n2 b2, .int .i64 rate, .int .i64 bill, .slice (some ⟨a3, 0, none⟩) dl b3, .slice (some ⟨a4, 0, none⟩) pl b4] 27) := ⟨_, rfl⟩
          have HRX : Hid (Blk R wr.heap.size 27 #[.int .i64 people, .slice (some ⟨a1, 0, none⟩) rl b1, .slice (some ⟨a2, 0, none⟩) n2 b2, .int .i64 rate, .int .i64 bill, .slice (some ⟨a3, 0, none⟩) dl b3, .slice (some ⟨a4, 0, none⟩) pl b4]) := by show Blk _ _ _ _; rw [hR]; exact Blk.new _ _ _
          have HRW : Hid (Below wr.heap.size wr R) := by show Below _ _ _; rw [hR]; exact (Below.refl _ _).alloc (Nat.le_refl _) _
          have hR' := hR.symm
          rw [hR']
          clear hR hR' v0 v1 v2 v3 v4 v5 v6
          have HPV : Hid (∀ wv, Below R.heap.size R wv → PayIn wv wv.heap.size people (some ⟨a1, 0, none⟩) rl (some ⟨a2, 0, none⟩) n2 rate bill (some ⟨a3, 0, none⟩) dl (some ⟨a4, 0, none⟩) pl v) := fun wv hb =>
            (HOV.out.below (HRW.out.trans (hb.mono HRW.out.size))).payOf (by omega) hn2 (by omega) (by omega) (HNV.out.epeople.trans HP.out.epeople) (HNV.out.elen.trans HP.out.erl) hcn (HNV.out.erate.trans HP.out.erate) (HNV.out.ebill.trans HP.out.ebill) ((congrArg _ HNV.out.edays).trans HP.out.edl) ((congrArg _ HNV.out.epaid).trans HP.out.epl)
          have HFV : Hid (∀ wv, Below R.heap.size R wv → wv.cell? ⟨wr.heap.size, 0, none⟩ = some (.int .i64 people) ∧ wv.cell? ⟨wr.heap.size, 1, none⟩ = some (.slice (some ⟨a1, 0, none⟩) rl b1) ∧ wv.cell? ⟨wr.heap.size, 2, none⟩ = some (.slice (some ⟨a2, 0, none⟩) n2 b2) ∧
              wv.cell? ⟨wr.heap.size, 3, none⟩ = some (.int .i64 rate) ∧ wv.cell? ⟨wr.heap.size, 4, none⟩ = some (.int .i64 bill) ∧ wv.cell? ⟨wr.heap.size, 5, none⟩ = some (.slice (some ⟨a3, 0, none⟩) dl b3) ∧ wv.cell? ⟨wr.heap.size, 6, none⟩ = some (.slice (some ⟨a4, 0, none⟩) pl b4) ∧ wr.heap.size < wv.heap.size ∧ R.heap.size ≤ wv.heap.size) := fun wv hb => by
            have h := HRX.out.below hb HRX.out.lt
            exact ⟨h.cell 0, h.cell 1, h.cell 2, h.cell 3, h.cell 4, h.cell 5, h.cell 6, h.lt, hb.size⟩
          have HKR : Hid (∀ wv, Below R.heap.size R wv → Below K2.heap.size K2 wv) := fun wv hb => HBR.out.trans ((HRW.out.trans (hb.mono HRW.out.size)).mono HBR.out.size)
          refine (Pay_any (p := v) _ (by exact HPV.out _ (Below.refl _ _))).mono ?_
          rintro e8 we ⟨rfl, hbe⟩
          have HBe : Hid (Below R.heap.size R we) := hbe
          clear hbe
          have hw1 : IntKind.i64.wrap ((k : Int) + 1) = (k : Int) + 1 := IntWalk.i64_in _ (by omega)
          by_cases hvv : payB v = true
          · rw [hvv]
            obtain ⟨F, HFF⟩ : ∃ F : Int, Hid ((if wrongI v = 0 then (0 : Int) else 10) = F) := ⟨_, rfl⟩
            have hwv : whoB v who = true := by unfold whoB; rw [HNV.out.epeople]; exact HWB.out
            have hrv : runB v run = true := by unfold runB; rw [HNV.out.elen]; exact HRB.out
            obtain ⟨⟨V1, V2⟩, hA⟩ := span_err hvv (show (whoB v who && runB v run) = true by rw [hwv, hrv]; rfl) (sheepS v who run)
            obtain ⟨⟨V3, V4⟩, hB⟩ := span_err hvv hwv (wagesP v who)
            obtain ⟨⟨V5, V6⟩, hC⟩ := span_err hvv hwv (leftP v who)
            obtain ⟨⟨V7, V8⟩, hD⟩ := span_err hvv hrv (outS v run)
            rw [HFF.out] at hA hB hC hD
            have HVA := Lib.hid hA
            have HVB := Lib.hid hB
            have HVC := Lib.hid hC
            have HVD := Lib.hid hD
            clear hA hB hC hD
            obtain ⟨x0, x1, x2, x3, x4, x5, x6, x7, x8⟩ := HFV.out _ HBe.out
            go_wp2_with fail
            refine (PSheep_any (p := v) who run _ (by exact HPV.out _ HBe.out)).mono ?_
            rw [HVA.out]
            simp only [spV]
            rintro e9 wf ⟨rfl, hbf⟩
            have HBf : Hid (Below R.heap.size R wf) := HBe.out.trans (hbf.mono HBe.out.size)
            clear hbf x0 x1 x2 x3 x4 x5 x6 x7 x8
            obtain ⟨x0, x1, x2, x3, x4, x5, x6, x7, x8⟩ := HFV.out _ HBf.out
            go_wp2_with fail
            refine (PWages_any (p := v) who _ (by exact HPV.out _ (HBf.out.alloc x8 _))).mono ?_
            rw [HVB.out]
            simp only [spV]
            rintro e10 wg ⟨rfl, hbg⟩
            have HBg : Hid (Below R.heap.size R wg) := (HBf.out.alloc x8 _).trans (hbg.mono (HBf.out.alloc x8 _).size)
            have HKv1 : Hid (Blk wg wf.heap.size 34 #[.int .i64 V1, .int .i64 V2]) := (Blk.new_ rfl _ _).below hbg (by simp)
            clear hbg x0 x1 x2 x3 x4 x5 x6 x7 x8
            obtain ⟨x0, x1, x2, x3, x4, x5, x6, x7, x8⟩ := HFV.out _ HBg.out
            have hv1 := HKv1.out.lt
            go_wp2_with fail
            refine (PLeft_any (p := v) who _ (by exact HPV.out _ (HBg.out.alloc x8 _))).mono ?_
            rw [HVC.out]
            simp only [spV]
            rintro e11 wh ⟨rfl, hbh⟩
            have HBh : Hid (Below R.heap.size R wh) := (HBg.out.alloc x8 _).trans (hbh.mono (HBg.out.alloc x8 _).size)
            have HKv2 : Hid (Blk wh wf.heap.size 34 #[.int .i64 V1, .int .i64 V2]) := (HKv1.out.alloc _).below hbh (HKv1.out.alloc _).lt
            have HKv3 : Hid (Blk wh wg.heap.size 34 #[.int .i64 V3, .int .i64 V4]) := (Blk.new_ rfl _ _).below hbh (by simp)
            clear hbh x0 x1 x2 x3 x4 x5 x6 x7 x8 HKv1
            obtain ⟨x0, x1, x2, x3, x4, x5, x6, x7, x8⟩ := HFV.out _ HBh.out
            have hv2 := HKv3.out.lt
            go_wp2_with fail
            refine (POut_any (p := v) run _ (by exact HPV.out _ (HBh.out.alloc x8 _))).mono ?_
            rw [HVD.out]
            simp only [spV]
            rintro e12 wi ⟨rfl, hbi⟩
            have HBi : Hid (Below R.heap.size R wi) := (HBh.out.alloc x8 _).trans (hbi.mono (HBh.out.alloc x8 _).size)
            have HKv4 : Hid (Blk wi wf.heap.size 34 #[.int .i64 V1, .int .i64 V2]) := (HKv2.out.alloc _).below hbi (HKv2.out.alloc _).lt
            have HKv5 : Hid (Blk wi wg.heap.size 34 #[.int .i64 V3, .int .i64 V4]) := (HKv3.out.alloc _).below hbi (HKv3.out.alloc _).lt
            have HKv6 : Hid (Blk wi wh.heap.size 34 #[.int .i64 V5, .int .i64 V6]) := (Blk.new_ rfl _ _).below hbi (by simp)
            clear hbi x0 x1 x2 x3 x4 x5 x6 x7 x8 HKv2 HKv3
            obtain ⟨x0, x1, x2, x3, x4, x5, x6, x7, x8⟩ := HFV.out _ HBi.out
            have hv3 := HKv6.out.lt
            have r1 : (run : Int) < p.runs.length := by rw [HRL.out]; omega
            have hbp : (whoB p who && runB p run) = true := by rw [HWB.out, HRB.out]; rfl
            have hbv : (whoB v who && runB v run) = true := by rw [hwv, hrv]; rfl
            have nA := Lib.hid (narrow_ans HNV.out HV.out hvv hbp hbv HAA.out HVA.out (HNV.out.sheep who (by omega) r1)).2
            have nB := Lib.hid (narrow_ans HNV.out HV.out hvv HWB.out hwv HAB.out HVB.out (HNV.out.wages HV.out who)).2
            have nC := Lib.hid (narrow_ans HNV.out HV.out hvv HWB.out hwv HAC.out HVC.out (HNV.out.left HV.out who)).2
            have nD := Lib.hid (narrow_ans HNV.out HV.out hvv HRB.out hrv HAD.out HVD.out (HNV.out.out (by omega) r1)).2
            have hsame := fun h => (hsame h : SameCalled p v)
            have HSA : Hid (k = 2 → (⟨V1, V2⟩ : Sp) = ⟨A1, A2⟩ ∧ F = E) := fun h => same_ans HV.out hvv hbp hbv (hsame h).wrong HAA.out HVA.out ((hsame h).sheep who run)
            have HSB1 : Hid (k = 2 → (⟨V3, V4⟩ : Sp) = ⟨B1, B2⟩ ∧ F = E) := fun h => same_ans HV.out hvv HWB.out hwv (hsame h).wrong HAB.out HVB.out ((hsame h).wages who)
            have HSC : Hid (k = 2 → (⟨V5, V6⟩ : Sp) = ⟨C1, C2⟩ ∧ F = E) := fun h => same_ans HV.out hvv HWB.out hwv (hsame h).wrong HAC.out HVC.out ((hsame h).left HNV.out.ebill HNV.out.edays HNV.out.epaid who)
            have HSD : Hid (k = 2 → (⟨V7, V8⟩ : Sp) = ⟨D1, D2⟩ ∧ F = E) := fun h => same_ans HV.out hvv HRB.out hrv (hsame h).wrong HAD.out HVD.out ((hsame h).out run)
            have hF : F = 0 ∨ F = 10 := by rw [← HFF.out]; split <;> simp
            have hE : E = 0 ∨ E = 10 := by rw [← HEE.out]; split <;> simp
            clear hsame hbp hbv r1 hwv hrv x0 x1 x2 x3 x4 x5 x6 x7
            rename ∀ a w, Code.wp Tryd.prog decideC _ a w → _ => hKD
            have HKD := Lib.hid hKD
            clear hKD
            go_wp2_with fail
            obtain ⟨L, hL⟩ : ∃ L, L = wi.alloc (.cells #[.int .i64 V7, .int .i64 V8] 34) := ⟨_, rfl⟩
            have HL1 : Hid (Blk L wf.heap.size 34 #[.int .i64 V1, .int .i64 V2]) := by show Blk _ _ _ _; rw [hL]; exact HKv4.out.alloc _
            have HL2 : Hid (Blk L wg.heap.size 34 #[.int .i64 V3, .int .i64 V4]) := by show Blk _ _ _ _; rw [hL]; exact HKv5.out.alloc _
            have HL3 : Hid (Blk L wh.heap.size 34 #[.int .i64 V5, .int .i64 V6]) := by show Blk _ _ _ _; rw [hL]; exact HKv6.out.alloc _
            have HL4 : Hid (Blk L wi.heap.size 34 #[.int .i64 V7, .int .i64 V8]) := by show Blk _ _ _ _; rw [hL]; exact Blk.new _ _ _
            have HLB : Hid (Below R.heap.size R L) := by show Below _ _ _; rw [hL]; exact HBi.out.alloc HBi.out.size _
            have hL' := hL.symm
            rw [hL']
            clear hL hL' x8 HKv4 HKv5 HKv6
            have HLK : Hid (Below K2.heap.size K2 L) := HKR.out _ HLB.out
            have HM1 : Hid (Blk L wa.heap.size 34 #[.int .i64 A1, .int .i64 A2]) := HK1.out.below HLK.out HK1.out.lt
            have HM2 : Hid (Blk L wb.heap.size 34 #[.int .i64 B1, .int .i64 B2]) := HK2.out.below HLK.out HK2.out.lt
            have HM3 : Hid (Blk L wc'.heap.size 34 #[.int .i64 C1, .int .i64 C2]) := HK3.out.below HLK.out HK3.out.lt
            have HM4 : Hid (Blk L wd.heap.size 34 #[.int .i64 D1, .int .i64 D2]) := HK4.out.below HLK.out HK4.out.lt
            rcases hF with rfl | rfl
            · obtain ⟨rfl, HA5⟩ : E = 0 ∧ Hid (inS ⟨V1, V2⟩ ⟨A1, A2⟩ = true) := nA.out rfl
              have HB5 : Hid (inS ⟨V3, V4⟩ ⟨B1, B2⟩ = true) := (nB.out rfl).2
              have HC5 : Hid (inS ⟨V5, V6⟩ ⟨C1, C2⟩ = true) := (nC.out rfl).2
              have HD5 : Hid (inS ⟨V7, V8⟩ ⟨D1, D2⟩ = true) := (nD.out rfl).2
              clear hE nA nB nC nD
              by_cases h2 : k = 2
              · have hk2 : ((k : Int) == 2) = true := by rw [h2]; rfl
                have e0 : Hid (V1 = A1) := by have := (HSA.out h2).1; show _ = _; simp at this; exact this.1
                have e1 : Hid (V2 = A2) := by have := (HSA.out h2).1; show _ = _; simp at this; exact this.2
                have e2 : Hid (V3 = B1) := by have := (HSB1.out h2).1; show _ = _; simp at this; exact this.1
                have e3 : Hid (V4 = B2) := by have := (HSB1.out h2).1; show _ = _; simp at this; exact this.2
                have e4 : Hid (V5 = C1) := by have := (HSC.out h2).1; show _ = _; simp at this; exact this.1
                have e5 : Hid (V6 = C2) := by have := (HSC.out h2).1; show _ = _; simp at this; exact this.2
                have e6 : Hid (V7 = D1) := by have := (HSD.out h2).1; show _ = _; simp at this; exact this.1
                have e7 : Hid (V8 = D2) := by have := (HSD.out h2).1; show _ = _; simp at this; exact this.2
                clear h2
                refine HKD.out _ _ (decide_fine2 HM1 HL1 HM2 HL2 HM3 HL3 HM4 HL4 HA5 HB5 HC5 HD5 e0 e1 e2 e3 e4 e5 e6 e7 hk2 rfl (Lib.hid ?_))
                clear hk2
                intro u219 u220 u221 u222 u223 u224 u225 u226 u227 u228 u229 u230 u231 u232 u233 u234 u235 u236 u237 u238 u239 u240 u241 u242 u243 u244 u245 u246 u247 u248 u249 u250 u251 u252 u253 u254 u255 u256 u257 u258 u259 u260 u261 u262 u263 u264 u265 u266 u267 u268 u269 u270 u271 u272 u273 u274 u275 u276 u277 u278 u279 u280 u281 u282 u283 u284 u285 u286 u287 u288 u289 u290 u291 u292 u293 u294 u295 u296 u297 u298 u299 u300 u301 u302 u303 u304 w' hb
                have HBm2 : Hid (Below K2.heap.size K2 w') := HLK.out.trans (hb.mono HLK.out.size)
                clear hb
                go_wp2
                go_roundw
                case rel => exact ⟨k + 1, by go_num, by omega, HBm2.out⟩
                case measure => simp [intOf]; omega
              · have hk2 : ((k : Int) == 2) = false := by simp; omega
                refine HKD.out _ _ (decide_fine HM1 HL1 HM2 HL2 HM3 HL3 HM4 HL4 HA5 HB5 HC5 HD5 hk2 rfl (Lib.hid ?_))
                clear hk2
                intro u219 u220 u221 u222 u223 u224 u225 u226 u227 u228 u229 u230 u231 u232 u233 u234 u235 u236 u237 u238 u239 u240 u241 u242 u243 u244 u245 u246 u247 u248 u249 u250 u251 u252 u253 u254 u255 u256 u257 u258 u259 u260 u261 u262 u263 u264 u265 u266 u267 u268 u269 u270 u271 u272 u273 u274 u275 u276 u277 u278 u279 u280 u281 u282 u283 u284 u285 u286 u287 u288 u289 u290 u291 u292 u293 u294 u295 u296 u297 u298 u299 u300 u301 u302 u303 u304 w' hb
                have HBm2 : Hid (Below K2.heap.size K2 w') := HLK.out.trans (hb.mono HLK.out.size)
                clear hb
                go_wp2
                go_roundw
                case rel => exact ⟨k + 1, by go_num, by omega, HBm2.out⟩
                case measure => simp [intOf]; omega
            · clear nA nB nC nD
              by_cases h2 : k = 2
              · have hk2 : ((k : Int) == 2) = true := by rw [h2]; rfl
                have hFE : E = 10 := (HSA.out h2).2.symm
                subst hFE
                have e0 : Hid (V1 = A1) := by have := (HSA.out h2).1; show _ = _; simp at this; exact this.1
                have e1 : Hid (V2 = A2) := by have := (HSA.out h2).1; show _ = _; simp at this; exact this.2
                have e2 : Hid (V3 = B1) := by have := (HSB1.out h2).1; show _ = _; simp at this; exact this.1
                have e3 : Hid (V4 = B2) := by have := (HSB1.out h2).1; show _ = _; simp at this; exact this.2
                have e4 : Hid (V5 = C1) := by have := (HSC.out h2).1; show _ = _; simp at this; exact this.1
                have e5 : Hid (V6 = C2) := by have := (HSC.out h2).1; show _ = _; simp at this; exact this.2
                have e6 : Hid (V7 = D1) := by have := (HSD.out h2).1; show _ = _; simp at this; exact this.1
                have e7 : Hid (V8 = D2) := by have := (HSD.out h2).1; show _ = _; simp at this; exact this.2
                clear h2 hE
                refine HKD.out _ _ (decide_clash2 HM1 HL1 HM2 HL2 HM3 HL3 HM4 HL4 e0 e1 e2 e3 e4 e5 e6 e7 hk2 rfl (Lib.hid ?_))
                clear hk2
                intro u219 u220 u221 u222 u223 u224 u225 u226 u227 u228 u229 u230 u231 u232 u233 u234 u235 u236 u237 u238 u239 u240 u241 u242 u243 u244 u245 u246 u247 u248 u249 u250 u251 u252 u253 u254 u255 u256 u257 u258 u259 u260 u261 u262 u263 u264 u265 u266 u267 u268 u269 u270 u271 u272 u273 u274 u275 u276 u277 u278 u279 u280 u281 u282 u283 u284 u285 u286 u287 u288 u289 u290 u291 u292 u293 u294 u295 u296 u297 u298 u299 u300 u301 u302 u303 u304 w' hb
                have HBm2 : Hid (Below K2.heap.size K2 w') := HLK.out.trans (hb.mono HLK.out.size)
                clear hb
                go_wp2
                go_roundw
                case rel => exact ⟨k + 1, by go_num, by omega, HBm2.out⟩
                case measure => simp [intOf]; omega
              · have hk2 : ((k : Int) == 2) = false := by simp; omega
                rcases hE with rfl | rfl
                · refine HKD.out _ _ (decide_clash0 HM1 HL1 HM2 HL2 HM3 HL3 HM4 HL4 hk2 rfl (Lib.hid ?_))
                  clear hk2
                  intro u219 u220 u221 u222 u223 u224 u225 u226 u227 u228 u229 u230 u231 u232 u233 u234 u235 u236 u237 u238 u239 u240 u241 u242 u243 u244 u245 u246 u247 u248 u249 u250 u251 u252 u253 u254 u255 u256 u257 u258 u259 u260 u261 u262 u263 u264 u265 u266 u267 u268 u269 u270 u271 u272 u273 u274 u275 u276 u277 u278 u279 u280 u281 u282 u283 u284 u285 u286 u287 u288 u289 u290 u291 u292 u293 u294 u295 u296 u297 u298 u299 u300 u301 u302 u303 u304 w' hb
                  have HBm2 : Hid (Below K2.heap.size K2 w') := HLK.out.trans (hb.mono HLK.out.size)
                  clear hb
                  go_wp2
                  go_roundw
                  case rel => exact ⟨k + 1, by go_num, by omega, HBm2.out⟩
                  case measure => simp [intOf]; omega
                · refine HKD.out _ _ (decide_clash HM1 HL1 HM2 HL2 HM3 HL3 HM4 HL4 hk2 rfl (Lib.hid ?_))
                  clear hk2
                  intro u219 u220 u221 u222 u223 u224 u225 u226 u227 u228 u229 u230 u231 u232 u233 u234 u235 u236 u237 u238 u239 u240 u241 u242 u243 u244 u245 u246 u247 u248 u249 u250 u251 u252 u253 u254 u255 u256 u257 u258 u259 u260 u261 u262 u263 u264 u265 u266 u267 u268 u269 u270 u271 u272 u273 u274 u275 u276 u277 u278 u279 u280 u281 u282 u283 u284 u285 u286 u287 u288 u289 u290 u291 u292 u293 u294 u295 u296 u297 u298 u299 u300 u301 u302 u303 u304 w' hb
                  have HBm2 : Hid (Below K2.heap.size K2 w') := HLK.out.trans (hb.mono HLK.out.size)
                  clear hb
                  go_wp2
                  go_roundw
                  case rel => exact ⟨k + 1, by go_num, by omega, HBm2.out⟩
                  case measure => simp [intOf]; omega
          · rw [Bool.not_eq_true] at hvv
            rw [hvv]
            go_wp2
            go_roundw
            case rel => exact ⟨k + 1, by go_num, by omega, HKR.out _ HBe.out⟩
            case measure => simp [intOf]; omega
        · obtain rfl : k = 3 := by omega
          have HBq : Hid (Below K.heap.size K wr) := HBK.out.trans (HBR.out.mono HBK.out.size)
          have HPT : Hid (∀ wv, Below K.heap.size K wv → PayIn wv wv.heap.size people (some ⟨gt1, 0, none⟩) rl (some ⟨gt2, 0, none⟩) cl rate bill (some ⟨gt3, 0, none⟩) dl (some ⟨gt4, 0, none⟩) pl (turnP p)) := fun wv hb =>
            ((HS2I.out _ _).1 (HSB.out wv hb)).2.2.2.1.payOf (by omega) (by omega) (by omega) (by omega) HPE.out HRL.out (by show (p.calls.map _).length = cl; rw [List.length_map]; exact HCL.out) HP.out.erate HP.out.ebill HP.out.edl HP.out.epl
          have HPK : Hid (∀ wv, Below K.heap.size K wv → PayIn wv wv.heap.size people (some ⟨k1', 0, none⟩) rl (some ⟨k2', 0, none⟩) cl rate bill (some ⟨k3', 0, none⟩) dl (some ⟨k4', 0, none⟩) pl p) := fun wv hb =>
            (HOK.out.below hb).payOf (by omega) (by omega) (by omega) (by omega) HPE.out HRL.out HCL.out HP.out.erate HP.out.ebill HP.out.edl HP.out.epl
          have HFK : Hid (∀ wv, Below K.heap.size K wv → wv.cell? ⟨wk.heap.size, 1, none⟩ = some (.slice (some ⟨k1', 0, none⟩) rl ck1) ∧ wv.cell? ⟨wk.heap.size, 2, none⟩ = some (.slice (some ⟨k2', 0, none⟩) cl ck2) ∧
              wv.cell? ⟨wk.heap.size, 5, none⟩ = some (.slice (some ⟨k3', 0, none⟩) dl ck3) ∧ wv.cell? ⟨wk.heap.size, 6, none⟩ = some (.slice (some ⟨k4', 0, none⟩) pl ck4) ∧ wk.heap.size < wv.heap.size) := fun wv hb => by
            have h := HKB.out.below hb HKB.out.lt
            exact ⟨h.cell 1, h.cell 2, h.cell 5, h.cell 6, h.lt⟩
          have HWT : Hid (whoB (turnP p) (people - 1 - who) = true) := whoB_in (by omega) (by show people - 1 - who < p.people; rw [HPE.out]; omega)
          have HTA : Hid (spanR (checkE (turnP p) (whoB (turnP p) (people - 1 - who) && runB (turnP p) run) true) (sheepS (turnP p) (people - 1 - who) run) = (⟨A1, A2⟩, E)) :=
            turn_ans HV.out (show (whoB p who && runB p run) = true by rw [HWB.out, HRB.out]; rfl) (show (whoB (turnP p) (people - 1 - who) && runB p run) = true by rw [HWT.out, HRB.out]; rfl) HAA.out (by have := sheep_turn HV.out who run; rw [HPE.out] at this; exact this)
          have HTB : Hid (spanR (checkE (turnP p) (whoB (turnP p) (people - 1 - who)) true) (wagesP (turnP p) (people - 1 - who)) = (⟨B1, B2⟩, E)) :=
            turn_ans HV.out HWB.out HWT.out HAB.out (by have := wages_turn HV.out who; rw [HPE.out] at this; exact this)
          have HX : Hid (∀ wv, Below K.heap.size K wv → wv.cell? ⟨X4, 0, none⟩ = some (.int .i64 people) ∧ wv.cell? ⟨X4, 1, none⟩ = some (.slice (some ⟨gt1, 0, none⟩) rl ct1) ∧ wv.cell? ⟨X4, 2, none⟩ = some (.slice (some ⟨gt2, 0, none⟩) cl ct2) ∧
              wv.cell? ⟨X4, 3, none⟩ = some (.int .i64 rate) ∧ wv.cell? ⟨X4, 4, none⟩ = some (.int .i64 bill) ∧ wv.cell? ⟨X4, 5, none⟩ = some (.slice (some ⟨gt3, 0, none⟩) dl ct3) ∧ wv.cell? ⟨X4, 6, none⟩ = some (.slice (some ⟨gt4, 0, none⟩) pl ct4) ∧ X4 < wv.heap.size) := fun wv hb => HX4.out _ _ (HSB.out wv hb)
          have HLE : Hid (rl ≤ 4 ∧ cl ≤ 12 ∧ dl ≤ 4 ∧ pl ≤ 8) := ⟨by omega, by omega, by omega, by omega⟩
          have HA : Hid (Blk wr wa.heap.size 34 #[.int .i64 A1, .int .i64 A2]) := HK1.out.below HBR.out HK1.out.lt
          have HBb : Hid (Blk wr wb.heap.size 34 #[.int .i64 B1, .int .i64 B2]) := HK2.out.below HBR.out HK2.out.lt
          have hsz2 := HBR.out.size
          go_wp2_with fail
          exact HK18.out _ _ (more_t18 HF3 HPB2 HPK HFK HRK HLE HBq HX HPT HTA HTB HA HBb who0 who1 a2)
end
end Go.Proofs.YtlcolpnniipgbaaDoor
