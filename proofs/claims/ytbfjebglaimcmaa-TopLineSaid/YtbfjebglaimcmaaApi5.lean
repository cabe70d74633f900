/- The walk of Most: for every press. -/
import Derived.Test.YtbfjebglaimcmaaPlan3w
namespace Go.Proofs.Ytbfjebglaimcmaa
open Go.RowKit Go.Hav Go.Shelf
/-- What Most returns. -/
def mostR (p : PressD) : Value := if planE p = 0 then .tuple #[.int .i64 (pops (planP p)), .int .i64 (planP p).length, .int .i64 0] else .tuple #[.int .i64 0, .int .i64 0, .int .i64 (planE p)]
theorem pops_take {L : List Nat} {k s : Nat} (hs : L[k]? = some s) : pops (L.take (k + 1)) = pops (L.take k) + pop s 10 := by
  rw [List.take_add_one, hs]
  simp [pops]
theorem pops_take_bd {L : List Nat} : ∀ k, 0 ≤ pops (L.take k) ∧ pops (L.take k) ≤ pops L := by
  intro k
  have h1 := pops_nonneg (L.take k)
  have h2 := pops_nonneg (L.drop k)
  have h3 : pops L = pops (L.take k) + pops (L.drop k) := by
    conv => lhs; rw [← List.take_append_drop k L]
    unfold pops
    rw [List.map_append, List.sum_append]
  omega
section
variable {low top bales : Int} {fa wa : Option Addr} {fl fc wl wc : Nat} {p : PressD}
set_option maxRecDepth 100000 in
set_option maxHeartbeats 6400000 in
theorem PMost_err (w : World) (hP : PressIn w w.heap.size fa fl low top bales wa wl p) (h : planE p ≠ 0) :
    Calls Try.prog 22 #[pressV fa fl fc low top bales wa wl wc] w fun e w' => e = .returned (mostR p) ∧ Below w.heap.size w w' := by
  have HR : Hid (mostR p = .tuple #[.int .i64 0, .int .i64 0, .int .i64 (planE p)]) := by show _ = _; simp [mostR, h]
  cases hv : p.ok
  · have HV := Lib.hid hv
    have HE : Hid (planE p = 1) := by show _ = _; simp [planE, hv]
    clear hv h
    have HP := Lib.hid hP
    have HL : Hid (fl ≤ 9223372036854775807 ∧ wl ≤ 9223372036854775807) := ⟨hP.mfl, hP.mwl⟩
    have HEQ : Hid (p.n = fl ∧ p.bales = bales) := ⟨hP.efl, hP.ebales⟩
    have EG := Lib.hid (enters_of Try.func69 (by kernel_rfl) rfl)
    clear hP
    unfold pressV
    go_enter_defers Try.func22, Try.ntmps22
    go_wp2_with fail
    obtain ⟨W, hW⟩ : ∃ W, W = (w.alloc (Obj.cells #[Value.slice fa fl fc, Value.int IntKind.i64 low, Value.int IntKind.i64 top, Value.int IntKind.i64 bales, Value.slice wa wl wc] 25)).alloc (.cells #[.int .i64 0] 30) := ⟨_, rfl⟩
    have HBE : Hid (Blk W (w.heap.size + 1) 30 #[.int .i64 0]) := by rw [hW]; exact Blk.new_ (by simp) _ _
    have HBW : Hid (Below w.heap.size w W) := by rw [hW]; exact ((Below.refl w.heap.size w).alloc (by simp) _).alloc (by simp) _
    have HBX : Hid (Blk W w.heap.size 25 #[Value.slice fa fl fc, Value.int IntKind.i64 low, Value.int IntKind.i64 top, Value.int IntKind.i64 bales, Value.slice wa wl wc]) := by rw [hW]; exact (Blk.new w 25 _).alloc _
    rw [← hW]
    clear hW
    refine (open_bad (p := p) _ W (by exact HP.out.grow HBW.out) HV.out).mono ?_
    rintro e w1 ⟨rfl, hb1⟩
    have HB1 := Lib.hid hb1
    clear hb1
    go_wp2
    refine end_panic (w0 := w) (b := w.heap.size + 1) rfl (HBE.out.below HB1.out HBE.out.lt) (v := .tuple #[.int .i64 0, .int .i64 0, .int .i64 1]) (fun w' hk _ => ?_) (by omega) (HBW.out.trans (HB1.out.mono HBW.out.size)) (fun w' h => ⟨by rw [HR.out, HE.out], h⟩)
    have g0 := hk.cell 0
    simp [results, Try.results22, go_sem, g0]
  · have HV := Lib.hid hv
    have ht : p.wrong ≠ 0 := fun e => h (by simp [planE, hv, e])
    have HT := Lib.hid ht
    have HE : Hid (planE p = 10) := by show _ = _; simp [planE, hv, ht]
    clear hv h ht
    have HP := Lib.hid hP
    have HL : Hid (fl ≤ 9223372036854775807 ∧ wl ≤ 9223372036854775807) := ⟨hP.mfl, hP.mwl⟩
    have HEQ : Hid (p.n = fl ∧ p.bales = bales) := ⟨hP.efl, hP.ebales⟩
    have EG := Lib.hid (enters_of Try.func69 (by kernel_rfl) rfl)
    clear hP
    unfold pressV
    go_enter_defers Try.func22, Try.ntmps22
    go_wp2_with fail
    obtain ⟨W, hW⟩ : ∃ W, W = (w.alloc (Obj.cells #[Value.slice fa fl fc, Value.int IntKind.i64 low, Value.int IntKind.i64 top, Value.int IntKind.i64 bales, Value.slice wa wl wc] 25)).alloc (.cells #[.int .i64 0] 30) := ⟨_, rfl⟩
    have HBE : Hid (Blk W (w.heap.size + 1) 30 #[.int .i64 0]) := by rw [hW]; exact Blk.new_ (by simp) _ _
    have HBW : Hid (Below w.heap.size w W) := by rw [hW]; exact ((Below.refl w.heap.size w).alloc (by simp) _).alloc (by simp) _
    have HBX : Hid (Blk W w.heap.size 25 #[Value.slice fa fl fc, Value.int IntKind.i64 low, Value.int IntKind.i64 top, Value.int IntKind.i64 bales, Value.slice wa wl wc]) := by rw [hW]; exact (Blk.new w 25 _).alloc _
    rw [← hW]
    clear hW
    refine (open_fine (p := p) 69 #[] EG.out W (by exact HP.out.grow HBW.out) HV.out (isShed_always _)).mono ?_
    rintro e w1 ⟨d, r, ga, rfl, hS, hm, hr, hb1⟩
    have HS := Lib.hid hS
    have HM := Lib.hid hm
    have HB1 := Lib.hid hb1
    have HLR := Lib.hid hr
    have HRD := Lib.hid hS.hd
    clear hb1 hS hm hr
    go_wp2_with fail
    refine (told_any HV.out _ (HS.out.shed HL.out.1 HL.out.2)).mono ?_
    rw [if_neg HT.out]
    rintro e w2 ⟨rfl, hb2⟩
    have HB2 : Hid (Below W.heap.size W w2) := HB1.out.trans (hb2.mono HB1.out.size)
    clear hb2
    go_wp2
    refine end_panic (w0 := w) (b := w.heap.size + 1) rfl (HBE.out.below HB2.out HBE.out.lt) (v := .tuple #[.int .i64 0, .int .i64 0, .int .i64 10]) (fun w' hk _ => ?_) (by omega) (HBW.out.trans (HB2.out.mono HBW.out.size)) (fun w' h => ⟨by rw [HR.out, HE.out], h⟩)
    have g0 := hk.cell 0
    simp [results, Try.results22, go_sem, g0]
set_option maxRecDepth 100000 in
set_option maxHeartbeats 6400000 in
theorem PMost_ok (w : World) (hP : PressIn w w.heap.size fa fl low top bales wa wl p) (h : planE p = 0) :
    Calls Try.prog 22 #[pressV fa fl fc low top bales wa wl wc] w fun e w' => e = .returned (mostR p) ∧ Below w.heap.size w w' := by
  have hv : p.ok = true := by cases hv : p.ok <;> simp [planE, hv] at h ⊢
  have ht : p.wrong = 0 := by by_cases e : p.wrong = 0 <;> simp [planE, hv, e] at h ⊢
  have HR : Hid (mostR p = .tuple #[.int .i64 (pops (planP p)), .int .i64 (planP p).length, .int .i64 0]) := by show _ = _; simp [mostR, h]
  have HV := Lib.hid hv
  have HT := Lib.hid ht
  clear hv ht h
  have HP := Lib.hid hP
  have HL : Hid (fl ≤ 9223372036854775807 ∧ wl ≤ 9223372036854775807) := ⟨hP.mfl, hP.mwl⟩
  have HEQ : Hid (p.n = fl ∧ p.bales = bales) := ⟨hP.efl, hP.ebales⟩
  have EG := Lib.hid (enters_of Try.func69 (by kernel_rfl) rfl)
  clear hP
  unfold pressV
  go_enter_defers Try.func22, Try.ntmps22
  go_wp2_with fail
  obtain ⟨W, hW⟩ : ∃ W, W = (w.alloc (Obj.cells #[Value.slice fa fl fc, Value.int IntKind.i64 low, Value.int IntKind.i64 top, Value.int IntKind.i64 bales, Value.slice wa wl wc] 25)).alloc (.cells #[.int .i64 0] 30) := ⟨_, rfl⟩
  have HBE : Hid (Blk W (w.heap.size + 1) 30 #[.int .i64 0]) := by rw [hW]; exact Blk.new_ (by simp) _ _
  have HBW : Hid (Below w.heap.size w W) := by rw [hW]; exact ((Below.refl w.heap.size w).alloc (by simp) _).alloc (by simp) _
  have HBX : Hid (Blk W w.heap.size 25 #[Value.slice fa fl fc, Value.int IntKind.i64 low, Value.int IntKind.i64 top, Value.int IntKind.i64 bales, Value.slice wa wl wc]) := by rw [hW]; exact (Blk.new w 25 _).alloc _
  rw [← hW]
  clear hW
  refine (open_fine (p := p) 69 #[] EG.out W (by exact HP.out.grow HBW.out) HV.out (isShed_always _)).mono ?_
  rintro e w1 ⟨d, r, ga, rfl, hS, hm, hr, hb1⟩
  have HS := Lib.hid hS
  have HM := Lib.hid hm
  have HB1 := Lib.hid hb1
  have HLR := Lib.hid hr
  have HRD := Lib.hid hS.hd
  clear hb1 hS hm hr
  go_wp2_with fail
  refine (told_any HV.out _ (HS.out.shed HL.out.1 HL.out.2)).mono ?_
  rw [if_pos HT.out]
  rintro e w2 ⟨rfl, hb2⟩
  have HB2 := Lib.hid hb2
  clear hb2
  go_wp2_with fail
  refine (ready2_any HV.out HL.out.2 w2 (HS.out.grow HB2.out) (((HB2.out.block r (by have := HS.out.blk.lt; have := HRD.out; omega))).trans HM.out)).mono ?_
  rintro e w3 ⟨rfl, hp3, hf3⟩
  have HP3 := Lib.hid hp3
  have HF3 := Lib.hid hf3
  clear hp3 hf3
  go_wp2_with fail
  refine (plan2_any HV.out HEQ.out.1 HEQ.out.2 w3 HP3.out).mono ?_
  rintro e w4 ⟨A, c, rfl, hrd, hgl, hf4⟩
  have HBW4 : Hid (Below W.heap.size W w4) := by
    have a1 := HB1.out.size
    have a2 := HB2.out.size
    have a3 := HF3.out.size
    have a4 := HLR.out
    have a5 := HRD.out
    exact HB1.out.trans ((HB2.out.mono a1).trans ((HF3.out.toBelow (by omega) (by omega) (by omega)).trans (hf4.toBelow (by omega) (by omega) (by omega))))
  have HRL := Lib.hid hrd
  have HGL : Hid (∀ g, (Value.slice A (planP p).length c).ownBlock = some g → W.heap.size ≤ g) := fun g hg => by
    have a1 := HB1.out.size
    have a2 := HB2.out.size
    have a3 := HF3.out.size
    have := hgl g hg
    omega
  have HE4 : Hid (Blk w4 (w.heap.size + 1) 30 #[.int .i64 0]) := HBE.out.below HBW4.out HBE.out.lt
  have HB4 : Hid (Below w.heap.size w w4) := HBW.out.trans (HBW4.out.mono HBW.out.size)
  have HX4 : Hid (Blk w4 w.heap.size 25 #[Value.slice fa fl fc, Value.int IntKind.i64 low, Value.int IntKind.i64 top, Value.int IntKind.i64 bales, Value.slice wa wl wc]) := HBX.out.below HBW4.out HBX.out.lt
  clear hrd hgl hf4
  obtain ⟨b1, b2, b3, b4⟩ := planP_bd HV.out
  have HSL := Lib.hid b2
  clear b2
  obtain ⟨L, hL⟩ : ∃ L, planP p = L := ⟨_, rfl⟩
  rw [hL] at b1 b3 b4 HSL HRL HGL HR
  rw [hL]
  obtain ⟨n, hn⟩ : ∃ n, L.length = n := ⟨_, rfl⟩
  have HLN := Lib.hid hn
  rw [hn] at b1 HR
  rw [hn]
  clear hL hn
  have HBD := Lib.hid (pops_take_bd (L := L))
  go_wp2
  go_loopw [6, 16] (fun s i wr => ∃ (k : Nat) (t : Int), k ≤ n ∧ i = .int .i64 k ∧ s = .int .i64 t ∧ Hid (t = pops (L.take k)) ∧ wr = w4) (fun _ i _ => n - (intOf i).toNat)
  case atStart => exact ⟨0, 0, Nat.zero_le _, rfl, rfl, by show _ = _; simp [pops], rfl⟩
  case round =>
    obtain ⟨k, t, hk, rfl, rfl, HT1, rfl⟩ := hrel
    have ht0 : 0 ≤ t ∧ t ≤ 10 := by have := HBD.out k; rw [← HT1.out] at this; omega
    obtain ⟨ht0, ht1⟩ := ht0
    by_cases hlt : k < n
    · obtain ⟨s, hs⟩ : ∃ s, L[k]? = some s := ⟨L[k]'(by have := HLN.out; omega), by simp⟩
      have hs10 := (HSL.out s (List.mem_of_getElem? hs)).2.2
      have HTN : Hid (pops (L.take (k + 1)) = t + pop s 10) := by show _ = _; rw [pops_take hs, ← HT1.out]
      obtain ⟨gb, off, hsa, hbl, H0⟩ := rd_un HRL.out k s hs
      subst hsa
      have hp := pop_bd s 10
      clear hs
      go_wp2_with fail
      refine (ones_any s hs10 _).mono ?_
      rintro e w' ⟨rfl, rfl⟩
      go_wp2
      go_roundw
      case rel => exact ⟨k + 1, t + pop s 10, by omega, by go_num, rfl, HTN.out.symm, trivial⟩
      case measure => simp [intOf]; omega
    · obtain rfl : n = k := by omega
      have HTE : Hid (t = pops L) := by show _ = _; rw [HT1.out, ← HLN.out, List.take_length]
      have k0 : wr.cell? ⟨w.heap.size + 1, 0, none⟩ = some (.int .i64 0) := HE4.out.cell 0
      have f0 : wr.frozen? ⟨w.heap.size + 1, 0, none⟩ = false := HE4.out.frozen 0
      go_wp2
      have g0 := (HE4.out.set_ 0 (.int .i64 0)).cell 0
      simp at g0
      exact api_returns (b := w.heap.size + 1) rfl (v := .tuple #[.int .i64 t, .int .i64 n, .int .i64 0]) (by simp [results, Try.results22, go_sem, g0]) ⟨by rw [HR.out, HTE.out], setCell_below HB4.out (by omega) 0 _⟩
theorem PMost_any (w : World) (hP : PressIn w w.heap.size fa fl low top bales wa wl p) : Calls Try.prog 22 #[pressV fa fl fc low top bales wa wl wc] w fun e w' => e = .returned (mostR p) ∧ Below w.heap.size w w' := by
  by_cases h : planE p = 0
  · exact PMost_ok w hP h
  · exact PMost_err w hP h
end
end Go.Proofs.Ytbfjebglaimcmaa
