/- The walk of Plan: for every press. -/
import Derived.Test.YtbfjebglaimcmaaApi5
namespace Go.Proofs.Ytbfjebglaimcmaa
open Go.RowKit Go.Hav Go.Shelf
def intZ (L : List Nat) : List Int := L.map (fun s : Nat => (s : Int))
theorem intZ_len (L : List Nat) : (intZ L).length = L.length := by simp [intZ]
/-- What Plan returns. -/
def intsP (p : PressD) : List Int := if planE p = 0 then intZ (planP p) else []
theorem Try.infoE3 : (Try.prog.info? 3).map (fun i => (i.zero, i.size, i.bytes)) = some (some (.int .i64 0), 1, 8) := by kernel_rfl
theorem own_nil (w : World) (B e size : Nat) : w.ownsRow B e size (.slice none 0 0) 0 [] := ⟨by simp, .inl ⟨rfl, rfl⟩⟩
section
variable {low top bales : Int} {fa wa : Option Addr} {fl fc wl wc : Nat} {p : PressD}
set_option maxRecDepth 100000 in
set_option maxHeartbeats 6400000 in
theorem PPlan_err (w : World) (hP : PressIn w w.heap.size fa fl low top bales wa wl p) (h : planE p ≠ 0) :
    Calls Try.prog 24 #[pressV fa fl fc low top bales wa wl wc] w fun e w' => e = .returned (.tuple #[.slice none 0 0, .int .i64 (planE p)]) ∧ Below w.heap.size w w' := by
  cases hv : p.ok
  · have HV := Lib.hid hv
    have HE : Hid (planE p = 1) := by show _ = _; simp [planE, hv]
    clear hv h
    have HP := Lib.hid hP
    have HL : Hid (fl ≤ 9223372036854775807 ∧ wl ≤ 9223372036854775807) := ⟨hP.mfl, hP.mwl⟩
    have HEQ : Hid (p.n = fl ∧ p.bales = bales) := ⟨hP.efl, hP.ebales⟩
    have EG := Lib.hid (enters_of Try.func69 (by kernel_rfl) rfl)
    clear hP
    unfold pressV
    go_enter_defers Try.func24, Try.ntmps24
    go_wp2_with fail
    obtain ⟨W, hW⟩ : ∃ W, W = (w.alloc (Obj.cells #[Value.slice fa fl fc, Value.int IntKind.i64 low, Value.int IntKind.i64 top, Value.int IntKind.i64 bales, Value.slice wa wl wc] 25)).alloc (.cells #[.int .i64 0] 30) := ⟨_, rfl⟩
    have HBE : Hid (Blk W (w.heap.size + 1) 30 #[.int .i64 0]) := by rw [hW]; exact Blk.new_ (by simp) _ _
    have HBW : Hid (Below w.heap.size w W) := by rw [hW]; exact ((Below.refl w.heap.size w).alloc (by simp) _).alloc (by simp) _
    have HBX : Hid (Blk W w.heap.size 25 #[Value.slice fa fl fc, Value.int IntKind.i64 low, Value.int IntKind.i64 top, Value.int IntKind.i64 bales, Value.slice wa wl wc]) := by rw [hW]; exact (Blk.new w 25 _).alloc _
    rw [← hW]
    clear hW
    refine (open_bad (p := p) _ W (by exact HP.out.grow HBW.out) HV.out).mono ?_
    rintro e w1 ⟨rfl, hb1⟩
    have HB1 := Lib.hid hb1
    clear hb1
    go_wp2
    refine end_panic (w0 := w) (b := w.heap.size + 1) rfl (HBE.out.below HB1.out HBE.out.lt) (v := .tuple #[.slice none 0 0, .int .i64 1]) (fun w' hk _ => ?_) (by omega) (HBW.out.trans (HB1.out.mono HBW.out.size)) (fun w' h => ⟨by rw [HE.out], h⟩)
    have g0 := hk.cell 0
    simp [results, Try.results24, go_sem, g0]
  · have HV := Lib.hid hv
    have ht : p.wrong ≠ 0 := fun e => h (by simp [planE, hv, e])
    have HT := Lib.hid ht
    have HE : Hid (planE p = 10) := by show _ = _; simp [planE, hv, ht]
    clear hv h ht
    have HP := Lib.hid hP
    have HL : Hid (fl ≤ 9223372036854775807 ∧ wl ≤ 9223372036854775807) := ⟨hP.mfl, hP.mwl⟩
    have HEQ : Hid (p.n = fl ∧ p.bales = bales) := ⟨hP.efl, hP.ebales⟩
    have EG := Lib.hid (enters_of Try.func69 (by kernel_rfl) rfl)
    clear hP
    unfold pressV
    go_enter_defers Try.func24, Try.ntmps24
    go_wp2_with fail
    obtain ⟨W, hW⟩ : ∃ W, W = (w.alloc (Obj.cells #[Value.slice fa fl fc, Value.int IntKind.i64 low, Value.int IntKind.i64 top, Value.int IntKind.i64 bales, Value.slice wa wl wc] 25)).alloc (.cells #[.int .i64 0] 30) := ⟨_, rfl⟩
    have HBE : Hid (Blk W (w.heap.size + 1) 30 #[.int .i64 0]) := by rw [hW]; exact Blk.new_ (by simp) _ _
    have HBW : Hid (Below w.heap.size w W) := by rw [hW]; exact ((Below.refl w.heap.size w).alloc (by simp) _).alloc (by simp) _
    have HBX : Hid (Blk W w.heap.size 25 #[Value.slice fa fl fc, Value.int IntKind.i64 low, Value.int IntKind.i64 top, Value.int IntKind.i64 bales, Value.slice wa wl wc]) := by rw [hW]; exact (Blk.new w 25 _).alloc _
    rw [← hW]
    clear hW
    refine (open_fine (p := p) 69 #[] EG.out W (by exact HP.out.grow HBW.out) HV.out (isShed_always _)).mono ?_
    rintro e w1 ⟨d, r, ga, rfl, hS, hm, hr, hb1⟩
    have HS := Lib.hid hS
    have HM := Lib.hid hm
    have HB1 := Lib.hid hb1
    have HLR := Lib.hid hr
    have HRD := Lib.hid hS.hd
    clear hb1 hS hm hr
    go_wp2_with fail
    refine (told_any HV.out _ (HS.out.shed HL.out.1 HL.out.2)).mono ?_
    rw [if_neg HT.out]
    rintro e w2 ⟨rfl, hb2⟩
    have HB2 : Hid (Below W.heap.size W w2) := HB1.out.trans (hb2.mono HB1.out.size)
    clear hb2
    go_wp2
    refine end_panic (w0 := w) (b := w.heap.size + 1) rfl (HBE.out.below HB2.out HBE.out.lt) (v := .tuple #[.slice none 0 0, .int .i64 10]) (fun w' hk _ => ?_) (by omega) (HBW.out.trans (HB2.out.mono HBW.out.size)) (fun w' h => ⟨by rw [HE.out], h⟩)
    have g0 := hk.cell 0
    simp [results, Try.results24, go_sem, g0]
theorem take_map_succ {L : List Nat} {k s : Nat} (hs : L[k]? = some s) : ((intZ L).take (k + 1)).flatMap inF = ((intZ L).take k).flatMap inF ++ [.int .i64 s] := by
  rw [List.take_add_one]
  simp [intZ, hs, inF]
set_option maxRecDepth 100000 in
set_option maxHeartbeats 6400000 in
theorem PPlan_ok (w : World) (hP : PressIn w w.heap.size fa fl low top bales wa wl p) (h : planE p = 0) :
    Calls Try.prog 24 #[pressV fa fl fc low top bales wa wl wc] w fun e w' => ∃ v, e = .returned (.tuple #[v, .int .i64 0]) ∧ w'.ownsRow w.heap.size 3 1 v (planP p).length ((intZ (planP p)).flatMap inF) ∧ Below w.heap.size w w' := by
  have hv : p.ok = true := by cases hv : p.ok <;> simp [planE, hv] at h ⊢
  have ht : p.wrong = 0 := by by_cases e : p.wrong = 0 <;> simp [planE, hv, e] at h ⊢
  have HV := Lib.hid hv
  have HT := Lib.hid ht
  clear hv ht h
  have HP := Lib.hid hP
  have HL : Hid (fl ≤ 9223372036854775807 ∧ wl ≤ 9223372036854775807) := ⟨hP.mfl, hP.mwl⟩
  have HEQ : Hid (p.n = fl ∧ p.bales = bales) := ⟨hP.efl, hP.ebales⟩
  have EG := Lib.hid (enters_of Try.func69 (by kernel_rfl) rfl)
  clear hP
  unfold pressV
  go_enter_defers Try.func24, Try.ntmps24
  go_wp2_with fail
  obtain ⟨W, hW⟩ : ∃ W, W = (w.alloc (Obj.cells #[Value.slice fa fl fc, Value.int IntKind.i64 low, Value.int IntKind.i64 top, Value.int IntKind.i64 bales, Value.slice wa wl wc] 25)).alloc (.cells #[.int .i64 0] 30) := ⟨_, rfl⟩
  have HBE : Hid (Blk W (w.heap.size + 1) 30 #[.int .i64 0]) := by rw [hW]; exact Blk.new_ (by simp) _ _
  have HBW : Hid (Below w.heap.size w W) := by rw [hW]; exact ((Below.refl w.heap.size w).alloc (by simp) _).alloc (by simp) _
  have HBX : Hid (Blk W w.heap.size 25 #[Value.slice fa fl fc, Value.int IntKind.i64 low, Value.int IntKind.i64 top, Value.int IntKind.i64 bales, Value.slice wa wl wc]) := by rw [hW]; exact (Blk.new w 25 _).alloc _
  rw [← hW]
  clear hW
  refine (open_fine (p := p) 69 #[] EG.out W (by exact HP.out.grow HBW.out) HV.out (isShed_always _)).mono ?_
  rintro e w1 ⟨d, r, ga, rfl, hS, hm, hr, hb1⟩
  have HS := Lib.hid hS
  have HM := Lib.hid hm
  have HB1 := Lib.hid hb1
  have HLR := Lib.hid hr
  have HRD := Lib.hid hS.hd
  clear hb1 hS hm hr
  go_wp2_with fail
  refine (told_any HV.out _ (HS.out.shed HL.out.1 HL.out.2)).mono ?_
  rw [if_pos HT.out]
  rintro e w2 ⟨rfl, hb2⟩
  have HB2 := Lib.hid hb2
  clear hb2
  go_wp2_with fail
  refine (ready2_any HV.out HL.out.2 w2 (HS.out.grow HB2.out) (((HB2.out.block r (by have := HS.out.blk.lt; have := HRD.out; omega))).trans HM.out)).mono ?_
  rintro e w3 ⟨rfl, hp3, hf3⟩
  have HP3 := Lib.hid hp3
  have HF3 := Lib.hid hf3
  clear hp3 hf3
  go_wp2_with fail
  refine (plan2_any HV.out HEQ.out.1 HEQ.out.2 w3 HP3.out).mono ?_
  rintro e w4 ⟨A, c, rfl, hrd, hgl, hf4⟩
  have HBW4 : Hid (Below W.heap.size W w4) := by
    have a1 := HB1.out.size
    have a2 := HB2.out.size
    have a3 := HF3.out.size
    have a4 := HLR.out
    have a5 := HRD.out
    exact HB1.out.trans ((HB2.out.mono a1).trans ((HF3.out.toBelow (by omega) (by omega) (by omega)).trans (hf4.toBelow (by omega) (by omega) (by omega))))
  have HRL := Lib.hid hrd
  have HGL : Hid (∀ g, (Value.slice A (planP p).length c).ownBlock = some g → W.heap.size ≤ g) := fun g hg => by
    have a1 := HB1.out.size
    have a2 := HB2.out.size
    have a3 := HF3.out.size
    have := hgl g hg
    omega
  have HE4 : Hid (Blk w4 (w.heap.size + 1) 30 #[.int .i64 0]) := HBE.out.below HBW4.out HBE.out.lt
  have HB4 : Hid (Below w.heap.size w w4) := HBW.out.trans (HBW4.out.mono HBW.out.size)
  have HX4 : Hid (Blk w4 w.heap.size 25 #[Value.slice fa fl fc, Value.int IntKind.i64 low, Value.int IntKind.i64 top, Value.int IntKind.i64 bales, Value.slice wa wl wc]) := HBX.out.below HBW4.out HBX.out.lt
  clear hrd hgl hf4
  obtain ⟨b1, b2, b3, b4⟩ := planP_bd HV.out
  have HSL := Lib.hid b2
  clear b2 b3 b4
  obtain ⟨L, hL⟩ : ∃ L, planP p = L := ⟨_, rfl⟩
  have HLP := Lib.hid hL
  rw [hL] at b1 HSL HRL HGL
  rw [hL]
  obtain ⟨n, hn⟩ : ∃ n, L.length = n := ⟨_, rfl⟩
  have HLN := Lib.hid hn
  rw [hn] at b1
  rw [hn]
  clear hL hn
  obtain ⟨i0, hi, hz0, hz1, hz2'⟩ := info_parts Try.infoE3
  have HI := Lib.hid hi
  have HI0 := Lib.hid hz0
  have HI1 := Lib.hid hz1
  have HI2 := Lib.hid hz2'
  clear hi hz0 hz1 hz2'
  go_wp2
  go_loopw [4, 13] (fun v i wr => ∃ k : Nat, k ≤ n ∧ i = .int .i64 k ∧ wr.ownsRow w4.heap.size 3 1 v k (((intZ L).take k).flatMap inF) ∧ Below w4.heap.size w4 wr) (fun _ i _ => n - (intOf i).toNat)
  case atStart => exact ⟨0, Nat.zero_le _, rfl, own_nil _ _ _ _, Below.refl _ _⟩
  case round =>
    obtain ⟨k, hk, rfl, hown, hb⟩ := hrel
    have HO := Lib.hid hown
    have HB := Lib.hid hb
    clear hown hb
    by_cases hlt : k < n
    · obtain ⟨s, hs⟩ : ∃ s, L[k]? = some s := ⟨L[k]'(by have := HLN.out; omega), by simp⟩
      have hs10 := (HSL.out s (List.mem_of_getElem? hs)).2.2
      have HTN := Lib.hid (take_map_succ hs)
      obtain ⟨gb, off, hsa, hbl, H0⟩ := rd_un (HRL.out.grow HB.out) k s hs
      subst hsa
      have HOWN := Lib.hid (own_below (w' := wr.alloc (.cells #[.int .i64 s] 3)) HO.out ((Below.refl wr.heap.size wr).alloc (Nat.le_refl _) _))
      have hz4 : w4.heap.size ≤ wr.heap.size := HB.out.size
      clear hs
      go_wp2_with (at_builtin; refine wpList_append_own _ rfl _ _ 38 rfl w4.heap.size 3 i0 _ 1 8 Try.underlying38 HI.out HI0.out HI1.out HI2.out rfl (by decide) _ _ _ rfl HOWN.out ⟨wr.heap.size, 0, none⟩ 1 1 (inF s) rfl rfl (news_block (Blk.new wr 3 _)) (by simp [inF, Value.oneCell']) (by unfold maxLen; omega) (by omega) (by simp; omega) ?_)
      intro v' w5 hown5 hgrow5 _
      have HO5 := Lib.hid hown5
      have HG5 : Hid (Below w4.heap.size w4 w5) := Below.grown (HB.out.alloc hz4 _) hgrow5 (by simp; omega) (fun k' hk' => (HOWN.out.lt k' hk').1)
      clear hown5 hgrow5
      go_wp2
      go_roundw
      case rel => exact ⟨k + 1, by omega, by go_num, by rw [HTN.out]; exact HO5.out, HG5.out⟩
      case measure => simp [intOf]; omega
    · obtain rfl : n = k := by omega
      have HOE : Hid (wr.ownsRow w.heap.size 3 1 u4 n ((intZ L).flatMap inF)) := by
        have h := own_base HO.out (B' := w.heap.size) (by have := HB4.out.size; omega)
        rwa [List.take_of_length_le (by rw [intZ_len]; have := HLN.out; omega)] at h
      have hob := HOE.out
      have hle : (intZ L).length = n := by rw [intZ_len]; exact HLN.out
      rw [← hle] at hob
      obtain ⟨A', c', hv', _, _⟩ := own_rd inF_len (by decide) hob
      rw [hle] at hv'
      subst hv'
      have HEE : Hid (Blk wr (w.heap.size + 1) 30 #[.int .i64 0]) := HE4.out.below HB.out HE4.out.lt
      have k0 : wr.cell? ⟨w.heap.size + 1, 0, none⟩ = some (.int .i64 0) := HEE.out.cell 0
      have f0 : wr.frozen? ⟨w.heap.size + 1, 0, none⟩ = false := HEE.out.frozen 0
      have HBE5 : Hid (Below w.heap.size w wr) := HB4.out.trans (HB.out.mono HB4.out.size)
      have HNE : Hid (∀ g, (Value.slice A' n c').ownBlock = some g → g ≠ w.heap.size + 1) := fun g hg e => by
        have h1 := (HO.out.lt g hg).1
        have h2 := HE4.out.lt
        omega
      clear hob hle
      go_wp2
      have g0 := (HEE.out.set_ 0 (.int .i64 0)).cell 0
      simp at g0
      exact api_returns (b := w.heap.size + 1) rfl (v := .tuple #[.slice A' n c', .int .i64 0]) (by simp [results, Try.results24, go_sem, g0]) ⟨_, rfl, by rw [HLP.out, HLN.out]; exact own_keep HOE.out fun g hg => Below.heap_setCell wr ⟨w.heap.size + 1, 0, none⟩ _ g (HNE.out g hg), setCell_below HBE5.out (by omega) 0 _⟩
theorem PPlan_any (w : World) (hP : PressIn w w.heap.size fa fl low top bales wa wl p) :
    Calls Try.prog 24 #[pressV fa fl fc low top bales wa wl wc] w fun e w' => ∃ v, e = .returned (.tuple #[v, .int .i64 (planE p)]) ∧ w'.ownsRow w.heap.size 3 1 v (intsP p).length ((intsP p).flatMap inF) ∧ Below w.heap.size w w' := by
  by_cases h : planE p = 0
  · refine (PPlan_ok w hP h).mono ?_
    rintro e w' ⟨v, h1, h2, h3⟩
    exact ⟨v, by rw [h]; exact h1, by rw [intsP, if_pos h, intZ_len]; exact h2, h3⟩
  · refine (PPlan_err w hP h).mono ?_
    rintro e w' ⟨h1, h3⟩
    exact ⟨_, h1, by rw [intsP, if_neg h]; exact own_nil _ _ _ _, h3⟩
end
end Go.Proofs.Ytbfjebglaimcmaa
