/- The walk of Fits: for every press. -/
import Derived.Test.YtbfjebglaimcmaaApi2
namespace Go.Proofs.Ytbfjebglaimcmaa
open Go.RowKit Go.Hav Go.Shelf
/-- The name of the questions' method. -/
def isN : String := String.ofList ([115, 104, 101, 97, 114, 119, 111, 114, 107, 115, 47, 112, 114, 101, 115, 115, 46, 105, 115].map Char.ofNat)
theorem is_may (nm : String) (w : World) (h : nm = isN) : (method 307 97 (.agg #[]) nm).run Try.prog w = .ok (162, .agg #[]) w := by subst h; kernel_rfl
theorem is_sure (nm : String) (w : World) (h : nm = isN) : (method 307 98 (.agg #[]) nm).run Try.prog w = .ok (66, .agg #[]) w := by subst h; kernel_rfl
section
variable {low top bales : Int} {fa wa : Option Addr} {fl fc wl wc : Nat} {p : PressD}
set_option maxRecDepth 100000 in
set_option maxHeartbeats 6400000 in
theorem PFits_err (n : Int) (w : World) (hP : PressIn w w.heap.size fa fl low top bales wa wl p) (h : p.ok = false ∨ p.setB n = false) :
    Calls Try.prog 16 #[pressV fa fl fc low top bales wa wl wc, .int .i64 n] w fun e w' => e = .returned (.tuple #[.int .i64 0, .int .i64 (setE p n)]) ∧ Below w.heap.size w w' := by
  obtain ⟨EE, hEE⟩ : ∃ EE, (if p.ok then (2 : Int) else 1) = EE := ⟨_, rfl⟩
  have HEE := Lib.hid hEE
  have HR : Hid (setE p n = EE) := by show _ = _; rw [setE_bad h, hEE]
  have HH := Lib.hid h
  clear h hEE
  have HP := Lib.hid hP
  have HL : Hid (fl ≤ 9223372036854775807 ∧ wl ≤ 9223372036854775807) := ⟨hP.mfl, hP.mwl⟩
  have EG := Lib.hid (enters_of Try.func63 (by kernel_rfl) rfl)
  have hmf : ∀ (fn : Fn) (first cap : Array Value) (w : World), (Instr.makeFunc fn first cap).run Try.prog w = .ok (.func fn first cap) w := fun _ _ _ _ => rfl
  clear hP
  unfold pressV
  go_enter_defers Try.func16, Try.ntmps16
  go_wp2_with fail
  obtain ⟨W, hW⟩ : ∃ W, W = (((w.alloc (Obj.cells #[Value.slice fa fl fc, Value.int IntKind.i64 low, Value.int IntKind.i64 top, Value.int IntKind.i64 bales, Value.slice wa wl wc] 25)).alloc (.cells #[.int .i64 n] 3)).alloc (.cells #[.int .i64 0] 30)) := ⟨_, rfl⟩
  have b1 : Blk W (w.heap.size + 1) 3 #[.int .i64 n] := by rw [hW]; exact (Blk.new_ (by simp) _ _).alloc _
  have b3 : Blk W (w.heap.size + 1 + 1) 30 #[.int .i64 0] := by rw [hW]; exact Blk.new_ (by simp) _ _
  have HBW : Hid (Below w.heap.size w W) := by rw [hW]; exact (((Below.refl w.heap.size w).alloc (by simp) _).alloc (by simp) _).alloc (by simp; omega) _
  have c10 : W.cell? ⟨w.heap.size + 1, 0, none⟩ = some (.int .i64 n) := b1.cell 0
  have hs1 : w.heap.size + 1 < W.heap.size := b1.lt
  have hs3 : w.heap.size + 1 + 1 < W.heap.size := b3.lt
  have HBE := Lib.hid b3
  have hW' := hW.symm
  rw [hW']
  clear hW hW' b1 b3
  refine (open_panics (p := p) 63 #[.pointer (some ⟨w.heap.size + 1, 0, none⟩)] (p.setB n) EG.out W (by exact HP.out.grow HBW.out) (fun hv => isShed_set 63 (.inr (.inl rfl)) (by have := (PressD.ok_head hv).1; omega) n _ W c10 hs1) HH.out).mono ?_
  rw [HEE.out]
  rintro e w1 ⟨rfl, hb1⟩
  have HB1 : Hid (Below W.heap.size W w1) := hb1
  clear hb1
  go_wp2
  refine end_panic (w0 := w) (b := w.heap.size + 1 + 1) rfl (HBE.out.below HB1.out hs3) (v := .tuple #[.int .i64 0, .int .i64 EE]) (fun w' hk _ => ?_) (by omega) (HBW.out.trans (HB1.out.mono (by omega))) (fun w' h => ⟨by rw [HR.out], h⟩)
  have g0 := hk.cell 0
  simp [results, Try.results16, go_sem, g0]
set_option maxRecDepth 100000 in
set_option maxHeartbeats 6400000 in
theorem PFits_clash (n : Int) (w : World) (hP : PressIn w w.heap.size fa fl low top bales wa wl p) (hv : p.ok = true) (hset : p.setB n = true) (ht : p.wrong ≠ 0) :
    Calls Try.prog 16 #[pressV fa fl fc low top bales wa wl wc, .int .i64 n] w fun e w' => e = .returned (.tuple #[.int .i64 0, .int .i64 (setE p n)]) ∧ Below w.heap.size w w' := by
  have HR : Hid (setE p n = 10) := by show _ = _; simp [setE, hv, hset, ht]
  have HV := Lib.hid hv
  have HS := Lib.hid hset
  have HT := Lib.hid ht
  clear hv hset ht
  have HP := Lib.hid hP
  have HL : Hid (fl ≤ 9223372036854775807 ∧ wl ≤ 9223372036854775807) := ⟨hP.mfl, hP.mwl⟩
  have EG := Lib.hid (enters_of Try.func63 (by kernel_rfl) rfl)
  have hmf : ∀ (fn : Fn) (first cap : Array Value) (w : World), (Instr.makeFunc fn first cap).run Try.prog w = .ok (.func fn first cap) w := fun _ _ _ _ => rfl
  clear hP
  unfold pressV
  go_enter_defers Try.func16, Try.ntmps16
  go_wp2_with fail
  obtain ⟨W, hW⟩ : ∃ W, W = (((w.alloc (Obj.cells #[Value.slice fa fl fc, Value.int IntKind.i64 low, Value.int IntKind.i64 top, Value.int IntKind.i64 bales, Value.slice wa wl wc] 25)).alloc (.cells #[.int .i64 n] 3)).alloc (.cells #[.int .i64 0] 30)) := ⟨_, rfl⟩
  have b1 : Blk W (w.heap.size + 1) 3 #[.int .i64 n] := by rw [hW]; exact (Blk.new_ (by simp) _ _).alloc _
  have b3 : Blk W (w.heap.size + 1 + 1) 30 #[.int .i64 0] := by rw [hW]; exact Blk.new_ (by simp) _ _
  have HBW : Hid (Below w.heap.size w W) := by rw [hW]; exact (((Below.refl w.heap.size w).alloc (by simp) _).alloc (by simp) _).alloc (by simp; omega) _
  have c10 : W.cell? ⟨w.heap.size + 1, 0, none⟩ = some (.int .i64 n) := b1.cell 0
  have hs1 : w.heap.size + 1 < W.heap.size := b1.lt
  have hs3 : w.heap.size + 1 + 1 < W.heap.size := b3.lt
  have HBE := Lib.hid b3
  have hW' := hW.symm
  rw [hW']
  clear hW hW' b1 b3
  refine (open_fine (p := p) 63 #[.pointer (some ⟨w.heap.size + 1, 0, none⟩)] EG.out W (by exact HP.out.grow HBW.out) HV.out (by rw [← HS.out]; exact isShed_set 63 (.inr (.inl rfl)) (by have := (PressD.ok_head HV.out).1; omega) _ _ W c10 hs1)).mono ?_
  rintro e w1 ⟨d, r, ga, rfl, hSD, _, _, hb1⟩
  have HSD := Lib.hid (hSD.shed HL.out.1 HL.out.2)
  have HB1 : Hid (Below W.heap.size W w1) := hb1
  clear hb1 hSD
  go_wp2_with fail
  refine (told_any HV.out _ HSD.out).mono ?_
  rw [if_neg HT.out]
  rintro e w2 ⟨rfl, hb2⟩
  have HB2 : Hid (Below W.heap.size W w2) := HB1.out.trans (hb2.mono HB1.out.size)
  clear hb2
  go_wp2
  refine end_panic (w0 := w) (b := w.heap.size + 1 + 1) rfl (HBE.out.below HB2.out hs3) (v := .tuple #[.int .i64 0, .int .i64 10]) (fun w' hk _ => ?_) (by omega) (HBW.out.trans (HB2.out.mono (by omega))) (fun w' h => ⟨by rw [HR.out], h⟩)
  have g0 := hk.cell 0
  simp [results, Try.results16, go_sem, g0]
set_option maxRecDepth 100000 in
set_option maxHeartbeats 6400000 in
theorem PFits_ok (n : Int) (w : World) (hP : PressIn w w.heap.size fa fl low top bales wa wl p) (hv : p.ok = true) (hset : p.setB n = true) (ht : p.wrong = 0) :
    Calls Try.prog 16 #[pressV fa fl fc low top bales wa wl wc, .int .i64 n] w fun e w' => e = .returned (.tuple #[.int .i64 (p.fits n.toNat), .int .i64 (setE p n)]) ∧ Below w.heap.size w w' := by
  have HR : Hid (setE p n = 0) := by show _ = _; simp [setE, hv, hset, ht]
  obtain ⟨hn, hlt⟩ := set_nat hset
  obtain ⟨s, hs2⟩ : ∃ s, n.toNat = s := ⟨_, rfl⟩
  rw [hs2] at hn hlt ⊢
  have HLT := Lib.hid hlt
  subst hn
  have hsb : (s : Int) ≤ 1024 := by have := PressD.n_pow hv; omega
  have hs00 : (0 : Int) ≤ s := by omega
  have HV := Lib.hid hv
  have HS := Lib.hid hset
  have HT := Lib.hid ht
  clear hv hset ht hlt hs2
  generalize hn : (s : Int) = n at *
  have HP := Lib.hid hP
  have HL : Hid (fl ≤ 9223372036854775807 ∧ wl ≤ 9223372036854775807) := ⟨hP.mfl, hP.mwl⟩
  have EG := Lib.hid (enters_of Try.func63 (by kernel_rfl) rfl)
  have hmf : ∀ (fn : Fn) (first cap : Array Value) (w : World), (Instr.makeFunc fn first cap).run Try.prog w = .ok (.func fn first cap) w := fun _ _ _ _ => rfl
  clear hP
  unfold pressV
  go_enter_defers Try.func16, Try.ntmps16
  go_wp2_with fail
  obtain ⟨W, hW⟩ : ∃ W, W = (((w.alloc (Obj.cells #[Value.slice fa fl fc, Value.int IntKind.i64 low, Value.int IntKind.i64 top, Value.int IntKind.i64 bales, Value.slice wa wl wc] 25)).alloc (.cells #[.int .i64 n] 3)).alloc (.cells #[.int .i64 0] 30)) := ⟨_, rfl⟩
  have b1 : Blk W (w.heap.size + 1) 3 #[.int .i64 n] := by rw [hW]; exact (Blk.new_ (by simp) _ _).alloc _
  have b3 : Blk W (w.heap.size + 1 + 1) 30 #[.int .i64 0] := by rw [hW]; exact Blk.new_ (by simp) _ _
  have HBW : Hid (Below w.heap.size w W) := by rw [hW]; exact (((Below.refl w.heap.size w).alloc (by simp) _).alloc (by simp) _).alloc (by simp; omega) _
  have c10 : W.cell? ⟨w.heap.size + 1, 0, none⟩ = some (.int .i64 n) := b1.cell 0
  have hs1 : w.heap.size + 1 < W.heap.size := b1.lt
  have hs3 : w.heap.size + 1 + 1 < W.heap.size := b3.lt
  have HBE := Lib.hid b3
  have hW' := hW.symm
  rw [hW']
  clear hW hW' b1 b3
  refine (open_fine (p := p) 63 #[.pointer (some ⟨w.heap.size + 1, 0, none⟩)] EG.out W (by exact HP.out.grow HBW.out) HV.out (by rw [← HS.out]; exact isShed_set 63 (.inr (.inl rfl)) (by have := (PressD.ok_head HV.out).1; omega) _ _ W c10 hs1)).mono ?_
  rintro e w1 ⟨d, r, ga, rfl, hSD, _, _, hb1⟩
  have HSD := Lib.hid (hSD.shed HL.out.1 HL.out.2)
  have HB1 : Hid (Below W.heap.size W w1) := hb1
  clear hb1 hSD
  go_wp2_with fail
  refine (told_any HV.out _ HSD.out).mono ?_
  rw [if_pos HT.out]
  rintro e w2 ⟨rfl, hb2⟩
  have HB2 : Hid (Below W.heap.size W w2) := HB1.out.trans (hb2.mono HB1.out.size)
  have HSD2 := Lib.hid (HSD.out.grow hb2)
  clear hb2
  subst hn
  have c11 : w2.cell? ⟨w.heap.size + 1, 0, none⟩ = some (.int .i64 (s : Int)) := (HB2.out.cell (p := ⟨w.heap.size + 1, 0, none⟩) hs1).trans c10
  have hs11 : w.heap.size + 1 < w2.heap.size := by have := HB2.out.size; omega
  go_wp2
  refine wp_loop_rounds 3 ?_
  rw [rounds_succ]
  go_wp2_with fail
  rw [is_may]
  case h => kernel_rfl
  go_wp2_with fail
  refine (may_any HV.out s HLT.out _ (by exact HSD2.out.grow (by repeat (first | exact Below.refl _ _ | assumption | refine Below.drew ?_ | refine below_drewN ?_ _ | refine Below.alloc ?_ (by (try simp) <;> omega) _ | refine Below.setCell ?_ (by (try simp) <;> omega) _ | refine Below.trans ?_ (Below.mono (by assumption) (by (try simp) <;> omega)))))).mono ?_
  rintro e w3 ⟨rfl, hb3⟩
  have HBL : Hid (Blk w3 w2.heap.size 101 #[.iface 97 (.agg #[]), .iface 98 (.agg #[])]) := (Blk.new_ rfl _ _).below hb3 (by simp)
  have HG3 : Hid (Below w2.heap.size w2 w3) := ((Below.refl w2.heap.size w2).alloc (Nat.le_refl _) _).trans (hb3.mono (by simp))
  have HSD3 := Lib.hid (HSD2.out.grow HG3.out)
  have i1 : w3.cell? ⟨w2.heap.size, 1, none⟩ = some (.iface 98 (.agg #[])) := HBL.out.cell 1
  have c13 : w3.cell? ⟨w.heap.size + 1, 0, none⟩ = some (.int .i64 (s : Int)) := (HG3.out.cell (p := ⟨w.heap.size + 1, 0, none⟩) hs11).trans c11
  clear hb3
  have HFT : Hid (p.fits s = if p.sure s = true then 2 else if p.may s = true then 1 else 0) := rfl
  cases hm : p.may s
  all_goals
    go_wp2_with fail
    rw [rounds_succ]
    go_wp2_with fail
    rw [is_sure]
    case h => kernel_rfl
    go_wp2_with fail
    refine (sure_any HV.out s HLT.out _ (by exact HSD3.out)).mono ?_
    cases hu : p.sure s
    all_goals
      rintro e w4 ⟨rfl, hb4⟩
      have HG4 : Hid (Below w2.heap.size w2 w4) := HG3.out.trans (hb4.mono HG3.out.size)
      have HE4 : Hid (Blk w4 (w.heap.size + 1 + 1) 30 #[.int .i64 0]) := (HBE.out.below HB2.out hs3).below HG4.out (by have := HB2.out.size; omega)
      have k0 : w4.cell? ⟨w.heap.size + 1 + 1, 0, none⟩ = some (.int .i64 0) := HE4.out.cell 0
      have f0 : w4.frozen? ⟨w.heap.size + 1 + 1, 0, none⟩ = false := HE4.out.frozen 0
      have HX : Hid (p.fits s = if p.sure s = true then 2 else if p.may s = true then 1 else 0) := HFT
      have HB4 : Hid (Below w.heap.size w w4) := HBW.out.trans ((HB2.out.trans (HG4.out.mono HB2.out.size)).mono (by omega))
      rw [hm, hu] at HX
      simp only [Bool.false_eq_true, if_true, if_false] at HX
      clear hb4 hm hu
      go_wp2_with fail
      rw [rounds_succ]
      go_wp2
      have g0 := (HE4.out.set_ 0 (.int .i64 0)).cell 0
      simp at g0
      refine api_returns (b := w.heap.size + 1 + 1) rfl (v := .tuple #[.int .i64 (p.fits s), .int .i64 0]) (by rw [HX.out]; simp [results, Try.results16, go_sem, g0]) ⟨by rw [HR.out], setCell_below HB4.out (by omega) _ _⟩
theorem PFits_any (n : Int) (w : World) (hP : PressIn w w.heap.size fa fl low top bales wa wl p) :
    Calls Try.prog 16 #[pressV fa fl fc low top bales wa wl wc, .int .i64 n] w fun e w' => e = .returned (.tuple #[.int .i64 (if setE p n = 0 then p.fits n.toNat else 0), .int .i64 (setE p n)]) ∧ Below w.heap.size w w' := by
  cases hv : p.ok
  · rw [if_neg (setE_ne (.inl hv))]; exact PFits_err n w hP (.inl hv)
  cases hs : p.setB n
  · rw [if_neg (setE_ne (.inr hs))]; exact PFits_err n w hP (.inr hs)
  by_cases ht : p.wrong = 0
  · rw [if_pos (by simp [setE, hv, hs, ht])]; exact PFits_ok n w hP hv hs ht
  · rw [if_neg (by simp [setE, hv, hs, ht])]; exact PFits_clash n w hP hv hs ht
end
end Go.Proofs.Ytbfjebglaimcmaa
