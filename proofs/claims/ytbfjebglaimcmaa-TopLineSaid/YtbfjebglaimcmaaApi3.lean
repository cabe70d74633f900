/- The walk of Fits: for every press. The walk of Add: for every press. -/
import Derived.Test.YtbfjebglaimcmaaApi1
namespace Go.Proofs.Ytbfjebglaimcmaa
open Go.RowKit Go.Hav Go.Shelf
/-- The name of the questions' method. -/
def isN : String := String.ofList ([115, 104, 101, 97, 114, 119, 111, 114, 107, 115, 47, 112, 114, 101, 115, 115, 46, 105, 115].map Char.ofNat)
theorem is_may (nm : String) (w : World) (h : nm = isN) : (method 307 97 (.agg #[]) nm).run Try.prog w = .ok (162, .agg #[]) w := by subst h; kernel_rfl
theorem is_sure (nm : String) (w : World) (h : nm = isN) : (method 307 98 (.agg #[]) nm).run Try.prog w = .ok (66, .agg #[]) w := by subst h; kernel_rfl
section
variable {low top bales : Int} {fa wa : Option Addr} {fl fc wl wc : Nat} {p : PressD}
set_option maxRecDepth 100000 in
set_option maxHeartbeats 6400000 in
theorem PFits_err (n : Int) (w : World) (hP : PressIn w w.heap.size fa fl low top bales wa wl p) (h : p.ok = false ∨ p.setB n = false) :
    Calls Try.prog 16 #[pressV fa fl fc low top bales wa wl wc, .int .i64 n] w fun e w' => e = .returned (.tuple #[.int .i64 0, .int .i64 (setE p n)]) ∧ Below w.heap.size w w' := by
  obtain ⟨EE, hEE⟩ : ∃ EE, (if p.ok then (2 : Int) else 1) = EE := ⟨_, rfl⟩
  have HEE := Lib.hid hEE
  have HR : Hid (setE p n = EE) := by show _ = _; rw [setE_bad h, hEE]
  have HH := Lib.hid h
  clear h hEE
  have HP := Lib.hid hP
  have HL : Hid (fl ≤ 9223372036854775807 ∧ wl ≤ 9223372036854775807) := ⟨hP.mfl, hP.mwl⟩
  have EG := Lib.hid (enters_of Try.func63 (by kernel_rfl) rfl)
  have hmf : ∀ (fn : Fn) (first cap : Array Value) (w : World), (Instr.makeFunc fn first cap).run Try.prog w = .ok (.func fn first cap) w := fun _ _ _ _ => rfl
  clear hP
  unfold pressV
  go_enter_defers Try.func16, Try.ntmps16
  go_wp2_with fail
  obtain ⟨W, hW⟩ : ∃ W, W = (((w.alloc (Obj.cells #[Value.slice fa fl fc, Value.int IntKind.i64 low, Value.int IntKind.i64 top, Value.int IntKind.i64 bales, Value.slice wa wl wc] 25)).alloc (.cells #[.int .i64 n] 3)).alloc (.cells #[.int .i64 0] 30)) := ⟨_, rfl⟩
  have b1 : Blk W (w.heap.size + 1) 3 #[.int .i64 n] := by rw [hW]; exact (Blk.new_ (by simp) _ _).alloc _
  have b3 : Blk W (w.heap.size + 1 + 1) 30 #[.int .i64 0] := by rw [hW]; exact Blk.new_ (by simp) _ _
  have HBW : Hid (Below w.heap.size w W) := by rw [hW]; exact (((Below.refl w.heap.size w).alloc (by simp) _).alloc (by simp) _).alloc (by simp; omega) _
  have c10 : W.cell? ⟨w.heap.size + 1, 0, none⟩ = some (.int .i64 n) := b1.cell 0
  have hs1 : w.heap.size + 1 < W.heap.size := b1.lt
  have hs3 : w.heap.size + 1 + 1 < W.heap.size := b3.lt
  have HBE := Lib.hid b3
  have hW' := hW.symm
  rw [hW']
  clear hW hW' b1 b3
  refine (open_panics (p := p) 63 #[.pointer (some ⟨w.heap.size + 1, 0, none⟩)] (p.setB n) EG.out W (by exact HP.out.grow HBW.out) (fun hv => isShed_set 63 (.inr (.inl rfl)) (by have := (PressD.ok_head hv).1; omega) n _ W c10 hs1) HH.out).mono ?_
  rw [HEE.out]
  rintro e w1 ⟨rfl, hb1⟩
  have HB1 : Hid (Below W.heap.size W w1) := hb1
  clear hb1
  go_wp2
  refine end_panic (w0 := w) (b := w.heap.size + 1 + 1) rfl (HBE.out.below HB1.out hs3) (v := .tuple #[.int .i64 0, .int .i64 EE]) (fun w' hk _ => ?_) (by omega) (HBW.out.trans (HB1.out.mono (by omega))) (fun w' h => ⟨by rw [HR.out], h⟩)
  have g0 := hk.cell 0
  simp [results, Try.results16, go_sem, g0]
set_option maxRecDepth 100000 in
set_option maxHeartbeats 6400000 in
theorem PFits_clash (n : Int) (w : World) (hP : PressIn w w.heap.size fa fl low top bales wa wl p) (hv : p.ok = true) (hset : p.setB n = true) (ht : p.wrong ≠ 0) :
    Calls Try.prog 16 #[pressV fa fl fc low top bales wa wl wc, .int .i64 n] w fun e w' => e = .returned (.tuple #[.int .i64 0, .int .i64 (setE p n)]) ∧ Below w.heap.size w w' := by
  have HR : Hid (setE p n = 10) := by show _ = _; simp [setE, hv, hset, ht]
  have HV := Lib.hid hv
  have HS := Lib.hid hset
  have HT := Lib.hid ht
  clear hv hset ht
  have HP := Lib.hid hP
  have HL : Hid (fl ≤ 9223372036854775807 ∧ wl ≤ 9223372036854775807) := ⟨hP.mfl, hP.mwl⟩
  have EG := Lib.hid (enters_of Try.func63 (by kernel_rfl) rfl)
  have hmf : ∀ (fn : Fn) (first cap : Array Value) (w : World), (Instr.makeFunc fn first cap).run Try.prog w = .ok (.func fn first cap) w := fun _ _ _ _ => rfl
  clear hP
  unfold pressV
  go_enter_defers Try.func16, Try.ntmps16
  go_wp2_with fail
  obtain ⟨W, hW⟩ : ∃ W, W = (((w.alloc (Obj.cells #[Value.slice fa fl fc, Value.int IntKind.i64 low, Value.int IntKind.i64 top, Value.int IntKind.i64 bales, Value.slice wa wl wc] 25)).alloc (.cells #[.int .i64 n] 3)).alloc (.cells #[.int .i64 0] 30)) := ⟨_, rfl⟩
  have b1 : Blk W (w.heap.size + 1) 3 #[.int .i64 n] := by rw [hW]; exact (Blk.new_ (by simp) _ _).alloc _
  have b3 : Blk W (w.heap.size + 1 + 1) 30 #[.int .i64 0] := by rw [hW]; exact Blk.new_ (by simp) _ _
  have HBW : Hid (Below w.heap.size w W) := by rw [hW]; exact (((Below.refl w.heap.size w).alloc (by simp) _).alloc (by simp) _).alloc (by simp; omega) _
  have c10 : W.cell? ⟨w.heap.size + 1, 0, none⟩ = some (.int .i64 n) := b1.cell 0
  have hs1 : w.heap.size + 1 < W.heap.size := b1.lt
  have hs3 : w.heap.size + 1 + 1 < W.heap.size := b3.lt
  have HBE := Lib.hid b3
  have hW' := hW.symm
  rw [hW']
  clear hW hW' b1 b3
  refine (open_fine (p := p) 63 #[.pointer (some ⟨w.heap.size + 1, 0, none⟩)] EG.out W (by exact HP.out.grow HBW.out) HV.out (by rw [← HS.out]; exact isShed_set 63 (.inr (.inl rfl)) (by have := (PressD.ok_head HV.out).1; omega) _ _ W c10 hs1)).mono ?_
  rintro e w1 ⟨d, r, ga, rfl, hSD, _, _, hb1⟩
  have HSD := Lib.hid (hSD.shed HL.out.1 HL.out.2)
  have HB1 : Hid (Below W.heap.size W w1) := hb1
  clear hb1 hSD
  go_wp2_with fail
  refine (told_any HV.out _ HSD.out).mono ?_
  rw [if_neg HT.out]
  rintro e w2 ⟨rfl, hb2⟩
  have HB2 : Hid (Below W.heap.size W w2) := HB1.out.trans (hb2.mono HB1.out.size)
  clear hb2
  go_wp2
  refine end_panic (w0 := w) (b := w.heap.size + 1 + 1) rfl (HBE.out.below HB2.out hs3) (v := .tuple #[.int .i64 0, .int .i64 10]) (fun w' hk _ => ?_) (by omega) (HBW.out.trans (HB2.out.mono (by omega))) (fun w' h => ⟨by rw [HR.out], h⟩)
  have g0 := hk.cell 0
  simp [results, Try.results16, go_sem, g0]
set_option maxRecDepth 100000 in
set_option maxHeartbeats 6400000 in
theorem PFits_ok (n : Int) (w : World) (hP : PressIn w w.heap.size fa fl low top bales wa wl p) (hv : p.ok = true) (hset : p.setB n = true) (ht : p.wrong = 0) :
    Calls Try.prog 16 #[pressV fa fl fc low top bales wa wl wc, .int .i64 n] w fun e w' => e = .returned (.tuple #[.int .i64 (p.fits n.toNat), .int .i64 (setE p n)]) ∧ Below w.heap.size w w' := by
  have HR : Hid (setE p n = 0) := by show _ = _; simp [setE, hv, hset, ht]
  obtain ⟨hn, hlt⟩ := set_nat hset
  obtain ⟨s, hs2⟩ : ∃ s, n.toNat = s := ⟨_, rfl⟩
  rw [hs2] at hn hlt ⊢
  have HLT := Lib.hid hlt
  subst hn
  have hsb : (s : Int) ≤ 1024 := by have := PressD.n_pow hv; omega
  have hs00 : (0 : Int) ≤ s := by omega
  have HV := Lib.hid hv
  have HS := Lib.hid hset
  have HT := Lib.hid ht
  clear hv hset ht hlt hs2
  generalize hn : (s : Int) = n at *
  have HP := Lib.hid hP
  have HL : Hid (fl ≤ 9223372036854775807 ∧ wl ≤ 9223372036854775807) := ⟨hP.mfl, hP.mwl⟩
  have EG := Lib.hid (enters_of Try.func63 (by kernel_rfl) rfl)
  have hmf : ∀ (fn : Fn) (first cap : Array Value) (w : World), (Instr.makeFunc fn first cap).run Try.prog w = .ok (.func fn first cap) w := fun _ _ _ _ => rfl
  clear hP
  unfold pressV
  go_enter_defers Try.func16, Try.ntmps16
  go_wp2_with fail
  obtain ⟨W, hW⟩ : ∃ W, W = (((w.alloc (Obj.cells #[Value.slice fa fl fc, Value.int IntKind.i64 low, Value.int IntKind.i64 top, Value.int IntKind.i64 bales, Value.slice wa wl wc] 25)).alloc (.cells #[.int .i64 n] 3)).alloc (.cells #[.int .i64 0] 30)) := ⟨_, rfl⟩
  have b1 : Blk W (w.heap.size + 1) 3 #[.int .i64 n] := by rw [hW]; exact (Blk.new_ (by simp) _ _).alloc _
  have b3 : Blk W (w.heap.size + 1 + 1) 30 #[.int .i64 0] := by rw [hW]; exact Blk.new_ (by simp) _ _
  have HBW : Hid (Below w.heap.size w W) := by rw [hW]; exact (((Below.refl w.heap.size w).alloc (by simp) _).alloc (by simp) _).alloc (by simp; omega) _
  have c10 : W.cell? ⟨w.heap.size + 1, 0, none⟩ = some (.int .i64 n) := b1.cell 0
  have hs1 : w.heap.size + 1 < W.heap.size := b1.lt
  have hs3 : w.heap.size + 1 + 1 < W.heap.size := b3.lt
  have HBE := Lib.hid b3
  have hW' := hW.symm
  rw [hW']
  clear hW hW' b1 b3
  refine (open_fine (p := p) 63 #[.pointer (some ⟨w.heap.size + 1, 0, none⟩)] EG.out W (by exact HP.out.grow HBW.out) HV.out (by rw [← HS.out]; exact isShed_set 63 (.inr (.inl rfl)) (by have := (PressD.ok_head HV.out).1; omega) _ _ W c10 hs1)).mono ?_
  rintro e w1 ⟨d, r, ga, rfl, hSD, _, _, hb1⟩
  have HSD := Lib.hid (hSD.shed HL.out.1 HL.out.2)
  have HB1 : Hid (Below W.heap.size W w1) := hb1
  clear hb1 hSD
  go_wp2_with fail
  refine (told_any HV.out _ HSD.out).mono ?_
  rw [if_pos HT.out]
  rintro e w2 ⟨rfl, hb2⟩
  have HB2 : Hid (Below W.heap.size W w2) := HB1.out.trans (hb2.mono HB1.out.size)
  have HSD2 := Lib.hid (HSD.out.grow hb2)
  clear hb2
  subst hn
  have c11 : w2.cell? ⟨w.heap.size + 1, 0, none⟩ = some (.int .i64 (s : Int)) := (HB2.out.cell (p := ⟨w.heap.size + 1, 0, none⟩) hs1).trans c10
  have hs11 : w.heap.size + 1 < w2.heap.size := by have := HB2.out.size; omega
  go_wp2
  refine wp_loop_rounds 3 ?_
  rw [rounds_succ]
  go_wp2_with fail
  rw [is_may]
  case h => kernel_rfl
  go_wp2_with fail
  refine (may_any HV.out s HLT.out _ (by exact HSD2.out.grow (by repeat (first | exact Below.refl _ _ | assumption | refine Below.drew ?_ | refine below_drewN ?_ _ | refine Below.alloc ?_ (by (try simp) <;> omega) _ | refine Below.setCell ?_ (by (try simp) <;> omega) _ | refine Below.trans ?_ (Below.mono (by assumption) (by (try simp) <;> omega)))))).mono ?_
  rintro e w3 ⟨rfl, hb3⟩
  have HBL : Hid (Blk w3 w2.heap.size 101 #[.iface 97 (.agg #[]), .iface 98 (.agg #[])]) := (Blk.new_ rfl _ _).below hb3 (by simp)
  have HG3 : Hid (Below w2.heap.size w2 w3) := ((Below.refl w2.heap.size w2).alloc (Nat.le_refl _) _).trans (hb3.mono (by simp))
  have HSD3 := Lib.hid (HSD2.out.grow HG3.out)
  have i1 : w3.cell? ⟨w2.heap.size, 1, none⟩ = some (.iface 98 (.agg #[])) := HBL.out.cell 1
  have c13 : w3.cell? ⟨w.heap.size + 1, 0, none⟩ = some (.int .i64 (s : Int)) := (HG3.out.cell (p := ⟨w.heap.size + 1, 0, none⟩) hs11).trans c11
  clear hb3
  have HFT : Hid (p.fits s = if p.sure s = true then 2 else if p.may s = true then 1 else 0) := rfl
  cases hm : p.may s
  all_goals
    go_wp2_with fail
    rw [rounds_succ]
    go_wp2_with fail
    rw [is_sure]
    case h => kernel_rfl
    go_wp2_with fail
    refine (sure_any HV.out s HLT.out _ (by exact HSD3.out)).mono ?_
    cases hu : p.sure s
    all_goals
      rintro e w4 ⟨rfl, hb4⟩
      have HG4 : Hid (Below w2.heap.size w2 w4) := HG3.out.trans (hb4.mono HG3.out.size)
      have HE4 : Hid (Blk w4 (w.heap.size + 1 + 1) 30 #[.int .i64 0]) := (HBE.out.below HB2.out hs3).below HG4.out (by have := HB2.out.size; omega)
      have k0 : w4.cell? ⟨w.heap.size + 1 + 1, 0, none⟩ = some (.int .i64 0) := HE4.out.cell 0
      have f0 : w4.frozen? ⟨w.heap.size + 1 + 1, 0, none⟩ = false := HE4.out.frozen 0
      have HX : Hid (p.fits s = if p.sure s = true then 2 else if p.may s = true then 1 else 0) := HFT
      have HB4 : Hid (Below w.heap.size w w4) := HBW.out.trans ((HB2.out.trans (HG4.out.mono HB2.out.size)).mono (by omega))
      rw [hm, hu] at HX
      simp only [Bool.false_eq_true, if_true, if_false] at HX
      clear hb4 hm hu
      go_wp2_with fail
      rw [rounds_succ]
      go_wp2
      have g0 := (HE4.out.set_ 0 (.int .i64 0)).cell 0
      simp at g0
      refine api_returns (b := w.heap.size + 1 + 1) rfl (v := .tuple #[.int .i64 (p.fits s), .int .i64 0]) (by rw [HX.out]; simp [results, Try.results16, go_sem, g0]) ⟨by rw [HR.out], setCell_below HB4.out (by omega) _ _⟩
theorem PFits_any (n : Int) (w : World) (hP : PressIn w w.heap.size fa fl low top bales wa wl p) :
    Calls Try.prog 16 #[pressV fa fl fc low top bales wa wl wc, .int .i64 n] w fun e w' => e = .returned (.tuple #[.int .i64 (if setE p n = 0 then p.fits n.toNat else 0), .int .i64 (setE p n)]) ∧ Below w.heap.size w w' := by
  cases hv : p.ok
  · rw [if_neg (setE_ne (.inl hv))]; exact PFits_err n w hP (.inl hv)
  cases hs : p.setB n
  · rw [if_neg (setE_ne (.inr hs))]; exact PFits_err n w hP (.inr hs)
  by_cases ht : p.wrong = 0
  · rw [if_pos (by simp [setE, hv, hs, ht])]; exact PFits_ok n w hP hv hs ht
  · rw [if_neg (by simp [setE, hv, hs, ht])]; exact PFits_clash n w hP hv hs ht
end
end Go.Proofs.Ytbfjebglaimcmaa
namespace Go.Proofs.Ytbfjebglaimcmaa
open Go.RowKit Go.Hav Go.Shelf
/-- Does a fleece make a set fit? -/
def addB (p : PressD) (s i : Nat) : Bool := !s.testBit i && p.sure (s ||| 2 ^ i)
/-- The first fleece that makes a set fit; -1: none does. -/
def addI (p : PressD) (s : Nat) : Int := match (List.range p.n).find? (addB p s) with
  | some i => i
  | none => -1
theorem addI_none {p : PressD} {s : Nat} (h : ∀ i, i < p.n → addB p s i = false) : addI p s = -1 := by
  unfold addI
  rw [List.find?_eq_none.2]
  intro i hi
  rw [h i (List.mem_range.1 hi)]
  simp
theorem addI_some {p : PressD} {s k : Nat} (hk : k < p.n) (h : ∀ i, i < k → addB p s i = false) (hb : addB p s k = true) : addI p s = k := by
  unfold addI
  have : (List.range p.n).find? (addB p s) = some k := by
    rw [List.find?_range_eq_some]
    exact ⟨hb, by simpa using hk, fun j hj => by rw [h j hj]; rfl⟩
  rw [this]
theorem or_two {s k : Nat} (h : s.testBit k = true) : s ||| 2 ^ k = s := by
  refine Nat.eq_of_testBit_eq fun i => ?_
  rw [Nat.testBit_or, Nat.testBit_two_pow]
  by_cases e : k = i
  · subst e; simp [h]
  · simp [e]
theorem or_two_ne {s k : Nat} (h : s.testBit k = false) : s ||| 2 ^ k ≠ s := by
  intro e
  have h1 : (s ||| 2 ^ k).testBit k = true := by rw [Nat.testBit_or, Nat.testBit_two_pow]; simp
  rw [e, h] at h1
  cases h1
section
variable {low top bales : Int} {fa wa : Option Addr} {fl fc wl wc : Nat} {p : PressD}
set_option maxRecDepth 100000 in
set_option maxHeartbeats 6400000 in
theorem PAdd_err (n : Int) (w : World) (hP : PressIn w w.heap.size fa fl low top bales wa wl p) (h : p.ok = false ∨ p.setB n = false) :
    Calls Try.prog 18 #[pressV fa fl fc low top bales wa wl wc, .int .i64 n] w fun e w' => e = .returned (.tuple #[.int .i64 0, .int .i64 (setE p n)]) ∧ Below w.heap.size w w' := by
  obtain ⟨EE, hEE⟩ : ∃ EE, (if p.ok then (2 : Int) else 1) = EE := ⟨_, rfl⟩
  have HEE := Lib.hid hEE
  have HR : Hid (setE p n = EE) := by show _ = _; rw [setE_bad h, hEE]
  have HH := Lib.hid h
  clear h hEE
  have HP := Lib.hid hP
  have HL : Hid (fl ≤ 9223372036854775807 ∧ wl ≤ 9223372036854775807) := ⟨hP.mfl, hP.mwl⟩
  have HFL : Hid (p.n = fl) := hP.efl
  have EG := Lib.hid (enters_of Try.func65 (by kernel_rfl) rfl)
  have hmf : ∀ (fn : Fn) (first cap : Array Value) (w : World), (Instr.makeFunc fn first cap).run Try.prog w = .ok (.func fn first cap) w := fun _ _ _ _ => rfl
  clear hP
  unfold pressV
  go_enter_defers Try.func18, Try.ntmps18
  go_wp2_with fail
  obtain ⟨W, hW⟩ : ∃ W, W = (((w.alloc (Obj.cells #[Value.slice fa fl fc, Value.int IntKind.i64 low, Value.int IntKind.i64 top, Value.int IntKind.i64 bales, Value.slice wa wl wc] 25)).alloc (.cells #[.int .i64 n] 3)).alloc (.cells #[.int .i64 0] 30)) := ⟨_, rfl⟩
  have b0 : Blk W w.heap.size 25 #[.slice fa fl fc, .int .i64 low, .int .i64 top, .int .i64 bales, .slice wa wl wc] := by rw [hW]; exact ((Blk.new_ rfl _ _).alloc _).alloc _
  have b1 : Blk W (w.heap.size + 1) 3 #[.int .i64 n] := by rw [hW]; exact (Blk.new_ (by simp) _ _).alloc _
  have b3 : Blk W (w.heap.size + 1 + 1) 30 #[.int .i64 0] := by rw [hW]; exact Blk.new_ (by simp) _ _
  have HBW : Hid (Below w.heap.size w W) := by rw [hW]; exact (((Below.refl w.heap.size w).alloc (by simp) _).alloc (by simp) _).alloc (by simp; omega) _
  have c00 : W.cell? ⟨w.heap.size, 0, none⟩ = some (.slice fa fl fc) := b0.cell 0
  have c10 : W.cell? ⟨w.heap.size + 1, 0, none⟩ = some (.int .i64 n) := b1.cell 0
  have hs0 : w.heap.size < W.heap.size := b0.lt
  have hs1 : w.heap.size + 1 < W.heap.size := b1.lt
  have hs3 : w.heap.size + 1 + 1 < W.heap.size := b3.lt
  have HBE := Lib.hid b3
  have hW' := hW.symm
  rw [hW']
  clear hW hW' b0 b1 b3
  refine (open_panics (p := p) 65 #[.pointer (some ⟨w.heap.size + 1, 0, none⟩)] (p.setB n) EG.out W (by exact HP.out.grow HBW.out) (fun hv => isShed_set 65 (.inr (.inr rfl)) (by have := (PressD.ok_head hv).1; omega) n _ W c10 hs1) HH.out).mono ?_
  rw [HEE.out]
  rintro e w1 ⟨rfl, hb1⟩
  have HB1 : Hid (Below W.heap.size W w1) := hb1
  clear hb1
  go_wp2
  refine end_panic (w0 := w) (b := w.heap.size + 1 + 1) rfl (HBE.out.below HB1.out hs3) (v := .tuple #[.int .i64 0, .int .i64 EE]) (fun w' hk _ => ?_) (by omega) (HBW.out.trans (HB1.out.mono (by omega))) (fun w' h => ⟨by rw [HR.out], h⟩)
  have g0 := hk.cell 0
  simp [results, Try.results18, go_sem, g0]
set_option maxRecDepth 100000 in
set_option maxHeartbeats 6400000 in
theorem PAdd_clash (n : Int) (w : World) (hP : PressIn w w.heap.size fa fl low top bales wa wl p) (hv : p.ok = true) (hset : p.setB n = true) (ht : p.wrong ≠ 0) :
    Calls Try.prog 18 #[pressV fa fl fc low top bales wa wl wc, .int .i64 n] w fun e w' => e = .returned (.tuple #[.int .i64 0, .int .i64 (setE p n)]) ∧ Below w.heap.size w w' := by
  have HR : Hid (setE p n = 10) := by show _ = _; simp [setE, hv, hset, ht]
  have HV := Lib.hid hv
  have HS := Lib.hid hset
  have HT := Lib.hid ht
  clear hv hset ht
  have HP := Lib.hid hP
  have HL : Hid (fl ≤ 9223372036854775807 ∧ wl ≤ 9223372036854775807) := ⟨hP.mfl, hP.mwl⟩
  have HFL : Hid (p.n = fl) := hP.efl
  have EG := Lib.hid (enters_of Try.func65 (by kernel_rfl) rfl)
  have hmf : ∀ (fn : Fn) (first cap : Array Value) (w : World), (Instr.makeFunc fn first cap).run Try.prog w = .ok (.func fn first cap) w := fun _ _ _ _ => rfl
  clear hP
  unfold pressV
  go_enter_defers Try.func18, Try.ntmps18
  go_wp2_with fail
  obtain ⟨W, hW⟩ : ∃ W, W = (((w.alloc (Obj.cells #[Value.slice fa fl fc, Value.int IntKind.i64 low, Value.int IntKind.i64 top, Value.int IntKind.i64 bales, Value.slice wa wl wc] 25)).alloc (.cells #[.int .i64 n] 3)).alloc (.cells #[.int .i64 0] 30)) := ⟨_, rfl⟩
  have b0 : Blk W w.heap.size 25 #[.slice fa fl fc, .int .i64 low, .int .i64 top, .int .i64 bales, .slice wa wl wc] := by rw [hW]; exact ((Blk.new_ rfl _ _).alloc _).alloc _
  have b1 : Blk W (w.heap.size + 1) 3 #[.int .i64 n] := by rw [hW]; exact (Blk.new_ (by simp) _ _).alloc _
  have b3 : Blk W (w.heap.size + 1 + 1) 30 #[.int .i64 0] := by rw [hW]; exact Blk.new_ (by simp) _ _
  have HBW : Hid (Below w.heap.size w W) := by rw [hW]; exact (((Below.refl w.heap.size w).alloc (by simp) _).alloc (by simp) _).alloc (by simp; omega) _
  have c00 : W.cell? ⟨w.heap.size, 0, none⟩ = some (.slice fa fl fc) := b0.cell 0
  have c10 : W.cell? ⟨w.heap.size + 1, 0, none⟩ = some (.int .i64 n) := b1.cell 0
  have hs0 : w.heap.size < W.heap.size := b0.lt
  have hs1 : w.heap.size + 1 < W.heap.size := b1.lt
  have hs3 : w.heap.size + 1 + 1 < W.heap.size := b3.lt
  have HBE := Lib.hid b3
  have hW' := hW.symm
  rw [hW']
  clear hW hW' b0 b1 b3
  refine (open_fine (p := p) 65 #[.pointer (some ⟨w.heap.size + 1, 0, none⟩)] EG.out W (by exact HP.out.grow HBW.out) HV.out (by rw [← HS.out]; exact isShed_set 65 (.inr (.inr rfl)) (by have := (PressD.ok_head HV.out).1; omega) _ _ W c10 hs1)).mono ?_
  rintro e w1 ⟨d, r, ga, rfl, hSD, _, _, hb1⟩
  have HSD := Lib.hid (hSD.shed HL.out.1 HL.out.2)
  have HB1 : Hid (Below W.heap.size W w1) := hb1
  clear hb1 hSD
  go_wp2_with fail
  refine (told_any HV.out _ HSD.out).mono ?_
  rw [if_neg HT.out]
  rintro e w2 ⟨rfl, hb2⟩
  have HB2 : Hid (Below W.heap.size W w2) := HB1.out.trans (hb2.mono HB1.out.size)
  clear hb2
  go_wp2
  refine end_panic (w0 := w) (b := w.heap.size + 1 + 1) rfl (HBE.out.below HB2.out hs3) (v := .tuple #[.int .i64 0, .int .i64 10]) (fun w' hk _ => ?_) (by omega) (HBW.out.trans (HB2.out.mono (by omega))) (fun w' h => ⟨by rw [HR.out], h⟩)
  have g0 := hk.cell 0
  simp [results, Try.results18, go_sem, g0]
/-- What Add returns. -/
def addR (p : PressD) (n : Int) : Value := .tuple (if setE p n = 0 then (if addI p n.toNat < 0 then #[.int .i64 0, .int .i64 4] else #[.int .i64 (addI p n.toNat), .int .i64 0]) else #[.int .i64 0, .int .i64 (setE p n)])
set_option maxRecDepth 100000 in
set_option maxHeartbeats 6400000 in
theorem PAdd_ok (n : Int) (w : World) (hP : PressIn w w.heap.size fa fl low top bales wa wl p) (hv : p.ok = true) (hset : p.setB n = true) (ht : p.wrong = 0) :
    Calls Try.prog 18 #[pressV fa fl fc low top bales wa wl wc, .int .i64 n] w fun e w' => e = .returned (addR p n) ∧ Below w.heap.size w w' := by
  have hR : setE p n = 0 := by simp [setE, hv, hset, ht]
  obtain ⟨hn, hlt⟩ := set_nat hset
  have HR : Hid (addR p n = .tuple (if addI p n.toNat < 0 then #[.int .i64 0, .int .i64 4] else #[.int .i64 (addI p n.toNat), .int .i64 0])) := by show _ = _; rw [addR, if_pos hR]
  obtain ⟨s, hs2⟩ : ∃ s, n.toNat = s := ⟨_, rfl⟩
  rw [hs2] at hn hlt HR
  have HLT := Lib.hid hlt
  have hsb : n ≤ 1024 := by have := PressD.n_pow hv; omega
  have hs00 : (0 : Int) ≤ s := by omega
  have HN10 := Lib.hid (PressD.ok_head hv).1
  have HPW := Lib.hid (PressD.n_pow hv)
  have HV := Lib.hid hv
  have HS := Lib.hid hset
  have HT := Lib.hid ht
  have HNS := Lib.hid hn
  clear hv hset ht hlt hs2 hR hn
  have HP := Lib.hid hP
  have HL : Hid (fl ≤ 9223372036854775807 ∧ wl ≤ 9223372036854775807) := ⟨hP.mfl, hP.mwl⟩
  have HFL : Hid (p.n = fl) := hP.efl
  have EG := Lib.hid (enters_of Try.func65 (by kernel_rfl) rfl)
  have hmf : ∀ (fn : Fn) (first cap : Array Value) (w : World), (Instr.makeFunc fn first cap).run Try.prog w = .ok (.func fn first cap) w := fun _ _ _ _ => rfl
  clear hP
  unfold pressV
  go_enter_defers Try.func18, Try.ntmps18
  go_wp2_with fail
  obtain ⟨W, hW⟩ : ∃ W, W = (((w.alloc (Obj.cells #[Value.slice fa fl fc, Value.int IntKind.i64 low, Value.int IntKind.i64 top, Value.int IntKind.i64 bales, Value.slice wa wl wc] 25)).alloc (.cells #[.int .i64 n] 3)).alloc (.cells #[.int .i64 0] 30)) := ⟨_, rfl⟩
  have b0 : Blk W w.heap.size 25 #[.slice fa fl fc, .int .i64 low, .int .i64 top, .int .i64 bales, .slice wa wl wc] := by rw [hW]; exact ((Blk.new_ rfl _ _).alloc _).alloc _
  have b1 : Blk W (w.heap.size + 1) 3 #[.int .i64 n] := by rw [hW]; exact (Blk.new_ (by simp) _ _).alloc _
  have b3 : Blk W (w.heap.size + 1 + 1) 30 #[.int .i64 0] := by rw [hW]; exact Blk.new_ (by simp) _ _
  have HBW : Hid (Below w.heap.size w W) := by rw [hW]; exact (((Below.refl w.heap.size w).alloc (by simp) _).alloc (by simp) _).alloc (by simp; omega) _
  have c00 : W.cell? ⟨w.heap.size, 0, none⟩ = some (.slice fa fl fc) := b0.cell 0
  have c10 : W.cell? ⟨w.heap.size + 1, 0, none⟩ = some (.int .i64 n) := b1.cell 0
  have hs0 : w.heap.size < W.heap.size := b0.lt
  have hs1 : w.heap.size + 1 < W.heap.size := b1.lt
  have hs3 : w.heap.size + 1 + 1 < W.heap.size := b3.lt
  have HBE := Lib.hid b3
  have hW' := hW.symm
  rw [hW']
  clear hW hW' b0 b1 b3
  refine (open_fine (p := p) 65 #[.pointer (some ⟨w.heap.size + 1, 0, none⟩)] EG.out W (by exact HP.out.grow HBW.out) HV.out (by rw [← HS.out]; exact isShed_set 65 (.inr (.inr rfl)) (by have := (PressD.ok_head HV.out).1; omega) _ _ W c10 hs1)).mono ?_
  rintro e w1 ⟨d, r, ga, rfl, hSD, _, _, hb1⟩
  have HSD := Lib.hid (hSD.shed HL.out.1 HL.out.2)
  have HB1 : Hid (Below W.heap.size W w1) := hb1
  clear hb1 hSD
  go_wp2_with fail
  refine (told_any HV.out _ HSD.out).mono ?_
  rw [if_pos HT.out]
  rintro e w2 ⟨rfl, hb2⟩
  have HB2 : Hid (Below W.heap.size W w2) := HB1.out.trans (hb2.mono HB1.out.size)
  have HSD2 := Lib.hid (HSD.out.grow hb2)
  clear hb2
  have hn := HNS.out
  clear HNS
  subst hn
  have c02 : w2.cell? ⟨w.heap.size, 0, none⟩ = some (.slice fa fl fc) := (HB2.out.cell (p := ⟨w.heap.size, 0, none⟩) hs0).trans c00
  have hs02 : w.heap.size < w2.heap.size := by have := HB2.out.size; omega
  have hf10 : fl ≤ 10 := by have := HN10.out; have := HFL.out; omega
  go_wp2
  go_loopw [16] (fun i wr => ∃ k : Nat, k ≤ fl ∧ i = .int .i64 k ∧ Hid (∀ i, i < k → addB p s i = false) ∧ Below w2.heap.size w2 wr) (fun i _ => fl - (intOf i).toNat)
  case atStart => exact ⟨0, Nat.zero_le _, rfl, fun i hi => by omega, Below.refl _ _⟩
  case round =>
    obtain ⟨k, hk, rfl, HA, hb⟩ := hrel
    have HBR := Lib.hid hb
    have HBF : Hid (Below w.heap.size w wr) := HBW.out.trans ((HB2.out.trans (hb.mono HB2.out.size)).mono (by omega))
    have HER : Hid (Blk wr (w.heap.size + 1 + 1) 30 #[.int .i64 0]) := (HBE.out.below HB2.out hs3).below hb (by have := HB2.out.size; omega)
    have hsz := hb.size
    have hs1r : w.heap.size + 1 < wr.heap.size := by have := HB2.out.size; omega
    have c1r : wr.cell? ⟨w.heap.size + 1, 0, none⟩ = some (.int .i64 (s : Int)) := ((HB2.out.trans (hb.mono HB2.out.size)).cell (p := ⟨w.heap.size + 1, 0, none⟩) hs1).trans c10
    have HSDR := Lib.hid (HSD2.out.grow hb)
    have k0 : wr.cell? ⟨w.heap.size + 1 + 1, 0, none⟩ = some (.int .i64 0) := HER.out.cell 0
    have f0 : wr.frozen? ⟨w.heap.size + 1 + 1, 0, none⟩ = false := HER.out.frozen 0
    clear hb
    by_cases hlt : k < fl
    · have hpn := Nat.pow_le_pow_right (n := 2) (by omega) (show k ≤ 10 by omega)
      have hp0 : (0 : Int) ≤ 2 ^ k := Int.pow_nonneg (by omega)
      have hp1 : (2 : Int) ^ k ≤ 1024 := by
        have h2 : ((2 ^ k : Nat) : Int) ≤ ((2 ^ 10 : Nat) : Int) := by exact_mod_cast hpn
        simpa using h2
      have HOr : Hid (bits BinOp.or IntKind.u64 (s : Int) (2 ^ k) = ((s ||| 2 ^ k : Nat) : Int)) := by show _ = _; rw [← pow_cast, or_u64 _ _ (by omega) (by omega)]
      have HTL : Hid (s ||| 2 ^ k < 2 ^ p.n) := Nat.or_lt_two_pow HLT.out (Nat.pow_lt_pow_right (by omega) (by rw [HFL.out]; exact hlt))
      have HAB : Hid (addB p s k = (!s.testBit k && p.sure (s ||| 2 ^ k))) := rfl
      have HTB : Hid (s.testBit k = true → s ||| 2 ^ k = s) := or_two
      have HTN : Hid (s.testBit k = false → s ||| 2 ^ k ≠ s) := or_two_ne
      obtain ⟨T, hT⟩ : ∃ T, s ||| 2 ^ k = T := ⟨_, rfl⟩
      rw [hT] at HOr HTL HAB HTB HTN
      clear hT hpn
      go_wp2_with fail
      refine wp_region_havoc [(0,false),(1,false),(2,false),(3,false),(4,false),(5,false)] [] (fun _ _ => False) (by kernel_rfl) (by kernel_rfl) (fun _ _ _ _ h => h.elim) ?_
      (apply hav_same (by simp only [List.getElem?_toArray, List.getElem?_cons_zero]; rfl) (by kernel_rfl); (focus (intro wv hgv _; have hcv : ∀ b o, b < _ → wv.cell? ⟨b, o, none⟩ = _ := fun b o hb => Below.cell hgv (p := ⟨b, o, none⟩) hb; (try go_simp); try rfl; done)); simp only [Act.put, List.setIfInBounds_toArray, List.set_cons_succ, List.set_cons_zero])
      (apply hav_same (by simp only [List.getElem?_toArray, List.getElem?_cons_succ, List.getElem?_cons_zero]; rfl) (by kernel_rfl); (focus (intro wv hgv _; exact convU rfl rfl hs00 (by omega) _)); simp only [Act.put, List.setIfInBounds_toArray, List.set_cons_succ, List.set_cons_zero])
      iterate 2 (apply hav_same (by simp only [List.getElem?_toArray, List.getElem?_cons_succ, List.getElem?_cons_zero]; rfl) (by kernel_rfl); (focus (intro wv hgv _; have hcv : ∀ b o, b < _ → wv.cell? ⟨b, o, none⟩ = _ := fun b o hb => Below.cell hgv (p := ⟨b, o, none⟩) hb; (try go_simp); try rfl; done)); simp only [Act.put, List.setIfInBounds_toArray, List.set_cons_succ, List.set_cons_zero])
      (apply hav_same (by simp only [List.getElem?_toArray, List.getElem?_cons_succ, List.getElem?_cons_zero]; rfl) (by kernel_rfl); (focus (intro wv hgv _; have hcv : ∀ b o, b < _ → wv.cell? ⟨b, o, none⟩ = _ := fun b o hb => Below.cell hgv (p := ⟨b, o, none⟩) hb; have hOr := HOr.out; have hwp : IntKind.u64.wrap (2 ^ k) = 2 ^ k := wrap_u64 hp0 (by omega); (try go_simp); try rfl; done)); simp only [Act.put, List.setIfInBounds_toArray, List.set_cons_succ, List.set_cons_zero])
      (apply hav_same (by simp only [List.getElem?_toArray, List.getElem?_cons_succ, List.getElem?_cons_zero]; rfl) (by kernel_rfl); (focus (intro wv hgv _; have hcv : ∀ b o, b < _ → wv.cell? ⟨b, o, none⟩ = _ := fun b o hb => Below.cell hgv (p := ⟨b, o, none⟩) hb; (try go_simp); try rfl; done)); simp only [Act.put, List.setIfInBounds_toArray, List.set_cons_succ, List.set_cons_zero])
      refine hav_end (fun w3 hgw3 _ => ?_); simp only [List.filterMap]; have hcw3 : ∀ b o, b < _ → w3.cell? ⟨b, o, none⟩ = _ := fun b o hb => Below.cell hgw3 (p := ⟨b, o, none⟩) hb; have hfw3 : ∀ b o, b < _ → w3.frozen? ⟨b, o, none⟩ = _ := fun b o hb => Below.frozen hgw3 (p := ⟨b, o, none⟩) hb; have hzw3 := Below.size hgw3; (try simp at hzw3)
      have HG3 : Hid (Below wr.heap.size wr w3) := hgw3
      have HSD3 := Lib.hid (HSDR.out.grow hgw3)
      have c3 : w3.cell? ⟨w.heap.size + 1, 0, none⟩ = some (.int .i64 (s : Int)) := (hgw3.cell (p := ⟨w.heap.size + 1, 0, none⟩) hs1r).trans c1r
      have HB3 : Hid (Below w2.heap.size w2 w3) := HBR.out.trans (hgw3.mono (by omega))
      have HE3 : Hid (Blk w3 (w.heap.size + 1 + 1) 30 #[.int .i64 0]) := HER.out.below hgw3 HER.out.lt
      have HF3 : Hid (Below w.heap.size w w3) := HBF.out.trans (hgw3.mono HBF.out.size)
      clear hgw3 hcw3 hfw3
      cases hb : s.testBit k
      · have hne : ((T : Int) != (s : Int)) = true := by
          have := HTN.out hb
          simp; omega
        have hne2 : (T != s) = true := by simpa using HTN.out hb
        rw [hb] at HAB
        clear hb
        go_wp2_with fail
        refine (sure_any HV.out T HTL.out _ (by exact HSD3.out)).mono ?_
        cases hu : p.sure T
        · rintro e w4 ⟨rfl, hb4⟩
          have HA2 : Hid (∀ i, i < k + 1 → addB p s i = false) := fun i hi => by
            by_cases e : i = k
            · subst e; rw [HAB.out, hu]; rfl
            · exact HA.out i (by omega)
          have HB4 := Lib.hid (HB3.out.trans (hb4.mono HB3.out.size))
          clear hb4 hu
          go_wp2
          go_roundw
          case rel => exact ⟨k + 1, by omega, by go_num, HA2, HB4.out⟩
          case measure => simp [intOf]; omega
        · rintro e w4 ⟨rfl, hb4⟩
          have HRI : Hid (addR p s = .tuple #[.int .i64 k, .int .i64 0]) := by
            have e := addI_some (p := p) (s := s) (k := k) (by rw [HFL.out]; exact hlt) HA.out (by rw [HAB.out, hu]; rfl)
            show _ = _
            rw [HR.out, e, if_neg (by omega)]
          have HE4 : Hid (Blk w4 (w.heap.size + 1 + 1) 30 #[.int .i64 0]) := HE3.out.below hb4 HE3.out.lt
          have k4 : w4.cell? ⟨w.heap.size + 1 + 1, 0, none⟩ = some (.int .i64 0) := HE4.out.cell 0
          have f4 : w4.frozen? ⟨w.heap.size + 1 + 1, 0, none⟩ = false := HE4.out.frozen 0
          have HB4 := Lib.hid (HF3.out.trans (hb4.mono HF3.out.size))
          clear hb4 hu
          go_wp2
          have g0 := (HE4.out.set_ 0 (.int .i64 0)).cell 0
          simp at g0
          exact api_returns (b := w.heap.size + 1 + 1) rfl (v := .tuple #[.int .i64 k, .int .i64 0]) (by simp [results, Try.results18, go_sem, g0]) ⟨by rw [HRI.out], setCell_below HB4.out (by omega) _ _⟩
      · have hne : ((T : Int) != (s : Int)) = false := by
          have := HTB.out hb
          simp; omega
        have hne2 : (T != s) = false := by simpa using HTB.out hb
        have HA2 : Hid (∀ i, i < k + 1 → addB p s i = false) := fun i hi => by
          by_cases e : i = k
          · subst e; rw [HAB.out, hb]; rfl
          · exact HA.out i (by omega)
        clear hb
        go_wp2
        go_roundw
        case rel => exact ⟨k + 1, by omega, by go_num, HA2, HB3.out⟩
        case measure => simp [intOf]; omega
    · obtain rfl : fl = k := by omega
      have HRI : Hid (addR p s = .tuple #[.int .i64 0, .int .i64 4]) := by
        show _ = _
        rw [HR.out, addI_none (p := p) (s := s) (by rw [HFL.out]; exact HA.out), if_pos (by omega)]
      go_wp2
      have g0 := (HER.out.set_ 0 (.int .i64 4)).cell 0
      simp at g0
      exact api_returns (b := w.heap.size + 1 + 1) rfl (v := .tuple #[.int .i64 0, .int .i64 4]) (by simp [results, Try.results18, go_sem, g0]) ⟨by rw [HRI.out], setCell_below HBF.out (by omega) _ _⟩
theorem PAdd_any (n : Int) (w : World) (hP : PressIn w w.heap.size fa fl low top bales wa wl p) :
    Calls Try.prog 18 #[pressV fa fl fc low top bales wa wl wc, .int .i64 n] w fun e w' => e = .returned (addR p n) ∧ Below w.heap.size w w' := by
  cases hv : p.ok
  · rw [addR, if_neg (setE_ne (.inl hv))]; exact PAdd_err n w hP (.inl hv)
  cases hs : p.setB n
  · rw [addR, if_neg (setE_ne (.inr hs))]; exact PAdd_err n w hP (.inr hs)
  by_cases ht : p.wrong = 0
  · exact PAdd_ok n w hP hv hs ht
  · rw [addR, if_neg (by simp [setE, hv, hs, ht])]; exact PAdd_clash n w hP hv hs ht
end
end Go.Proofs.Ytbfjebglaimcmaa
