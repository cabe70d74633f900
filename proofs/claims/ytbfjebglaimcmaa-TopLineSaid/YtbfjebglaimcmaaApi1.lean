/- The walk of False: for every press. The walk of Weight: for every press. -/
import Derived.Test.YtbfjebglaimcmaaOpen5
namespace Go.Proofs.Ytbfjebglaimcmaa
open Go.RowKit Go.Hav Go.Shelf
/-- What False returns. -/
def falseR (p : PressD) : Value := .tuple (if p.ok = false then #[.int .i64 0, .int .i64 1] else if p.wrong = 0 then #[.int .i64 0, .int .i64 4] else #[.int .i64 (p.wrong : Nat), .int .i64 0])
section
variable {low top bales : Int} {fa wa : Option Addr} {fl fc wl wc : Nat} {p : PressD}
theorem end_panic {fn : Func} {R : Ending → World → Prop} {a : Act} {w0 w : World} {b : Nat} {e : Int} {v : Value} {t : TypeId} (hd : a.defers = [ansD b]) (hk : Blk w b t #[.int .i64 0])
    (hv : ∀ w' : World, Blk w' b t #[.int .i64 e] → (∀ g, g ≠ b → w'.heap[g]? = w.heap[g]?) → (results fn a.tmps).run Try.prog w' = .ok v w') (h0 : w0.heap.size ≤ b) (hb : Below w0.heap.size w0 w) (hR : ∀ w', Below w0.heap.size w0 w' → R (.returned v) w') :
    bodyPostD Try.prog fn R (.panic [refE e]) a w :=
  api_panics hd (hk.cell 0) (hk.frozen 0) (hv _ (hk.set_ 0 _) (fun g hg => Below.heap_setCell w ⟨b, 0, none⟩ _ g hg)) (hR _ (setCell_below hb h0 0 _))
set_option maxRecDepth 100000 in
set_option maxHeartbeats 1600000 in
theorem PFalse_any (w : World) (hP : PressIn w w.heap.size fa fl low top bales wa wl p) :
    Calls Try.prog 20 #[pressV fa fl fc low top bales wa wl wc] w fun e w' => e = .returned (falseR p) ∧ Below w.heap.size w w' := by
  have HP := Lib.hid hP
  have HL : Hid (fl ≤ 9223372036854775807 ∧ wl ≤ 9223372036854775807) := ⟨hP.mfl, hP.mwl⟩
  have EG := Lib.hid (enters_of Try.func69 (by kernel_rfl) rfl)
  clear hP
  cases hv : p.ok
  · have HV := Lib.hid hv
    have HR : Hid (falseR p = .tuple #[.int .i64 0, .int .i64 1]) := by show _ = _; simp [falseR, hv]
    clear hv
    unfold pressV
    go_enter_defers Try.func20, Try.ntmps20
    go_wp2_with fail
    refine (open_bad (p := p) _ _ (by exact HP.out.grow (by repeat (first | exact Below.refl _ _ | assumption | refine Below.drew ?_ | refine below_drewN ?_ _ | refine Below.alloc ?_ (by (try simp) <;> omega) _ | refine Below.setCell ?_ (by (try simp) <;> omega) _ | refine Below.trans ?_ (Below.mono (by assumption) (by (try simp) <;> omega))))) HV.out).mono ?_
    rintro e w1 ⟨rfl, hb1⟩
    have HK1 : Hid (Blk w1 (w.heap.size + 1) 30 #[.int .i64 0]) := (Blk.new_ (by simp) _ _).below hb1 (by simp)
    have HB1 : Hid (Below w.heap.size w w1) := (((Below.refl w.heap.size w).alloc (by simp) _).alloc (by simp) _).trans (hb1.mono (by simp; omega))
    clear hb1
    go_wp2
    refine end_panic (b := w.heap.size + 1) rfl HK1.out (v := .tuple #[.int .i64 0, .int .i64 1]) (fun w' hk _ => ?_) (by omega) HB1.out (fun w' h => ⟨by rw [HR.out], h⟩)
    have g0 := hk.cell 0
    simp [results, Try.results20, go_sem, g0]
  · have HV := Lib.hid hv
    by_cases hw : p.wrong = 0
    · have HW := Lib.hid hw
      have HR : Hid (falseR p = .tuple #[.int .i64 0, .int .i64 4]) := by show _ = _; simp [falseR, hv, hw]
      clear hv hw
      unfold pressV
      go_enter_defers Try.func20, Try.ntmps20
      go_wp2_with fail
      refine (open_fine (p := p) 69 #[] EG.out _ (by exact HP.out.grow (by repeat (first | exact Below.refl _ _ | assumption | refine Below.drew ?_ | refine below_drewN ?_ _ | refine Below.alloc ?_ (by (try simp) <;> omega) _ | refine Below.setCell ?_ (by (try simp) <;> omega) _ | refine Below.trans ?_ (Below.mono (by assumption) (by (try simp) <;> omega))))) HV.out (isShed_always _)).mono ?_
      rintro e w1 ⟨d, r, ga, rfl, hS, _, hr, hb1⟩
      have HS := Lib.hid hS
      have HK1 : Hid (Blk w1 (w.heap.size + 1) 30 #[.int .i64 0]) := (Blk.new_ (by simp) _ _).below hb1 (by simp)
      have HB1 : Hid (Below w.heap.size w w1) := (((Below.refl w.heap.size w).alloc (by simp) _).alloc (by simp) _).trans (hb1.mono (by simp; omega))
      clear hb1 hS hr
      go_wp2_with fail
      refine (wrong_any HV.out _ (HS.out.shed HL.out.1 HL.out.2)).mono ?_
      rw [HW.out]
      rintro e w2 ⟨rfl, hb2⟩
      have HK2 : Hid (Blk w2 (w.heap.size + 1) 30 #[.int .i64 0]) := HK1.out.below hb2 HK1.out.lt
      have HB2 : Hid (Below w.heap.size w w2) := HB1.out.trans (hb2.mono HB1.out.size)
      clear hb2
      go_wp2_with fail
      refine (ask_any false 4 _).mono ?_
      rintro e w' ⟨q1, rfl⟩
      obtain rfl : e = .panicked [refE 4] := q1
      go_wp2
      refine end_panic (b := w.heap.size + 1) rfl HK2.out (v := .tuple #[.int .i64 0, .int .i64 4]) (fun w' hk _ => ?_) (by omega) HB2.out (fun w' h => ⟨by rw [HR.out], h⟩)
      have g0 := hk.cell 0
      simp [results, Try.results20, go_sem, g0]
    · have HR : Hid (falseR p = .tuple #[.int .i64 (p.wrong : Nat), .int .i64 0]) := by show _ = _; simp [falseR, hv, hw]
      have hne : ((p.wrong : Int) != 0) = true := by simp; omega
      clear hv hw
      unfold pressV
      go_enter_defers Try.func20, Try.ntmps20
      go_wp2_with fail
      refine (open_fine (p := p) 69 #[] EG.out _ (by exact HP.out.grow (by repeat (first | exact Below.refl _ _ | assumption | refine Below.drew ?_ | refine below_drewN ?_ _ | refine Below.alloc ?_ (by (try simp) <;> omega) _ | refine Below.setCell ?_ (by (try simp) <;> omega) _ | refine Below.trans ?_ (Below.mono (by assumption) (by (try simp) <;> omega))))) HV.out (isShed_always _)).mono ?_
      rintro e w1 ⟨d, r, ga, rfl, hS, _, hr, hb1⟩
      have HS := Lib.hid hS
      have HK1 : Hid (Blk w1 (w.heap.size + 1) 30 #[.int .i64 0]) := (Blk.new_ (by simp) _ _).below hb1 (by simp)
      have HB1 : Hid (Below w.heap.size w w1) := (((Below.refl w.heap.size w).alloc (by simp) _).alloc (by simp) _).trans (hb1.mono (by simp; omega))
      clear hb1 hS hr
      go_wp2_with fail
      refine (wrong_any HV.out _ (HS.out.shed HL.out.1 HL.out.2)).mono ?_
      rintro e w2 ⟨rfl, hb2⟩
      have HK2 : Hid (Blk w2 (w.heap.size + 1) 30 #[.int .i64 0]) := HK1.out.below hb2 HK1.out.lt
      have HB2 : Hid (Below w.heap.size w w2) := HB1.out.trans (hb2.mono HB1.out.size)
      clear hb2
      go_wp2_with fail
      refine (ask_any true 4 _).mono ?_
      rintro e w' ⟨q1, rfl⟩
      obtain rfl : e = .returned (.tuple #[]) := q1
      have k0 : w'.cell? ⟨w.heap.size + 1, 0, none⟩ = some (.int .i64 0) := HK2.out.cell 0
      have f0 : w'.frozen? ⟨w.heap.size + 1, 0, none⟩ = false := HK2.out.frozen 0
      go_wp2
      have g0 := (HK2.out.set_ 0 (.int .i64 0)).cell 0
      exact api_returns (b := w.heap.size + 1) rfl (v := .tuple #[.int .i64 (p.wrong : Nat), .int .i64 0]) (by simp [results, Try.results20, go_sem, g0]) ⟨by rw [HR.out], setCell_below HB2.out (by omega) 0 _⟩
end
end Go.Proofs.Ytbfjebglaimcmaa
namespace Go.Proofs.Ytbfjebglaimcmaa
open Go.RowKit Go.Hav Go.Shelf
/-- The error of what asks for a set: 0: none. -/
def setE (p : PressD) (n : Int) : Int := if p.ok = false then 1 else if p.setB n = false then 2 else if p.wrong = 0 then 0 else 10
def weightR (p : PressD) (n : Int) : Sp := if setE p n = 0 then p.weight n.toNat else ⟨0, 0⟩
theorem setE_bad {p : PressD} {n : Int} (h : p.ok = false ∨ p.setB n = false) : setE p n = if p.ok then 2 else 1 := by
  unfold setE
  cases hv : p.ok
  · simp
  · rcases h with h | h
    · rw [hv] at h; cases h
    · simp [h]
theorem setE_ne {p : PressD} {n : Int} (h : p.ok = false ∨ p.setB n = false) : setE p n ≠ 0 := by
  rw [setE_bad h]; split <;> simp
theorem set_nat {p : PressD} {n : Int} (h : p.setB n = true) : n = (n.toNat : Int) ∧ n.toNat < 2 ^ p.n := by
  rw [PressD.setB] at h
  have h1 := inB_iff.1 h
  refine ⟨by omega, ?_⟩
  have h2 : n.toNat ≤ full p.n := by omega
  exact le_full.1 h2
section
variable {low top bales : Int} {fa wa : Option Addr} {fl fc wl wc : Nat} {p : PressD}
set_option maxRecDepth 100000 in
set_option maxHeartbeats 6400000 in
theorem PWeight_err (n : Int) (w : World) (hP : PressIn w w.heap.size fa fl low top bales wa wl p) (h : p.ok = false ∨ p.setB n = false) :
    Calls Try.prog 14 #[pressV fa fl fc low top bales wa wl wc, .int .i64 n] w fun e w' => e = .returned (.tuple #[spV (weightR p n), .int .i64 (setE p n)]) ∧ Below w.heap.size w w' := by
  obtain ⟨EE, hEE⟩ : ∃ EE, (if p.ok then (2 : Int) else 1) = EE := ⟨_, rfl⟩
  have HEE := Lib.hid hEE
  have HR : Hid (Value.tuple #[spV (weightR p n), .int .i64 (setE p n)] = .tuple #[spV ⟨0, 0⟩, .int .i64 EE]) := by show _ = _; rw [weightR, if_neg (setE_ne h), setE_bad h, hEE]
  have HH := Lib.hid h
  clear h hEE
  have HP := Lib.hid hP
  have HL : Hid (fl ≤ 9223372036854775807 ∧ wl ≤ 9223372036854775807) := ⟨hP.mfl, hP.mwl⟩
  have EG := Lib.hid (enters_of Try.func56 (by kernel_rfl) rfl)
  have hmf : ∀ (fn : Fn) (first cap : Array Value) (w : World), (Instr.makeFunc fn first cap).run Try.prog w = .ok (.func fn first cap) w := fun _ _ _ _ => rfl
  clear hP
  unfold pressV
  go_enter_defers Try.func14, Try.ntmps14
  go_wp2_with fail
  obtain ⟨W, hW⟩ : ∃ W, W = (((w.alloc (Obj.cells #[Value.slice fa fl fc, Value.int IntKind.i64 low, Value.int IntKind.i64 top, Value.int IntKind.i64 bales, Value.slice wa wl wc] 25)).alloc (.cells #[.int .i64 n] 3)).alloc (.cells #[.int .i64 0, .int .i64 0] 29)).alloc (.cells #[.int .i64 0] 30) := ⟨_, rfl⟩
  have b0 : Blk W w.heap.size 25 #[.slice fa fl fc, .int .i64 low, .int .i64 top, .int .i64 bales, .slice wa wl wc] := by rw [hW]; exact (((Blk.new_ rfl _ _).alloc _).alloc _).alloc _
  have b1 : Blk W (w.heap.size + 1) 3 #[.int .i64 n] := by rw [hW]; exact ((Blk.new_ (by simp) _ _).alloc _).alloc _
  have b2 : Blk W (w.heap.size + 1 + 1) 29 #[.int .i64 0, .int .i64 0] := by rw [hW]; exact (Blk.new_ (by simp) _ _).alloc _
  have b3 : Blk W (w.heap.size + 1 + 1 + 1) 30 #[.int .i64 0] := by rw [hW]; exact Blk.new_ (by simp) _ _
  have HBW : Hid (Below w.heap.size w W) := by rw [hW]; exact ((((Below.refl w.heap.size w).alloc (by simp) _).alloc (by simp) _).alloc (by simp; omega) _).alloc (by simp; omega) _
  have c00 : W.cell? ⟨w.heap.size, 0, none⟩ = some (.slice fa fl fc) := b0.cell 0
  have c01 : W.cell? ⟨w.heap.size, 1, none⟩ = some (.int .i64 low) := b0.cell 1
  have c02 : W.cell? ⟨w.heap.size, 2, none⟩ = some (.int .i64 top) := b0.cell 2
  have c03 : W.cell? ⟨w.heap.size, 3, none⟩ = some (.int .i64 bales) := b0.cell 3
  have c04 : W.cell? ⟨w.heap.size, 4, none⟩ = some (.slice wa wl wc) := b0.cell 4
  have c10 : W.cell? ⟨w.heap.size + 1, 0, none⟩ = some (.int .i64 n) := b1.cell 0
  have hs0 : w.heap.size < W.heap.size := b0.lt
  have hs1 : w.heap.size + 1 < W.heap.size := b1.lt
  have hs2 : w.heap.size + 1 + 1 < W.heap.size := b2.lt
  have hs3 : w.heap.size + 1 + 1 + 1 < W.heap.size := b3.lt
  have HBS := Lib.hid b2
  have HBE := Lib.hid b3
  have hW' := hW.symm
  rw [hW']
  clear hW hW' b0 b1 b2 b3
  refine wp_region_havoc [(0,false),(1,false),(4,false),(5,false),(2,true),(3,false),(6,false),(7,false)] [8, 9] (fun ch wp => ch = [refE EE] ∧ Grow W wp) (by kernel_rfl) (by kernel_rfl) ?hQ ?_
  case hQ =>
    rintro ch a' w' hA ⟨rfl, hg⟩
    refine end_panic (w0 := w) (b := w.heap.size + 1 + 1 + 1) hA.1 (HBE.out.below hg hs3) (v := .tuple #[spV ⟨0, 0⟩, .int .i64 EE]) (fun wz hk hfar => ?_) (by omega) (HBW.out.trans (hg.mono (by omega))) (fun wz h => ⟨by rw [HR.out], h⟩)
    have HS' : Blk wz (w.heap.size + 1 + 1) 29 #[.int .i64 0, .int .i64 0] := (hfar _ (by omega)).trans (HBS.out.below hg hs2)
    have g0 := hk.cell 0
    have g1 := HS'.cell 0
    have g2 := HS'.cell 1
    have e4 := hA.slot 4 (by kernel_rfl)
    have e5 := hA.slot 5 (by kernel_rfl)
    simp at e4 e5 g0 g1 g2
    simp [results, Try.results14, go_sem, e4, e5, g0, g1, g2, spV]
  iterate 3 (apply hav_same (by simp only [List.getElem?_toArray, List.getElem?_cons_succ, List.getElem?_cons_zero]; rfl) (by kernel_rfl); (focus (intro wv hgv _; have hcv : ∀ b o, b < _ → wv.cell? ⟨b, o, none⟩ = _ := fun b o hb => Below.cell hgv (p := ⟨b, o, none⟩) hb; (try go_simp); try rfl; done)); simp only [Act.put, List.setIfInBounds_toArray, List.set_cons_succ, List.set_cons_zero])
  (apply hav_same (by simp only [List.getElem?_toArray, List.getElem?_cons_succ, List.getElem?_cons_zero]; rfl) (by kernel_rfl); (focus (intro wv hgv _; exact convW rfl rfl _)); simp only [Act.put, List.setIfInBounds_toArray, List.set_cons_succ, List.set_cons_zero])
  (apply hav_call_ghost (fun _ _ => False) (by simp only [List.getElem?_toArray, List.getElem?_cons_succ, List.getElem?_cons_zero]; rfl) (by kernel_rfl); (focus (intro wv; go_simp; try exact ⟨rfl, rfl⟩; done)); (focus (intro _ _ _ h _; exact h.elim)); (focus (intro wv hgv _; have hcv : ∀ b o, b < _ → wv.cell? ⟨b, o, none⟩ = _ := fun b o hb => Below.cell hgv (p := ⟨b, o, none⟩) hb; exact (open_panics (p := p) 56 #[.pointer (some ⟨w.heap.size + 1, 0, none⟩)] (p.setB n) EG.out wv (by exact HP.out.grow (HBW.out.trans (hgv.mono (by omega)))) (fun hv => isShed_set 56 (.inl rfl) (by have := (PressD.ok_head hv).1; omega) n _ wv (by rw [hcv _ _ hs1]; exact c10) (by have := hgv.size; omega)) HH.out).mono (fun e w' h => .inr ⟨_, h.1, by rw [HEE.out], Grow.trans hgv h.2⟩); done)); intro _; simp only [Act.put, List.setIfInBounds_toArray, List.set_cons_succ, List.set_cons_zero])
  iterate 3 (refine hav_det (V := undef) (by simp only [List.getElem?_toArray, List.getElem?_cons_succ, List.getElem?_cons_zero]; rfl) (fun _ _ hF => hF.2.elim) ?_; simp only [Act.put, List.setIfInBounds_toArray, List.set_cons_succ, List.set_cons_zero])
  exact hav_end (fun _ _ hF => hF.2.elim)
set_option maxRecDepth 100000 in
set_option maxHeartbeats 6400000 in
theorem PWeight_clash (n : Int) (w : World) (hP : PressIn w w.heap.size fa fl low top bales wa wl p) (hv : p.ok = true) (hset : p.setB n = true) (ht : p.wrong ≠ 0) :
    Calls Try.prog 14 #[pressV fa fl fc low top bales wa wl wc, .int .i64 n] w fun e w' => e = .returned (.tuple #[spV (weightR p n), .int .i64 (setE p n)]) ∧ Below w.heap.size w w' := by
  have HR : Hid (Value.tuple #[spV (weightR p n), .int .i64 (setE p n)] = .tuple #[spV ⟨0, 0⟩, .int .i64 10]) := by
    have e : setE p n = 10 := by simp [setE, hv, hset, ht]
    show _ = _; rw [weightR, e]; rfl
  have HV := Lib.hid hv
  have HS := Lib.hid hset
  have HT := Lib.hid ht
  clear hv hset ht
  have HP := Lib.hid hP
  have HL : Hid (fl ≤ 9223372036854775807 ∧ wl ≤ 9223372036854775807) := ⟨hP.mfl, hP.mwl⟩
  have EG := Lib.hid (enters_of Try.func56 (by kernel_rfl) rfl)
  have hmf : ∀ (fn : Fn) (first cap : Array Value) (w : World), (Instr.makeFunc fn first cap).run Try.prog w = .ok (.func fn first cap) w := fun _ _ _ _ => rfl
  clear hP
  unfold pressV
  go_enter_defers Try.func14, Try.ntmps14
  go_wp2_with fail
  obtain ⟨W, hW⟩ : ∃ W, W = (((w.alloc (Obj.cells #[Value.slice fa fl fc, Value.int IntKind.i64 low, Value.int IntKind.i64 top, Value.int IntKind.i64 bales, Value.slice wa wl wc] 25)).alloc (.cells #[.int .i64 n] 3)).alloc (.cells #[.int .i64 0, .int .i64 0] 29)).alloc (.cells #[.int .i64 0] 30) := ⟨_, rfl⟩
  have b0 : Blk W w.heap.size 25 #[.slice fa fl fc, .int .i64 low, .int .i64 top, .int .i64 bales, .slice wa wl wc] := by rw [hW]; exact (((Blk.new_ rfl _ _).alloc _).alloc _).alloc _
  have b1 : Blk W (w.heap.size + 1) 3 #[.int .i64 n] := by rw [hW]; exact ((Blk.new_ (by simp) _ _).alloc _).alloc _
  have b2 : Blk W (w.heap.size + 1 + 1) 29 #[.int .i64 0, .int .i64 0] := by rw [hW]; exact (Blk.new_ (by simp) _ _).alloc _
  have b3 : Blk W (w.heap.size + 1 + 1 + 1) 30 #[.int .i64 0] := by rw [hW]; exact Blk.new_ (by simp) _ _
  have HBW : Hid (Below w.heap.size w W) := by rw [hW]; exact ((((Below.refl w.heap.size w).alloc (by simp) _).alloc (by simp) _).alloc (by simp; omega) _).alloc (by simp; omega) _
  have c00 : W.cell? ⟨w.heap.size, 0, none⟩ = some (.slice fa fl fc) := b0.cell 0
  have c01 : W.cell? ⟨w.heap.size, 1, none⟩ = some (.int .i64 low) := b0.cell 1
  have c02 : W.cell? ⟨w.heap.size, 2, none⟩ = some (.int .i64 top) := b0.cell 2
  have c03 : W.cell? ⟨w.heap.size, 3, none⟩ = some (.int .i64 bales) := b0.cell 3
  have c04 : W.cell? ⟨w.heap.size, 4, none⟩ = some (.slice wa wl wc) := b0.cell 4
  have c10 : W.cell? ⟨w.heap.size + 1, 0, none⟩ = some (.int .i64 n) := b1.cell 0
  have hs0 : w.heap.size < W.heap.size := b0.lt
  have hs1 : w.heap.size + 1 < W.heap.size := b1.lt
  have hs2 : w.heap.size + 1 + 1 < W.heap.size := b2.lt
  have hs3 : w.heap.size + 1 + 1 + 1 < W.heap.size := b3.lt
  have HBS := Lib.hid b2
  have HBE := Lib.hid b3
  have hW' := hW.symm
  rw [hW']
  clear hW hW' b0 b1 b2 b3
  refine wp_region_havoc [(0,false),(1,false),(4,false),(5,false),(2,true),(3,true),(6,false),(7,false)] [8, 9] (fun ch wp => ch = [refE 10] ∧ Grow W wp) (by kernel_rfl) (by kernel_rfl) ?hQ ?_
  case hQ =>
    rintro ch a' w' hA ⟨rfl, hg⟩
    refine end_panic (w0 := w) (b := w.heap.size + 1 + 1 + 1) hA.1 (HBE.out.below hg hs3) (v := .tuple #[spV ⟨0, 0⟩, .int .i64 10]) (fun wz hk hfar => ?_) (by omega) (HBW.out.trans (hg.mono (by omega))) (fun wz h => ⟨by rw [HR.out], h⟩)
    have HS' : Blk wz (w.heap.size + 1 + 1) 29 #[.int .i64 0, .int .i64 0] := (hfar _ (by omega)).trans (HBS.out.below hg hs2)
    have g0 := hk.cell 0
    have g1 := HS'.cell 0
    have g2 := HS'.cell 1
    have e4 := hA.slot 4 (by kernel_rfl)
    have e5 := hA.slot 5 (by kernel_rfl)
    simp at e4 e5 g0 g1 g2
    simp [results, Try.results14, go_sem, e4, e5, g0, g1, g2, spV]
  iterate 3 (apply hav_same (by simp only [List.getElem?_toArray, List.getElem?_cons_succ, List.getElem?_cons_zero]; rfl) (by kernel_rfl); (focus (intro wv hgv _; have hcv : ∀ b o, b < _ → wv.cell? ⟨b, o, none⟩ = _ := fun b o hb => Below.cell hgv (p := ⟨b, o, none⟩) hb; (try go_simp); try rfl; done)); simp only [Act.put, List.setIfInBounds_toArray, List.set_cons_succ, List.set_cons_zero])
  (apply hav_same (by simp only [List.getElem?_toArray, List.getElem?_cons_succ, List.getElem?_cons_zero]; rfl) (by kernel_rfl); (focus (intro wv hgv _; exact convW rfl rfl _)); simp only [Act.put, List.setIfInBounds_toArray, List.set_cons_succ, List.set_cons_zero])
  (apply hav_call_ghost (fun (v : Value) (wq : World) => ∃ d r ga, v = .pointer (some ⟨d, 0, none⟩) ∧ ShedS wq r d ga fl low top bales wa wl wc (.slice none 0 0) p) (by simp only [List.getElem?_toArray, List.getElem?_cons_succ, List.getElem?_cons_zero]; rfl) (by kernel_rfl); (focus (intro wv; go_simp; try exact ⟨rfl, rfl⟩; done)); (focus (rintro v w1 w2 ⟨d, r, ga, rfl, h⟩ hg; exact ⟨d, r, ga, rfl, h.grow hg⟩)); (focus (intro wv hgv _; have hcv : ∀ b o, b < _ → wv.cell? ⟨b, o, none⟩ = _ := fun b o hb => Below.cell hgv (p := ⟨b, o, none⟩) hb; exact (open_fine (p := p) 56 #[.pointer (some ⟨w.heap.size + 1, 0, none⟩)] EG.out wv (by exact HP.out.grow (HBW.out.trans (hgv.mono (by omega)))) HV.out (by rw [← HS.out]; exact isShed_set 56 (.inl rfl) (by have := (PressD.ok_head HV.out).1; omega) _ _ wv (by rw [hcv _ _ hs1]; exact c10) (by have := hgv.size; omega))).mono (fun e w' ⟨d, r, ga, h1, h2, _, _, h5⟩ => .inl ⟨_, h1, h5, d, r, ga, rfl, h2⟩); done)); intro v; simp only [Act.put, List.setIfInBounds_toArray, List.set_cons_succ, List.set_cons_zero])
  by_cases hd : ∃ d, v = .pointer (some ⟨d, 0, none⟩)
  · obtain ⟨d, rfl⟩ := hd
    (apply hav_call_ghost (fun _ _ => False) (by simp only [List.getElem?_toArray, List.getElem?_cons_succ, List.getElem?_cons_zero]; rfl) (by kernel_rfl); (focus (intro wv; go_simp; try exact ⟨rfl, rfl⟩; done)); (focus (intro _ _ _ h _; exact h.elim)); (focus (rintro wv hgv ⟨_, d', r, ga, he, hD⟩; obtain rfl : d = d' := (by simpa using he); refine (told_any HV.out _ (hD.shed HL.out.1 HL.out.2)).mono ?_; rintro e w' ⟨h1, h2⟩; rw [if_neg HT.out] at h1; exact .inr ⟨_, h1, rfl, Grow.trans hgv h2⟩)); intro _; simp only [Act.put, List.setIfInBounds_toArray, List.set_cons_succ, List.set_cons_zero])
    iterate 2 (refine hav_det (V := undef) (by simp only [List.getElem?_toArray, List.getElem?_cons_succ, List.getElem?_cons_zero]; rfl) (fun _ _ hF => hF.2.elim) ?_; simp only [Act.put, List.setIfInBounds_toArray, List.set_cons_succ, List.set_cons_zero])
    exact hav_end (fun _ _ hF => hF.2.elim)
  · (refine hav_ghost (fun _ _ => False) (by simp only [List.getElem?_toArray, List.getElem?_cons_succ, List.getElem?_cons_zero]; rfl) (fun _ _ _ h _ => h) (fun _ _ hF => (hd (hF.2.imp fun d ⟨_, _, h, _⟩ => h)).elim) ?_; intro _; simp only [Act.put, List.setIfInBounds_toArray, List.set_cons_succ, List.set_cons_zero])
    iterate 2 (refine hav_det (V := undef) (by simp only [List.getElem?_toArray, List.getElem?_cons_succ, List.getElem?_cons_zero]; rfl) (fun _ _ hF => hF.2.elim) ?_; simp only [Act.put, List.setIfInBounds_toArray, List.set_cons_succ, List.set_cons_zero])
    exact hav_end (fun _ _ hF => hF.2.elim)
set_option maxRecDepth 100000 in
set_option maxHeartbeats 6400000 in
theorem PWeight_ok (n : Int) (w : World) (hP : PressIn w w.heap.size fa fl low top bales wa wl p) (hv : p.ok = true) (hset : p.setB n = true) (ht : p.wrong = 0) :
    Calls Try.prog 14 #[pressV fa fl fc low top bales wa wl wc, .int .i64 n] w fun e w' => e = .returned (.tuple #[spV (weightR p n), .int .i64 (setE p n)]) ∧ Below w.heap.size w w' := by
  obtain ⟨K, HKK⟩ : ∃ K, Hid (p.weight n.toNat = K) := ⟨_, rfl⟩
  have HR : Hid (Value.tuple #[spV (weightR p n), .int .i64 (setE p n)] = .tuple #[spV K, .int .i64 0]) := by
    have e : setE p n = 0 := by simp [setE, hv, hset, ht]
    show _ = _; rw [weightR, e, if_pos rfl, HKK.out]
  obtain ⟨hn, hlt⟩ := set_nat hset
  have HLT := Lib.hid hlt
  obtain ⟨s, HS2⟩ : ∃ s, Hid (n.toNat = s) := ⟨_, rfl⟩
  rw [HS2.out] at hn HLT HKK
  subst hn
  have hsb : (s : Int) ≤ 1024 := by have := PressD.n_pow hv; have := HLT.out; omega
  have hs00 : (0 : Int) ≤ s := by omega
  have HV := Lib.hid hv
  have HS := Lib.hid hset
  have HT := Lib.hid ht
  clear hv hset ht hlt
  have HP := Lib.hid hP
  have HL : Hid (fl ≤ 9223372036854775807 ∧ wl ≤ 9223372036854775807) := ⟨hP.mfl, hP.mwl⟩
  have EG := Lib.hid (enters_of Try.func56 (by kernel_rfl) rfl)
  have hmf : ∀ (fn : Fn) (first cap : Array Value) (w : World), (Instr.makeFunc fn first cap).run Try.prog w = .ok (.func fn first cap) w := fun _ _ _ _ => rfl
  clear hP
  unfold pressV
  go_enter_defers Try.func14, Try.ntmps14
  go_wp2_with fail
  obtain ⟨W, hW⟩ : ∃ W, W = (((w.alloc (Obj.cells #[Value.slice fa fl fc, Value.int IntKind.i64 low, Value.int IntKind.i64 top, Value.int IntKind.i64 bales, Value.slice wa wl wc] 25)).alloc (.cells #[.int .i64 s] 3)).alloc (.cells #[.int .i64 0, .int .i64 0] 29)).alloc (.cells #[.int .i64 0] 30) := ⟨_, rfl⟩
  have b0 : Blk W w.heap.size 25 #[.slice fa fl fc, .int .i64 low, .int .i64 top, .int .i64 bales, .slice wa wl wc] := by rw [hW]; exact (((Blk.new_ rfl _ _).alloc _).alloc _).alloc _
  have b1 : Blk W (w.heap.size + 1) 3 #[.int .i64 s] := by rw [hW]; exact ((Blk.new_ (by simp) _ _).alloc _).alloc _
  have b2 : Blk W (w.heap.size + 1 + 1) 29 #[.int .i64 0, .int .i64 0] := by rw [hW]; exact (Blk.new_ (by simp) _ _).alloc _
  have b3 : Blk W (w.heap.size + 1 + 1 + 1) 30 #[.int .i64 0] := by rw [hW]; exact Blk.new_ (by simp) _ _
  have HBW : Hid (Below w.heap.size w W) := by rw [hW]; exact ((((Below.refl w.heap.size w).alloc (by simp) _).alloc (by simp) _).alloc (by simp; omega) _).alloc (by simp; omega) _
  have c00 : W.cell? ⟨w.heap.size, 0, none⟩ = some (.slice fa fl fc) := b0.cell 0
  have c01 : W.cell? ⟨w.heap.size, 1, none⟩ = some (.int .i64 low) := b0.cell 1
  have c02 : W.cell? ⟨w.heap.size, 2, none⟩ = some (.int .i64 top) := b0.cell 2
  have c03 : W.cell? ⟨w.heap.size, 3, none⟩ = some (.int .i64 bales) := b0.cell 3
  have c04 : W.cell? ⟨w.heap.size, 4, none⟩ = some (.slice wa wl wc) := b0.cell 4
  have c10 : W.cell? ⟨w.heap.size + 1, 0, none⟩ = some (.int .i64 s) := b1.cell 0
  have hs0 : w.heap.size < W.heap.size := b0.lt
  have hs1 : w.heap.size + 1 < W.heap.size := b1.lt
  have hs2 : w.heap.size + 1 + 1 < W.heap.size := b2.lt
  have hs3 : w.heap.size + 1 + 1 + 1 < W.heap.size := b3.lt
  have HBS := Lib.hid b2
  have HBE := Lib.hid b3
  have hW' := hW.symm
  rw [hW']
  clear hW hW' b0 b1 b2 b3
  refine wp_region_havoc [(0,false),(1,false),(4,false),(5,false),(2,true),(3,false),(6,false),(7,false)] [8, 9] (fun _ _ => False) (by kernel_rfl) (by kernel_rfl) (fun _ _ _ _ h => h.elim) ?_
  iterate 3 (apply hav_same (by simp only [List.getElem?_toArray, List.getElem?_cons_succ, List.getElem?_cons_zero]; rfl) (by kernel_rfl); (focus (intro wv hgv _; have hcv : ∀ b o, b < _ → wv.cell? ⟨b, o, none⟩ = _ := fun b o hb => Below.cell hgv (p := ⟨b, o, none⟩) hb; (try go_simp); try rfl; done)); simp only [Act.put, List.setIfInBounds_toArray, List.set_cons_succ, List.set_cons_zero])
  (apply hav_same (by simp only [List.getElem?_toArray, List.getElem?_cons_succ, List.getElem?_cons_zero]; rfl) (by kernel_rfl); (focus (intro wv hgv _; exact convU rfl rfl hs00 (by omega) _)); simp only [Act.put, List.setIfInBounds_toArray, List.set_cons_succ, List.set_cons_zero])
  (apply hav_call_ghost (fun (v : Value) (wq : World) => ∃ d r ga, v = .pointer (some ⟨d, 0, none⟩) ∧ ShedS wq r d ga fl low top bales wa wl wc (.slice none 0 0) p) (by simp only [List.getElem?_toArray, List.getElem?_cons_succ, List.getElem?_cons_zero]; rfl) (by kernel_rfl); (focus (intro wv; go_simp; try exact ⟨rfl, rfl⟩; done)); (focus (rintro v w1 w2 ⟨d, r, ga, rfl, h⟩ hg; exact ⟨d, r, ga, rfl, h.grow hg⟩)); (focus (intro wv hgv _; have hcv : ∀ b o, b < _ → wv.cell? ⟨b, o, none⟩ = _ := fun b o hb => Below.cell hgv (p := ⟨b, o, none⟩) hb; exact (open_fine (p := p) 56 #[.pointer (some ⟨w.heap.size + 1, 0, none⟩)] EG.out wv (by exact HP.out.grow (HBW.out.trans (hgv.mono (by omega)))) HV.out (by rw [← HS.out]; exact isShed_set 56 (.inl rfl) (by have := (PressD.ok_head HV.out).1; omega) _ _ wv (by rw [hcv _ _ hs1]; exact c10) (by have := hgv.size; omega))).mono (fun e w' ⟨d, r, ga, h1, h2, _, _, h5⟩ => .inl ⟨_, h1, h5, d, r, ga, rfl, h2⟩); done)); intro v; simp only [Act.put, List.setIfInBounds_toArray, List.set_cons_succ, List.set_cons_zero])
  by_cases hd : ∃ d, v = .pointer (some ⟨d, 0, none⟩)
  case neg =>
    iterate 3 (refine hav_det (V := undef) (by simp only [List.getElem?_toArray, List.getElem?_cons_succ, List.getElem?_cons_zero]; rfl) (fun _ _ hF => (hd (hF.2.imp fun d ⟨_, _, h, _⟩ => h)).elim) ?_; simp only [Act.put, List.setIfInBounds_toArray, List.set_cons_succ, List.set_cons_zero])
    exact hav_end (fun _ _ hF => (hd (hF.2.imp fun d ⟨_, _, h, _⟩ => h)).elim)
  obtain ⟨d, rfl⟩ := hd
  (apply hav_call (by simp only [List.getElem?_toArray, List.getElem?_cons_succ, List.getElem?_cons_zero]; rfl) (by kernel_rfl); (focus (intro wv; go_simp; try exact ⟨rfl, rfl⟩; done)); (focus (intro wv hgv hF; obtain ⟨_, d', r, ga, he, hD⟩ := hF; obtain rfl : d = d' := (by simpa using he); have hq := told_any HV.out _ (hD.shed HL.out.1 HL.out.2); rw [if_pos HT.out] at hq; exact hq; done)); simp only [Act.put, List.setIfInBounds_toArray, List.set_cons_succ, List.set_cons_zero])
  (apply hav_call (by simp only [List.getElem?_toArray, List.getElem?_cons_succ, List.getElem?_cons_zero]; rfl) (by kernel_rfl); (focus (intro wv; go_simp; try exact ⟨rfl, rfl⟩; done)); (focus (intro wv hgv hF; obtain ⟨_, d', r, ga, he, hD⟩ := hF; obtain rfl : d = d' := (by simpa using he); have hq := weight_any HV.out s HLT.out wv (hD.shed HL.out.1 HL.out.2); rw [HKK.out] at hq; exact hq; done)); simp only [Act.put, List.setIfInBounds_toArray, List.set_cons_succ, List.set_cons_zero])
  have hfd : ∀ (a b : Int) (w : World), (Instr.field 87 (.agg #[.int .i64 a, .int .i64 b]) 0).run Try.prog w = .ok (.agg #[.int .i64 a, .int .i64 b]) w := fun _ _ _ => by kernel_rfl
  unfold spV
  (apply hav_same (by simp only [List.getElem?_toArray, List.getElem?_cons_succ, List.getElem?_cons_zero]; rfl) (by kernel_rfl); (focus (intro wv hgv _; have hcv : ∀ b o, b < _ → wv.cell? ⟨b, o, none⟩ = _ := fun b o hb => Below.cell hgv (p := ⟨b, o, none⟩) hb; (try go_simp); try rfl; done)); simp only [Act.put, List.setIfInBounds_toArray, List.set_cons_succ, List.set_cons_zero])
  refine hav_end (fun w1 hgw1 _ => ?_); simp only [List.filterMap]; have hcw1 : ∀ b o, b < _ → w1.cell? ⟨b, o, none⟩ = _ := fun b o hb => Below.cell hgw1 (p := ⟨b, o, none⟩) hb; have hfw1 : ∀ b o, b < _ → w1.frozen? ⟨b, o, none⟩ = _ := fun b o hb => Below.frozen hgw1 (p := ⟨b, o, none⟩) hb; have hzw1 := Below.size hgw1; (try simp at hzw1)
  have HE1 : Hid (Blk w1 (w.heap.size + 1 + 1 + 1) 30 #[.int .i64 0]) := HBE.out.below hgw1 hs3
  have HT1 : Hid (Blk w1 (w.heap.size + 1 + 1) 29 #[.int .i64 0, .int .i64 0]) := HBS.out.below hgw1 hs2
  have q0 : w1.cell? ⟨w.heap.size + 1 + 1 + 1, 0, none⟩ = some (.int .i64 0) := HE1.out.cell 0
  have q1 : w1.frozen? ⟨w.heap.size + 1 + 1 + 1, 0, none⟩ = false := HE1.out.frozen 0
  have q2 : w1.cell? ⟨w.heap.size + 1 + 1, 0, none⟩ = some (.int .i64 0) := HT1.out.cell 0
  have q3 : w1.frozen? ⟨w.heap.size + 1 + 1, 0, none⟩ = false := HT1.out.frozen 0
  have q4 : w1.cell? ⟨w.heap.size + 1 + 1, 1, none⟩ = some (.int .i64 0) := HT1.out.cell 1
  have q5 : w1.frozen? ⟨w.heap.size + 1 + 1, 1, none⟩ = false := HT1.out.frozen 1
  have HB1 : Hid (Below w.heap.size w w1) := HBW.out.trans (hgw1.mono (by omega))
  clear hgw1 hcw1 hfw1
  go_wp2
  have HT2 := (((HT1.out.set_ 0 (.int .i64 K.lo)).set_ 1 (.int .i64 K.hi)).far (p := ⟨w.heap.size + 1 + 1 + 1, 0, none⟩) (by show _ ≠ w.heap.size + 1 + 1 + 1; omega) (.int .i64 0))
  have HE2 := (((HE1.out.far (p := ⟨w.heap.size + 1 + 1, 0, none⟩) (by show _ ≠ w.heap.size + 1 + 1; omega) (.int .i64 K.lo)).far (p := ⟨w.heap.size + 1 + 1, 1, none⟩) (by show _ ≠ w.heap.size + 1 + 1; omega) (.int .i64 K.hi)).set_ 0 (.int .i64 0))
  have g0 := HE2.cell 0
  have g1 := HT2.cell 0
  have g2 := HT2.cell 1
  simp at g0 g1 g2
  exact api_returns (b := w.heap.size + 1 + 1 + 1) rfl (v := .tuple #[spV K, .int .i64 0]) (by simp [results, Try.results14, go_sem, g0, g1, g2, spV]) ⟨by rw [HR.out], setCell_below (setCell_below (setCell_below HB1.out (by omega) _ _) (by omega) _ _) (by omega) _ _⟩
theorem PWeight_any (n : Int) (w : World) (hP : PressIn w w.heap.size fa fl low top bales wa wl p) :
    Calls Try.prog 14 #[pressV fa fl fc low top bales wa wl wc, .int .i64 n] w fun e w' => e = .returned (.tuple #[spV (weightR p n), .int .i64 (setE p n)]) ∧ Below w.heap.size w w' := by
  cases hv : p.ok
  · exact PWeight_err n w hP (.inl hv)
  cases hs : p.setB n
  · exact PWeight_err n w hP (.inr hs)
  by_cases ht : p.wrong = 0
  · exact PWeight_ok n w hP hv hs ht
  · exact PWeight_clash n w hP hv hs ht
end
end Go.Proofs.Ytbfjebglaimcmaa
