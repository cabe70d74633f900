/- The walk of False: for every press. -/
import Derived.Test.YtbfjebglaimcmaaOpen5
namespace Go.Proofs.Ytbfjebglaimcmaa
open Go.RowKit Go.Hav Go.Shelf
/-- What False returns. -/
def falseR (p : PressD) : Value := .tuple (if p.ok = false then #[.int .i64 0, .int .i64 1] else if p.wrong = 0 then #[.int .i64 0, .int .i64 4] else #[.int .i64 (p.wrong : Nat), .int .i64 0])
section
variable {low top bales : Int} {fa wa : Option Addr} {fl fc wl wc : Nat} {p : PressD}
theorem end_panic {fn : Func} {R : Ending → World → Prop} {a : Act} {w0 w : World} {b : Nat} {e : Int} {v : Value} {t : TypeId} (hd : a.defers = [ansD b]) (hk : Blk w b t #[.int .i64 0])
    (hv : ∀ w' : World, Blk w' b t #[.int .i64 e] → (∀ g, g ≠ b → w'.heap[g]? = w.heap[g]?) → (results fn a.tmps).run Try.prog w' = .ok v w') (h0 : w0.heap.size ≤ b) (hb : Below w0.heap.size w0 w) (hR : ∀ w', Below w0.heap.size w0 w' → R (.returned v) w') :
    bodyPostD Try.prog fn R (.panic [refE e]) a w :=
  api_panics hd (hk.cell 0) (hk.frozen 0) (hv _ (hk.set_ 0 _) (fun g hg => Below.heap_setCell w ⟨b, 0, none⟩ _ g hg)) (hR _ (setCell_below hb h0 0 _))
set_option maxRecDepth 100000 in
set_option maxHeartbeats 1600000 in
theorem PFalse_any (w : World) (hP : PressIn w w.heap.size fa fl low top bales wa wl p) :
    Calls Try.prog 20 #[pressV fa fl fc low top bales wa wl wc] w fun e w' => e = .returned (falseR p) ∧ Below w.heap.size w w' := by
  have HP := Lib.hid hP
  have HL : Hid (fl ≤ 9223372036854775807 ∧ wl ≤ 9223372036854775807) := ⟨hP.mfl, hP.mwl⟩
  have EG := Lib.hid (enters_of Try.func69 (by kernel_rfl) rfl)
  clear hP
  cases hv : p.ok
  · have HV := Lib.hid hv
    have HR : Hid (falseR p = .tuple #[.int .i64 0, .int .i64 1]) := by show _ = _; simp [falseR, hv]
    clear hv
    unfold pressV
    go_enter_defers Try.func20, Try.ntmps20
    go_wp2_with fail
    refine (open_bad (p := p) _ _ (by exact HP.out.grow (by repeat (first | exact Below.refl _ _ | assumption | refine Below.drew ?_ | refine below_drewN ?_ _ | refine Below.alloc ?_ (by (try simp) <;> omega) _ | refine Below.setCell ?_ (by (try simp) <;> omega) _ | refine Below.trans ?_ (Below.mono (by assumption) (by (try simp) <;> omega))))) HV.out).mono ?_
    rintro e w1 ⟨rfl, hb1⟩
    have HK1 : Hid (Blk w1 (w.heap.size + 1) 30 #[.int .i64 0]) := (Blk.new_ (by simp) _ _).below hb1 (by simp)
    have HB1 : Hid (Below w.heap.size w w1) := (((Below.refl w.heap.size w).alloc (by simp) _).alloc (by simp) _).trans (hb1.mono (by simp; omega))
    clear hb1
    go_wp2
    refine end_panic (b := w.heap.size + 1) rfl HK1.out (v := .tuple #[.int .i64 0, .int .i64 1]) (fun w' hk _ => ?_) (by omega) HB1.out (fun w' h => ⟨by rw [HR.out], h⟩)
    have g0 := hk.cell 0
    simp [results, Try.results20, go_sem, g0]
  · have HV := Lib.hid hv
    by_cases hw : p.wrong = 0
    · have HW := Lib.hid hw
      have HR : Hid (falseR p = .tuple #[.int .i64 0, .int .i64 4]) := by show _ = _; simp [falseR, hv, hw]
      clear hv hw
      unfold pressV
      go_enter_defers Try.func20, Try.ntmps20
      go_wp2_with fail
      refine (open_fine (p := p) 69 #[] EG.out _ (by exact HP.out.grow (by repeat (first | exact Below.refl _ _ | assumption | refine Below.drew ?_ | refine below_drewN ?_ _ | refine Below.alloc ?_ (by (try simp) <;> omega) _ | refine Below.setCell ?_ (by (try simp) <;> omega) _ | refine Below.trans ?_ (Below.mono (by assumption) (by (try simp) <;> omega))))) HV.out (isShed_always _)).mono ?_
      rintro e w1 ⟨d, r, ga, rfl, hS, _, hr, hb1⟩
      have HS := Lib.hid hS
      have HK1 : Hid (Blk w1 (w.heap.size + 1) 30 #[.int .i64 0]) := (Blk.new_ (by simp) _ _).below hb1 (by simp)
      have HB1 : Hid (Below w.heap.size w w1) := (((Below.refl w.heap.size w).alloc (by simp) _).alloc (by simp) _).trans (hb1.mono (by simp; omega))
      clear hb1 hS hr
      go_wp2_with fail
      refine (wrong_any HV.out _ (HS.out.shed HL.out.1 HL.out.2)).mono ?_
      rw [HW.out]
      rintro e w2 ⟨rfl, hb2⟩
      have HK2 : Hid (Blk w2 (w.heap.size + 1) 30 #[.int .i64 0]) := HK1.out.below hb2 HK1.out.lt
      have HB2 : Hid (Below w.heap.size w w2) := HB1.out.trans (hb2.mono HB1.out.size)
      clear hb2
      go_wp2_with fail
      refine (ask_any false 4 _).mono ?_
      rintro e w' ⟨q1, rfl⟩
      obtain rfl : e = .panicked [refE 4] := q1
      go_wp2
      refine end_panic (b := w.heap.size + 1) rfl HK2.out (v := .tuple #[.int .i64 0, .int .i64 4]) (fun w' hk _ => ?_) (by omega) HB2.out (fun w' h => ⟨by rw [HR.out], h⟩)
      have g0 := hk.cell 0
      simp [results, Try.results20, go_sem, g0]
    · have HR : Hid (falseR p = .tuple #[.int .i64 (p.wrong : Nat), .int .i64 0]) := by show _ = _; simp [falseR, hv, hw]
      have hne : ((p.wrong : Int) != 0) = true := by simp; omega
      clear hv hw
      unfold pressV
      go_enter_defers Try.func20, Try.ntmps20
      go_wp2_with fail
      refine (open_fine (p := p) 69 #[] EG.out _ (by exact HP.out.grow (by repeat (first | exact Below.refl _ _ | assumption | refine Below.drew ?_ | refine below_drewN ?_ _ | refine Below.alloc ?_ (by (try simp) <;> omega) _ | refine Below.setCell ?_ (by (try simp) <;> omega) _ | refine Below.trans ?_ (Below.mono (by assumption) (by (try simp) <;> omega))))) HV.out (isShed_always _)).mono ?_
      rintro e w1 ⟨d, r, ga, rfl, hS, _, hr, hb1⟩
      have HS := Lib.hid hS
      have HK1 : Hid (Blk w1 (w.heap.size + 1) 30 #[.int .i64 0]) := (Blk.new_ (by simp) _ _).below hb1 (by simp)
      have HB1 : Hid (Below w.heap.size w w1) := (((Below.refl w.heap.size w).alloc (by simp) _).alloc (by simp) _).trans (hb1.mono (by simp; omega))
      clear hb1 hS hr
      go_wp2_with fail
      refine (wrong_any HV.out _ (HS.out.shed HL.out.1 HL.out.2)).mono ?_
      rintro e w2 ⟨rfl, hb2⟩
      have HK2 : Hid (Blk w2 (w.heap.size + 1) 30 #[.int .i64 0]) := HK1.out.below hb2 HK1.out.lt
      have HB2 : Hid (Below w.heap.size w w2) := HB1.out.trans (hb2.mono HB1.out.size)
      clear hb2
      go_wp2_with fail
      refine (ask_any true 4 _).mono ?_
      rintro e w' ⟨q1, rfl⟩
      obtain rfl : e = .returned (.tuple #[]) := q1
      have k0 : w'.cell? ⟨w.heap.size + 1, 0, none⟩ = some (.int .i64 0) := HK2.out.cell 0
      have f0 : w'.frozen? ⟨w.heap.size + 1, 0, none⟩ = false := HK2.out.frozen 0
      go_wp2
      have g0 := (HK2.out.set_ 0 (.int .i64 0)).cell 0
      exact api_returns (b := w.heap.size + 1) rfl (v := .tuple #[.int .i64 (p.wrong : Nat), .int .i64 0]) (by simp [results, Try.results20, go_sem, g0]) ⟨by rw [HR.out], setCell_below HB2.out (by omega) 0 _⟩
end
end Go.Proofs.Ytbfjebglaimcmaa
