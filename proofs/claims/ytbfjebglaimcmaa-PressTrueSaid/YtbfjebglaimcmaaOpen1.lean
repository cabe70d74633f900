/- The walk of open, where the press is not valid: it panics. Where it is: the shed, if what else is asked is so. -/
import Derived.Test.YtbfjebglaimcmaaOpen0
namespace Go.Proofs.Ytbfjebglaimcmaa
open Go.RowKit Go.Hav
section
variable {low top bales : Int} {fa wa : Option Addr} {fl fc wl wc : Nat} {p : PressD}
set_option maxRecDepth 100000 in
set_option maxHeartbeats 800000 in
theorem open_head1 (v : Value) (h1 : ¬ fl ≤ 10) (m : fl ≤ 9223372036854775807) (w : World) :
    Calls Try.prog 55 #[pressV fa fl fc low top bales wa wl wc, v] w fun e w' => e = .panicked [refE 1] ∧ Below w.heap.size w w' := by
  have hd : decide ((fl : Int) ≤ 10) = false := by simp; omega
  unfold pressV
  go_enter Try.func55, Try.ntmps55
  go_wp2_with (go_at_call 104; refine (within_any _ _ _ _).mono ?_; rintro e w' ⟨rfl, rfl⟩)
  refine (ask_any false 1 _).mono ?_
  rintro e w' ⟨h1, rfl⟩
  obtain rfl : e = .panicked [refE 1] := h1
  go_wp2
  exact ⟨rfl, rfl, (by repeat (first | exact Below.refl _ _ | assumption | refine Below.drew ?_ | refine below_drewN ?_ _ | refine Below.alloc ?_ (by (try simp) <;> omega) _ | refine Below.setCell ?_ (by (try simp) <;> omega) _ | refine Below.trans ?_ (Below.mono (by assumption) (by (try simp) <;> omega))))⟩
set_option maxRecDepth 100000 in
set_option maxHeartbeats 800000 in
theorem open_head2 (v : Value) (h1 : fl ≤ 10) (h2 : inB low 1 200 = false) (w : World) :
    Calls Try.prog 55 #[pressV fa fl fc low top bales wa wl wc, v] w fun e w' => e = .panicked [refE 1] ∧ Below w.heap.size w w' := by
  unfold pressV
  go_enter Try.func55, Try.ntmps55
  go_wp2_with (go_at_call 104; refine (within_any _ _ _ _).mono ?_; rintro e w' ⟨rfl, rfl⟩)
  refine (ask_any false 1 _).mono ?_
  rintro e w' ⟨h1, rfl⟩
  obtain rfl : e = .panicked [refE 1] := h1
  go_wp2
  exact ⟨rfl, rfl, (by repeat (first | exact Below.refl _ _ | assumption | refine Below.drew ?_ | refine below_drewN ?_ _ | refine Below.alloc ?_ (by (try simp) <;> omega) _ | refine Below.setCell ?_ (by (try simp) <;> omega) _ | refine Below.trans ?_ (Below.mono (by assumption) (by (try simp) <;> omega))))⟩
set_option maxRecDepth 100000 in
set_option maxHeartbeats 800000 in
theorem open_head3 (v : Value) (h1 : fl ≤ 10) (h2 : inB low 1 200 = true) (h3 : inB top low 200 = false) (w : World) :
    Calls Try.prog 55 #[pressV fa fl fc low top bales wa wl wc, v] w fun e w' => e = .panicked [refE 1] ∧ Below w.heap.size w w' := by
  unfold pressV
  go_enter Try.func55, Try.ntmps55
  go_wp2_with (go_at_call 104; refine (within_any _ _ _ _).mono ?_; rintro e w' ⟨rfl, rfl⟩)
  refine (ask_any false 1 _).mono ?_
  rintro e w' ⟨h1, rfl⟩
  obtain rfl : e = .panicked [refE 1] := h1
  go_wp2
  exact ⟨rfl, rfl, (by repeat (first | exact Below.refl _ _ | assumption | refine Below.drew ?_ | refine below_drewN ?_ _ | refine Below.alloc ?_ (by (try simp) <;> omega) _ | refine Below.setCell ?_ (by (try simp) <;> omega) _ | refine Below.trans ?_ (Below.mono (by assumption) (by (try simp) <;> omega))))⟩
set_option maxRecDepth 100000 in
set_option maxHeartbeats 800000 in
theorem open_head4 (v : Value) (h1 : fl ≤ 10) (h2 : inB low 1 200 = true) (h3 : inB top low 200 = true) (h4 : inB bales 0 5 = false) (w : World) :
    Calls Try.prog 55 #[pressV fa fl fc low top bales wa wl wc, v] w fun e w' => e = .panicked [refE 1] ∧ Below w.heap.size w w' := by
  unfold pressV
  go_enter Try.func55, Try.ntmps55
  go_wp2_with (go_at_call 104; refine (within_any _ _ _ _).mono ?_; rintro e w' ⟨rfl, rfl⟩)
  refine (ask_any false 1 _).mono ?_
  rintro e w' ⟨h1, rfl⟩
  obtain rfl : e = .panicked [refE 1] := h1
  go_wp2
  exact ⟨rfl, rfl, (by repeat (first | exact Below.refl _ _ | assumption | refine Below.drew ?_ | refine below_drewN ?_ _ | refine Below.alloc ?_ (by (try simp) <;> omega) _ | refine Below.setCell ?_ (by (try simp) <;> omega) _ | refine Below.trans ?_ (Below.mono (by assumption) (by (try simp) <;> omega))))⟩
set_option maxRecDepth 100000 in
set_option maxHeartbeats 800000 in
theorem open_head5 (v : Value) (h1 : fl ≤ 10) (h2 : inB low 1 200 = true) (h3 : inB top low 200 = true) (h4 : inB bales 0 5 = true) (h5 : ¬ wl ≤ 4) (m : wl ≤ 9223372036854775807) (w : World) :
    Calls Try.prog 55 #[pressV fa fl fc low top bales wa wl wc, v] w fun e w' => e = .panicked [refE 1] ∧ Below w.heap.size w w' := by
  have hd : decide ((wl : Int) ≤ 4) = false := by simp; omega
  unfold pressV
  go_enter Try.func55, Try.ntmps55
  go_wp2_with (go_at_call 104; refine (within_any _ _ _ _).mono ?_; rintro e w' ⟨rfl, rfl⟩)
  refine (ask_any false 1 _).mono ?_
  rintro e w' ⟨h1, rfl⟩
  obtain rfl : e = .panicked [refE 1] := h1
  go_wp2
  exact ⟨rfl, rfl, (by repeat (first | exact Below.refl _ _ | assumption | refine Below.drew ?_ | refine below_drewN ?_ _ | refine Below.alloc ?_ (by (try simp) <;> omega) _ | refine Below.setCell ?_ (by (try simp) <;> omega) _ | refine Below.trans ?_ (Below.mono (by assumption) (by (try simp) <;> omega))))⟩
end
end Go.Proofs.Ytbfjebglaimcmaa
