/- The walk of the reference's Press: is a press valid? -/
import Derived.Test.YtbfjebglaimcmaaRefC
namespace Go.Proofs.Ytbfjebglaimcmaa
open Go.RowKit Go.Hav
theorem used_and (p : PressD) (s : Nat) : ∀ k, (p.used k &&& s = 0 ↔ ∀ j, j < k → p.bs j &&& s = 0) := by
  intro k
  induction k with
  | zero => simp [PressD.used]
  | succ k ih =>
    rw [PressD.used, Nat.and_or_distrib_right, Nat.or_eq_zero_iff, ih]
    constructor
    · rintro ⟨h1, h2⟩ j hj
      by_cases e : j = k
      · subst e; exact h2
      · exact h1 j (by omega)
    · intro h
      exact ⟨fun j hj => h j (by omega), h k (by omega)⟩
theorem take_all {α : Type} {P : α → Bool} {l : List α} {k : Nat} {c : α} (hc : l[k]? = some c) (h : (l.take k).all P = true) (hP : P c = true) : (l.take (k + 1)).all P = true := by
  rw [List.take_add_one, hc, List.all_append, h]
  simp [hP]
theorem range_all {P : Nat → Bool} {k : Nat} (h : (List.range k).all P = true) (hP : P k = true) : (List.range (k + 1)).all P = true := by
  rw [List.range_succ, List.all_append, h]
  simp [hP]
section
variable {low top bales : Int} {fa wa : Option Addr} {fl fc wl wc : Nat} {p : PressD}
set_option maxRecDepth 100000 in
set_option maxHeartbeats 1600000 in
theorem rpress_head (w : World) (hP : PressIn w w.heap.size fa fl low top bales wa wl p) (hh : p.headB = false) : Calls Try.prog 37 #[pressV fa fl fc low top bales wa wl wc] w fun e w' => e = .returned (.bool p.ok) ∧ Below w.heap.size w w' := by
  have HR : Hid (p.ok = false) := by show _ = _; rw [PressD.ok, hh]; rfl
  rw [headB_eq hP] at hh
  have m1 := hP.mfl
  have m2 := hP.mwl
  clear hP
  unfold pressV
  by_cases h1 : fl ≤ 10
  case neg =>
    have hd : decide ((10 : Int) < fl) = true := by simp; omega
    go_enter Try.func37, Try.ntmps37
    go_wp2
    go_ret
    exact ⟨ret_bool HR.out.symm, (by repeat (first | exact Below.refl _ _ | assumption | refine Below.drew ?_ | refine below_drewN ?_ _ | refine Below.alloc ?_ (by (try simp) <;> omega) _ | refine Below.setCell ?_ (by (try simp) <;> omega) _ | refine Below.trans ?_ (Below.mono (by assumption) (by (try simp) <;> omega))))⟩
  have hd : decide ((10 : Int) < fl) = false := by simp; omega
  cases h2 : inB low 1 200
  · go_enter Try.func37, Try.ntmps37
    go_wp2_with fail
    refine (rin_any _ _ _ _).mono ?_
    rw [h2]
    rintro e w' ⟨rfl, rfl⟩
    go_wp2
    go_ret
    exact ⟨ret_bool HR.out.symm, (by repeat (first | exact Below.refl _ _ | assumption | refine Below.drew ?_ | refine below_drewN ?_ _ | refine Below.alloc ?_ (by (try simp) <;> omega) _ | refine Below.setCell ?_ (by (try simp) <;> omega) _ | refine Below.trans ?_ (Below.mono (by assumption) (by (try simp) <;> omega))))⟩
  cases h3 : inB top low 200
  · go_enter Try.func37, Try.ntmps37
    go_wp2_with fail
    refine (rin_any _ _ _ _).mono ?_
    rw [h2]
    rintro e w' ⟨rfl, rfl⟩
    go_wp2_with fail
    refine (rin_any _ _ _ _).mono ?_
    rw [h3]
    rintro e w' ⟨rfl, rfl⟩
    go_wp2
    go_ret
    exact ⟨ret_bool HR.out.symm, (by repeat (first | exact Below.refl _ _ | assumption | refine Below.drew ?_ | refine below_drewN ?_ _ | refine Below.alloc ?_ (by (try simp) <;> omega) _ | refine Below.setCell ?_ (by (try simp) <;> omega) _ | refine Below.trans ?_ (Below.mono (by assumption) (by (try simp) <;> omega))))⟩
  cases h4 : inB bales 0 5
  · go_enter Try.func37, Try.ntmps37
    go_wp2_with fail
    refine (rin_any _ _ _ _).mono ?_
    rw [h2]
    rintro e w' ⟨rfl, rfl⟩
    go_wp2_with fail
    refine (rin_any _ _ _ _).mono ?_
    rw [h3]
    rintro e w' ⟨rfl, rfl⟩
    go_wp2_with fail
    refine (rin_any _ _ _ _).mono ?_
    rw [h4]
    rintro e w' ⟨rfl, rfl⟩
    go_wp2
    go_ret
    exact ⟨ret_bool HR.out.symm, (by repeat (first | exact Below.refl _ _ | assumption | refine Below.drew ?_ | refine below_drewN ?_ _ | refine Below.alloc ?_ (by (try simp) <;> omega) _ | refine Below.setCell ?_ (by (try simp) <;> omega) _ | refine Below.trans ?_ (Below.mono (by assumption) (by (try simp) <;> omega))))⟩
  have h5 : ¬ wl ≤ 4 := fun h => by simp [h1, h2, h3, h4, h] at hh
  have hd5 : decide ((4 : Int) < wl) = true := by simp; omega
  clear hh
  go_enter Try.func37, Try.ntmps37
  go_wp2_with fail
  refine (rin_any _ _ _ _).mono ?_
  rw [h2]
  rintro e w' ⟨rfl, rfl⟩
  go_wp2_with fail
  refine (rin_any _ _ _ _).mono ?_
  rw [h3]
  rintro e w' ⟨rfl, rfl⟩
  go_wp2_with fail
  refine (rin_any _ _ _ _).mono ?_
  rw [h4]
  rintro e w' ⟨rfl, rfl⟩
  go_wp2
  go_ret
  exact ⟨ret_bool HR.out.symm, (by repeat (first | exact Below.refl _ _ | assumption | refine Below.drew ?_ | refine below_drewN ?_ _ | refine Below.alloc ?_ (by (try simp) <;> omega) _ | refine Below.setCell ?_ (by (try simp) <;> omega) _ | refine Below.trans ?_ (Below.mono (by assumption) (by (try simp) <;> omega))))⟩
end
end Go.Proofs.Ytbfjebglaimcmaa
