/- Plain facts for the law PressFits. -/
import Derived.Test.YtbfjebglaimcmaaLawA
namespace Go.Proofs.Ytbfjebglaimcmaa
open Go.RowKit Go.Hav
theorem min_run (a b : Int) (w : World) : (Builtin.min_ #[3, 3] 3 #[.int .i64 a, .int .i64 b]).run Try.prog w = .ok (.int .i64 (min a b)) w := by
  rcases Int.lt_or_le b a with h | h
  · simp [Builtin.min_, Builtin.min2, h]; omega
  · simp [Builtin.min_, Builtin.min2]; omega
/-- The first of the first k fleeces that makes a set fit. -/
def firstF (p : PressD) (s : Nat) : Nat → Int
  | 0 => -1
  | k + 1 => if firstF p s k < 0 ∧ addB p s k = true then k else firstF p s k
theorem firstF_spec (p : PressD) (s : Nat) : ∀ k : Nat, (firstF p s k = -1 ∧ ∀ i, i < k → addB p s i = false) ∨ (∃ j : Nat, j < k ∧ firstF p s k = j ∧ addB p s j = true ∧ ∀ i, i < j → addB p s i = false) := by
  intro k
  induction k with
  | zero => exact .inl ⟨rfl, fun i hi => by omega⟩
  | succ k ih =>
    rw [firstF]
    rcases ih with ⟨h1, h2⟩ | ⟨j, h1, h2, h3, h4⟩
    · rw [h1]
      by_cases hb : addB p s k = true
      · rw [if_pos ⟨by omega, hb⟩]
        exact .inr ⟨k, by omega, rfl, hb, h2⟩
      · rw [if_neg (fun h => hb h.2)]
        refine .inl ⟨rfl, fun i hi => ?_⟩
        by_cases e : i = k
        · subst e; simpa using hb
        · exact h2 i (by omega)
    · rw [h2, if_neg (by omega)]
      exact .inr ⟨j, by omega, rfl, h3, h4⟩
theorem firstF_addI (p : PressD) (s : Nat) : firstF p s p.n = addI p s := by
  rcases firstF_spec p s p.n with ⟨h1, h2⟩ | ⟨j, h1, h2, h3, h4⟩
  · rw [h1, addI_none h2]
  · rw [h2, addI_some h1 h4 h3]
theorem firstF_bd (p : PressD) (s k : Nat) : -1 ≤ firstF p s k ∧ firstF p s k < k := by
  rcases firstF_spec p s k with ⟨h1, _⟩ | ⟨j, h1, h2, _⟩ <;> omega
theorem fits_sure (p : PressD) (s : Nat) : (p.fits s == 2) = p.sure s := by
  unfold PressD.fits
  cases h : p.sure s
  · cases h2 : p.may s <;> simp
  · simp
theorem fits_bd (p : PressD) (s : Nat) : 0 ≤ p.fits s ∧ p.fits s ≤ 2 := by
  unfold PressD.fits
  split
  · omega
  · split <;> omega
theorem may_sure {p : PressD} (hv : p.ok = true) (hw : p.wrong = 0) {s : Nat} (h : p.sure s = true) : p.may s = true := by
  have hle := PressD.weight_le hv hw s
  simp only [PressD.sure, PressD.may, Bool.and_eq_true, decide_eq_true_eq, spanB_iff] at h ⊢
  obtain ⟨h1, h2, h3, h4⟩ := h
  exact ⟨⟨h1, by omega⟩, by omega⟩
theorem fits_may {p : PressD} (hv : p.ok = true) (hw : p.wrong = 0) (s : Nat) : (p.fits s == 0) = !p.may s := by
  unfold PressD.fits
  cases h : p.sure s
  · cases h2 : p.may s <;> simp
  · simp [may_sure hv hw h]
theorem sure_eq {p : PressD} (hv : p.ok = true) (hw : p.wrong = 0) (s : Nat) : p.sure s = (p.alike s && decide (p.low ≤ (p.weight s).lo) && decide ((p.weight s).hi ≤ p.top)) := by
  have hle := PressD.weight_le hv hw s
  simp only [PressD.sure, spanB, decide_eq_true hle, Bool.and_true, Bool.and_assoc]
/-- The same fleeces and weighings, other bounds and bales. -/
def bound (p : PressD) (l t b : Int) : PressD := { p with low := l, top := t, bales := b }
section
variable (p : PressD) (l t b : Int)
theorem bound_used : ∀ k, (bound p l t b).used k = p.used k := by
  intro k
  induction k with
  | zero => rfl
  | succ k ih => rw [PressD.used, PressD.used, ih]; rfl
theorem bound_rest (s : Nat) : ∀ k, (bound p l t b).rest s k = p.rest s k := by
  intro k
  induction k with
  | zero => rfl
  | succ k ih => rw [PressD.rest, PressD.rest, ih]; rfl
theorem bound_wSum (s : Nat) : ∀ k, (bound p l t b).wSum s k = p.wSum s k := by
  intro k
  induction k with
  | zero => rfl
  | succ k ih => rw [PressD.wSum, PressD.wSum, ih]; rfl
theorem bound_wrongF : ∀ k, (bound p l t b).wrongF k = p.wrongF k := by
  intro k
  induction k with
  | zero => rfl
  | succ k ih => rw [PressD.wrongF, PressD.wrongF, ih]; rfl
theorem bound_weight (s : Nat) : (bound p l t b).weight s = p.weight s := by
  rw [PressD.weight, PressD.weight, bound_wSum, bound_rest]; rfl
theorem bound_wrong : (bound p l t b).wrong = p.wrong := bound_wrongF p l t b _
theorem bound_alike (s : Nat) : (bound p l t b).alike s = p.alike s := rfl
theorem bound_baB (k : Nat) : (bound p l t b).baB k = p.baB k := by
  rw [PressD.baB, PressD.baB, bound_used]; rfl
end
theorem bound_ok {p : PressD} (hv : p.ok = true) {l t b : Int} (h1 : 1 ≤ l) (h2 : l ≤ t) (h3 : t ≤ 200) (h4 : 0 ≤ b) (h5 : b ≤ 5) : (bound p l t b).ok = true := by
  have hb := (PressD.ok_head hv)
  simp only [PressD.ok, PressD.headB, Bool.and_eq_true, inB_iff, decide_eq_true_eq] at hv ⊢
  obtain ⟨⟨⟨⟨⟨⟨g1, g2⟩, g3⟩, g4⟩, g5⟩, hf⟩, hb⟩ := hv
  refine ⟨⟨⟨⟨⟨⟨g1, ?_⟩, ?_⟩, ?_⟩, g5⟩, hf⟩, ?_⟩
  · show 1 ≤ l ∧ l ≤ 200; omega
  · show l ≤ t ∧ t ≤ 200; omega
  · show 0 ≤ b ∧ b ≤ 5; omega
  · rw [List.all_eq_true] at hb ⊢
    intro k hk
    rw [bound_baB]
    exact hb k hk
theorem bound_fits {p : PressD} (hv : p.ok = true) (hw : p.wrong = 0) {l t b : Int} (h2 : l ≤ p.low) (h3 : p.top ≤ t) (s : Nat) : p.fits s ≤ (bound p l t b).fits s := by
  have e1 : (bound p l t b).weight s = p.weight s := bound_weight _ _ _ _ _
  have e2 : (bound p l t b).alike s = p.alike s := rfl
  have hle := PressD.weight_le hv hw s
  have s1 : p.sure s = true → (bound p l t b).sure s = true := fun h => by
    simp only [PressD.sure, e1, e2, Bool.and_eq_true, spanB_iff] at h ⊢
    exact ⟨h.1, by show l ≤ _; omega, h.2.2.1, by show _ ≤ t; omega⟩
  have s2 : p.may s = true → (bound p l t b).may s = true := fun h => by
    simp only [PressD.may, e1, e2, Bool.and_eq_true, decide_eq_true_eq] at h ⊢
    exact ⟨⟨h.1.1, by show l ≤ _; omega⟩, by show _ ≤ t; omega⟩
  have hb := fits_bd (bound p l t b) s
  unfold PressD.fits at hb ⊢
  cases h : p.sure s
  · cases h' : p.may s
    · simp; omega
    · rw [s2 h']; cases (bound p l t b).sure s <;> simp
  · rw [s1 h]; simp
theorem setE_ok {p : PressD} (hv : p.ok = true) {s : Nat} (hs : s ≤ full p.n) : setE p s = if p.wrong = 0 then 0 else 10 := by
  have : p.setB s = true := by rw [PressD.setB, inB_iff]; omega
  simp [setE, hv, this]
end Go.Proofs.Ytbfjebglaimcmaa
