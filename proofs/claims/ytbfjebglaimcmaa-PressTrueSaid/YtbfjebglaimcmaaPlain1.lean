/- Plain laws of a press that is valid: bounds, disjoint bales, parts of a set, what a truth weighs; nothing of the program. -/
import Derived.Test.YtbfjebglaimcmaaSpec
namespace Go.Proofs.Ytbfjebglaimcmaa
namespace PressD
section
variable {p : PressD}
theorem ok_head (h : p.ok = true) : p.n ≤ 10 ∧ 1 ≤ p.low ∧ p.low ≤ p.top ∧ p.top ≤ 200 ∧ 0 ≤ p.bales ∧ p.bales ≤ 5 ∧ p.weighed.length ≤ 4 := by
  simp only [ok, headB, Bool.and_eq_true, inB_iff, decide_eq_true_eq] at h
  unfold n
  omega
theorem n_pow (h : p.ok = true) : 2 ^ p.n ≤ 1024 := by
  have := Nat.pow_le_pow_right (n := 2) (by omega) (ok_head h).1
  omega
theorem n_pos (p : PressD) : 1 ≤ 2 ^ p.n := Nat.two_pow_pos _
theorem ok_fl (h : p.ok = true) {i : Nat} (hi : i < p.n) : 1 ≤ (p.fw i).lo ∧ (p.fw i).lo ≤ (p.fw i).hi ∧ (p.fw i).hi ≤ 20 ∧ (p.fw i).hi - (p.fw i).lo ≤ 3 ∧ 0 ≤ p.line i ∧ p.line i ≤ 2 := by
  simp only [ok, Bool.and_eq_true, List.all_eq_true] at h
  obtain ⟨f, hf⟩ : ∃ f, p.fl[i]? = some f := ⟨p.fl[i]'hi, List.getElem?_eq_getElem hi⟩
  have h1 := h.1.2 f (List.mem_of_getElem? hf)
  simp only [flB, Bool.and_eq_true, spanB_iff, inB_iff, decide_eq_true_eq] at h1
  simp only [fw, line, hf, Option.map_some, Option.getD_some]
  omega
theorem ok_ba (h : p.ok = true) {k : Nat} (hk : k < p.weighed.length) : (p.ba k).set = (p.bs k : Int) ∧ p.bs k < 2 ^ p.n ∧ 0 < p.bs k ∧ p.used k &&& p.bs k = 0 ∧ 1 ≤ (p.ba k).w.lo ∧ (p.ba k).w.lo ≤ (p.ba k).w.hi ∧ (p.ba k).w.hi ≤ 200 := by
  simp only [ok, Bool.and_eq_true, List.all_eq_true, List.mem_range] at h
  have h1 := h.2 k hk
  simp only [baB, setB, Bool.and_eq_true, spanB_iff, inB_iff, decide_eq_true_eq, beq_iff_eq] at h1
  obtain ⟨⟨⟨⟨a, b⟩, c⟩, d⟩, e⟩ := h1
  have hp := n_pos p
  have e0 : (p.ba k).set = (p.bs k : Int) := by unfold bs; omega
  refine ⟨e0, ?_, by omega, d, by omega⟩
  have : p.bs k ≤ full p.n := by omega
  exact le_full.1 this
theorem used_lt (h : p.ok = true) : ∀ {k}, k ≤ p.weighed.length → p.used k < 2 ^ p.n := by
  intro k
  induction k with
  | zero => intro _; exact n_pos p
  | succ k ih => intro hk; exact Nat.or_lt_two_pow (ih (by omega)) (ok_ba h hk).2.1
theorem tb_rest (s : Nat) : ∀ k i, (p.rest s k).testBit i = (s.testBit i && !(p.used k).testBit i) := by
  intro k
  induction k with
  | zero => intro i; simp [rest, used]
  | succ k ih =>
    intro i
    rw [rest, tb_dif, ih, used, Nat.testBit_or]
    cases s.testBit i <;> cases (p.used k).testBit i <;> cases (p.bs k).testBit i <;> rfl
theorem rest_lt {s : Nat} (hs : s < 2 ^ p.n) : ∀ k, p.rest s k < 2 ^ p.n := by
  intro k
  induction k with
  | zero => exact hs
  | succ k ih => exact dif_lt ih
theorem rest_and (h : p.ok = true) (s : Nat) {k : Nat} (hk : k < p.weighed.length) : p.rest s k &&& p.bs k = s &&& p.bs k := by
  refine Nat.eq_of_testBit_eq fun i => ?_
  have := and_zero_iff.1 (ok_ba h hk).2.2.2.1 i
  rw [Nat.testBit_and, Nat.testBit_and, tb_rest]
  cases h1 : s.testBit i <;> cases h2 : (p.used k).testBit i <;> cases h3 : (p.bs k).testBit i <;> simp_all
theorem rest_dif (h : p.ok = true) (s : Nat) {k : Nat} (hk : k < p.weighed.length) : dif (p.bs k) (p.rest s k) = dif (p.bs k) s := by
  refine Nat.eq_of_testBit_eq fun i => ?_
  have := and_zero_iff.1 (ok_ba h hk).2.2.2.1 i
  rw [tb_dif, tb_dif, tb_rest]
  cases h1 : s.testBit i <;> cases h2 : (p.used k).testBit i <;> cases h3 : (p.bs k).testBit i <;> simp_all
theorem bare_bd (h : p.ok = true) (s : Nat) : 0 ≤ (p.bare s).lo ∧ (p.bare s).lo ≤ (p.bare s).hi ∧ (p.bare s).hi ≤ 200 := by
  have hn := (ok_head h).1
  have h1 := sb_bd (f := fun i => (p.fw i).lo) (s := s) (l := 0) (h := 20) (by omega) (by omega) p.n (fun i hi _ => by have := ok_fl h hi; omega)
  have h2 := sb_bd (f := fun i => (p.fw i).hi) (s := s) (l := 0) (h := 20) (by omega) (by omega) p.n (fun i hi _ => by have := ok_fl h hi; omega)
  have h3 := sb_le (f := fun i => (p.fw i).lo) (g := fun i => (p.fw i).hi) (s := s) p.n (fun i hi _ => (ok_fl h hi).2.1)
  simp only [bare]
  omega
theorem bare_cut (s t : Nat) : (p.bare s).lo = (p.bare (s &&& t)).lo + (p.bare (dif s t)).lo ∧ (p.bare s).hi = (p.bare (s &&& t)).hi + (p.bare (dif s t)).hi := ⟨sb_cut _ _ _ _, sb_cut _ _ _ _⟩
theorem part_bd (h : p.ok = true) (s : Nat) {k : Nat} (hk : k < p.weighed.length) : midS 400 (p.part s k) := by
  have h1 := bare_bd h (s &&& p.bs k)
  have h2 := bare_bd h (dif (p.bs k) s)
  have h3 := ok_ba h hk
  simp only [midS, part, knownS]
  omega
theorem wSum_bd (h : p.ok = true) (s : Nat) : ∀ {k}, k ≤ p.weighed.length → midS (400 * k) (p.wSum s k) := by
  intro k
  induction k with
  | zero => intro _; simp [wSum, midS]
  | succ k ih =>
    intro hk
    have h1 := ih (by omega)
    have h2 := part_bd h s hk
    rw [show (400 : Int) * ((k + 1 : Nat) : Int) = 400 * k + 400 by omega]
    exact midS_plus h1 h2
theorem weight_bd (h : p.ok = true) (s : Nat) : midS 2000 (p.weight s) := by
  have h1 := wSum_bd h s (Nat.le_refl _)
  have h2 := bare_bd h (p.rest s p.weighed.length)
  have h3 := (ok_head h).2.2.2.2.2.2
  simp only [weight, plusS, midS] at *
  omega
/-! No bale is wrong. -/
theorem tb_wrongF (p : PressD) : ∀ k i, (p.wrongF k).testBit i = (decide (i < k) && p.wrongB i) := by
  intro k
  induction k with
  | zero => intro i; simp [wrongF]
  | succ k ih =>
    intro i
    rw [wrongF]
    split
    · rename_i h
      rw [Nat.testBit_or, ih, Nat.testBit_two_pow]
      by_cases e : k = i
      · subst e; simp [h]
      · by_cases h2 : i < k
        · simp [h2, e, show i < k + 1 by omega]
        · simp [h2, e, show ¬ i < k + 1 by omega]
    · rename_i h
      rw [ih]
      by_cases e : i = k
      · subst e; simp_all
      · by_cases h2 : i < k
        · simp [h2, show i < k + 1 by omega]
        · simp [h2, show ¬ i < k + 1 by omega]
theorem wrongF_lt (p : PressD) (k : Nat) : p.wrongF k < 2 ^ k := by
  refine Nat.lt_pow_two_of_testBit _ fun i hi => ?_
  rw [tb_wrongF]
  simp [show ¬ i < k by omega]
theorem wrong_iff (p : PressD) : p.wrong = 0 ↔ ∀ k, k < p.weighed.length → p.wrongB k = false := by
  constructor
  · intro h k hk
    have h1 := tb_wrongF p p.weighed.length k
    rw [show p.wrongF p.weighed.length = 0 from h] at h1
    simpa [hk] using h1.symm
  · intro h
    refine Nat.eq_of_testBit_eq fun i => ?_
    rw [wrong, tb_wrongF, Nat.zero_testBit]
    by_cases hi : i < p.weighed.length
    · simp [hi, h i hi]
    · simp [hi]
theorem right_iff (h : p.ok = true) {k : Nat} (hk : k < p.weighed.length) : p.wrongB k = false ↔ (p.bare (p.bs k)).lo ≤ (p.ba k).w.hi ∧ (p.ba k).w.lo ≤ (p.bare (p.bs k)).hi := by
  have h1 := bare_bd h (p.bs k)
  have h3 := ok_ba h hk
  unfold wrongB knownS
  rw [decide_eq_false_iff_not]
  simp only
  omega
theorem part_le (h : p.ok = true) (s : Nat) {k : Nat} (hk : k < p.weighed.length) (hw : p.wrongB k = false) : (p.part s k).lo ≤ (p.part s k).hi := by
  have h1 := bare_bd h (s &&& p.bs k)
  have h2 := bare_bd h (dif (p.bs k) s)
  have h3 := ok_ba h hk
  have h4 := (right_iff h hk).1 hw
  have h5 := bare_cut (p := p) (p.bs k) s
  rw [Nat.and_comm] at h5
  simp only [part, knownS]
  omega
theorem wSum_le (h : p.ok = true) (hw : p.wrong = 0) (s : Nat) : ∀ {k}, k ≤ p.weighed.length → (p.wSum s k).lo ≤ (p.wSum s k).hi := by
  intro k
  induction k with
  | zero => intro _; simp [wSum]
  | succ k ih =>
    intro hk
    have h1 := ih (by omega)
    have h2 := part_le h s hk ((wrong_iff p).1 hw k hk)
    simp only [wSum, plusS]
    omega
theorem weight_le (h : p.ok = true) (hw : p.wrong = 0) (s : Nat) : (p.weight s).lo ≤ (p.weight s).hi := by
  have h1 := wSum_le h hw s (Nat.le_refl _)
  have h2 := bare_bd h (p.rest s p.weighed.length)
  simp only [weight, plusS]
  omega
/-! A truth. -/
/-- How heavy each fleece truly is. -/
def Truth (p : PressD) (t : Nat → Int) : Prop := (∀ i, i < p.n → (p.fw i).lo ≤ t i ∧ t i ≤ (p.fw i).hi) ∧ ∀ k, k < p.weighed.length → (p.ba k).w.lo ≤ sb t (p.bs k) p.n ∧ sb t (p.bs k) p.n ≤ (p.ba k).w.hi
theorem Truth.bare {t : Nat → Int} (ht : p.Truth t) (s : Nat) : (p.bare s).lo ≤ sb t s p.n ∧ sb t s p.n ≤ (p.bare s).hi :=
  ⟨sb_le _ fun i hi _ => (ht.1 i hi).1, sb_le _ fun i hi _ => (ht.1 i hi).2⟩
theorem Truth.part {t : Nat → Int} (ht : p.Truth t) (s : Nat) {k : Nat} (hk : k < p.weighed.length) : (p.part s k).lo ≤ sb t (s &&& p.bs k) p.n ∧ sb t (s &&& p.bs k) p.n ≤ (p.part s k).hi := by
  have h1 := ht.bare (s &&& p.bs k)
  have h2 := ht.bare (dif (p.bs k) s)
  have h3 := ht.2 k hk
  have h4 := sb_cut t (p.bs k) s p.n
  rw [Nat.and_comm] at h4
  simp only [PressD.part, knownS]
  omega
theorem Truth.right {t : Nat → Int} (ht : p.Truth t) (h : p.ok = true) : p.wrong = 0 := by
  rw [wrong_iff]
  intro k hk
  rw [right_iff h hk]
  have h1 := ht.bare (p.bs k)
  have h2 := ht.2 k hk
  omega
theorem rest_sum (h : p.ok = true) (f : Nat → Int) (s : Nat) {k : Nat} (hk : k < p.weighed.length) : sb f (p.rest s k) p.n = sb f (s &&& p.bs k) p.n + sb f (p.rest s (k + 1)) p.n := by
  rw [sb_cut f (p.rest s k) (p.bs k), rest_and h s hk]; rfl
theorem Truth.wSum {t : Nat → Int} (ht : p.Truth t) (h : p.ok = true) (s : Nat) : ∀ {k}, k ≤ p.weighed.length → (p.wSum s k).lo + sb t (p.rest s k) p.n ≤ sb t s p.n ∧ sb t s p.n ≤ (p.wSum s k).hi + sb t (p.rest s k) p.n := by
  intro k
  induction k with
  | zero => intro _; simp [PressD.wSum, PressD.rest]
  | succ k ih =>
    intro hk
    have h1 := ih (by omega)
    have h2 := ht.part s hk
    have h3 := rest_sum h t s hk
    simp only [PressD.wSum, plusS]
    omega
theorem Truth.weight {t : Nat → Int} (ht : p.Truth t) (h : p.ok = true) (s : Nat) : (p.weight s).lo ≤ sb t s p.n ∧ sb t s p.n ≤ (p.weight s).hi := by
  have h1 := ht.wSum h s (Nat.le_refl _)
  have h2 := ht.bare (p.rest s p.weighed.length)
  simp only [PressD.weight, plusS]
  omega
end
end PressD
end Go.Proofs.Ytbfjebglaimcmaa
