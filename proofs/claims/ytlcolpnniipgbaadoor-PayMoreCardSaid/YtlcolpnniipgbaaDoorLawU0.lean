/- Plain laws for PayTrue (no program in sight): what holds of a pay of which a truth is known. -/
import Derived.Test.YtlcolpnniipgbaaDoorLawC0
namespace Go.Proofs.YtlcolpnniipgbaaDoor
def sumI (T : Int → Int) : Nat → Int → Int
  | 0, _ => 0
  | n + 1, f => T f + sumI T n (f + 1)
theorem sumI_snoc (T : Int → Int) : ∀ (n : Nat) (f : Int), sumI T (n + 1) f = sumI T n f + T (f + n) := by
  intro n
  induction n with
  | zero => intro f; simp [sumI]
  | succ n ih =>
    intro f
    rw [sumI, ih (f + 1), sumI, show f + 1 + (n : Int) = f + ((n + 1 : Nat) : Int) by omega]
    omega
theorem sumI_bd {T : Int → Int} {m : Int} (N : Int) (h : ∀ i : Int, 0 ≤ i → i < N → 0 ≤ T i ∧ T i ≤ m) : ∀ (n : Nat) (f : Int), 0 ≤ f → f + n ≤ N → 0 ≤ sumI T n f ∧ sumI T n f ≤ n * m := by
  intro n
  induction n with
  | zero => intro f _ _; simp [sumI]
  | succ n ih =>
    intro f h0 h1
    have a := ih (f + 1) (by omega) (by omega)
    have b := h f h0 (by omega)
    have e : ((n + 1 : Nat) : Int) * m = n * m + m := by rw [Int.natCast_add, Int.add_mul]; simp
    rw [sumI, e]
    omega
/-- A truth: how many each has shorn in each run. -/
structure Truth (x : PayD) (T : Int → Int → Int) : Prop where
  called : ∀ r who : Int, 0 ≤ r → r < x.runs.length → 0 ≤ who → who < x.people → (calledS x who r).lo ≤ T r who ∧ T r who ≤ (calledS x who r).hi
  run : ∀ r : Int, 0 ≤ r → r < x.runs.length → (runS x r).lo ≤ sumI (T r) x.people.toNat 0 ∧ sumI (T r) x.people.toNat 0 ≤ (runS x r).hi
section
variable {x : PayD} {T : Int → Int → Int}
theorem lo_truth (x : PayD) (run who k N : Int) (T : Int → Int) (hT : ∀ i : Int, 0 ≤ i → i < N → (calledS x i run).lo ≤ T i ∧ T i ≤ (calledS x i run).hi) (hk : 0 ≤ who → k = T who) :
    ∀ (n : Nat) (f : Int), 0 ≤ f → f + n ≤ N → loF x run who k n f ≤ sumI T n f ∧ sumI T n f ≤ hiF x run who k n f := by
  intro n
  induction n with
  | zero => intro f _ _; simp [sumI, loF, hiF]
  | succ n ih =>
    intro f h0 h1
    have a := ih (f + 1) (by omega) (by omega)
    have b := hT f h0 (by omega)
    rw [sumI, loF, hiF]
    by_cases e : f = who
    · subst e
      have ek := hk h0
      rw [if_pos rfl, if_pos rfl]
      omega
    · rw [if_neg e, if_neg e]
      omega
theorem Truth.all (h : Truth x T) (hv : payB x = true) {r : Int} (h0 : 0 ≤ r) (h1 : r < x.runs.length) : (allS x r (-1)).lo ≤ sumI (T r) x.people.toNat 0 ∧ sumI (T r) x.people.toNat 0 ≤ (allS x r (-1)).hi := by
  have hp := payB_people hv
  exact lo_truth x r (-1) 0 x.people (T r) (fun i i0 i1 => h.called r i h0 h1 i0 i1) (fun h => by omega) x.people.toNat 0 (Int.le_refl _) (by omega)
theorem Truth.others (h : Truth x T) (hv : payB x = true) {r who : Int} (h0 : 0 ≤ r) (h1 : r < x.runs.length) (w0 : 0 ≤ who) (w1 : who < x.people) :
    (allS x r who).lo + T r who ≤ sumI (T r) x.people.toNat 0 ∧ sumI (T r) x.people.toNat 0 ≤ (allS x r who).hi + T r who := by
  have hp := payB_people hv
  have := lo_truth x r who (T r who) x.people (T r) (fun i i0 i1 => h.called r i h0 h1 i0 i1) (fun _ => rfl) x.people.toNat 0 (Int.le_refl _) (by omega)
  obtain ⟨k1, k2⟩ := loF_k x r who (T r who) x.people.toNat 0 w0 (by omega)
  rw [k1, k2] at this
  exact this
theorem Truth.right (h : Truth x T) (hv : payB x = true) : wrongI x = 0 := by
  rw [wrongI_zero]
  intro r hr
  rw [okRun_iff hv r hr]
  have a := h.all hv (r := r) (by omega) (by omega)
  have b := h.run r (by omega) (by omega)
  omega
theorem Truth.sheep (h : Truth x T) (hv : payB x = true) {r who : Int} (h0 : 0 ≤ r) (h1 : r < x.runs.length) (w0 : 0 ≤ who) (w1 : who < x.people) :
    (sheepS x who r).lo ≤ T r who ∧ T r who ≤ (sheepS x who r).hi := by
  have a := h.others hv h0 h1 w0 w1
  have b := h.run r h0 h1
  have c := h.called r who h0 h1 w0 w1
  simp only [sheepS]
  omega
theorem Truth.out (h : Truth x T) (hv : payB x = true) {r : Int} (h0 : 0 ≤ r) (h1 : r < x.runs.length) : (outS x r).lo ≤ sumI (T r) x.people.toNat 0 ∧ sumI (T r) x.people.toNat 0 ≤ (outS x r).hi := by
  have a := h.all hv h0 h1
  have b := h.run r h0 h1
  simp only [outS]
  omega
/-- The wages that truly are due, of the first k runs. -/
def wageT (T : Int → Int → Int) (who rate : Int) : Nat → Int
  | 0 => 0
  | k + 1 => wageT T who rate k + T k who * rate / 100
theorem Truth.wages (h : Truth x T) (hv : payB x = true) {who : Int} (w0 : 0 ≤ who) (w1 : who < x.people) : ∀ k : Nat, k ≤ x.runs.length →
    (wagesF (fun r => sheepS x who r) x.rate k).lo ≤ wageT T who x.rate k ∧ wageT T who x.rate k ≤ (wagesF (fun r => sheepS x who r) x.rate k).hi := by
  have hr := payB_rate hv
  intro k
  induction k with
  | zero => intro _; simp [wagesF, wageT]
  | succ k ih =>
    intro hk
    have a := ih (by omega)
    have b := h.sheep hv (r := k) (who := who) (by omega) (by omega) w0 w1
    have c1 := Int.ediv_le_ediv (c := 100) (by omega) (Int.mul_le_mul_of_nonneg_right b.1 hr.1)
    have c2 := Int.ediv_le_ediv (c := 100) (by omega) (Int.mul_le_mul_of_nonneg_right b.2 hr.1)
    rw [wagesF, wageT]
    simp only
    omega
theorem wageT_bd {T : Int → Int → Int} {who rate : Int} {n : Nat} (hr0 : 0 ≤ rate) (hr1 : rate ≤ 1000) (h : ∀ r : Nat, r < n → 0 ≤ T r who ∧ T r who ≤ 100) : ∀ k : Nat, k ≤ n → 0 ≤ wageT T who rate k ∧ wageT T who rate k ≤ 1000 * k := by
  intro k
  induction k with
  | zero => intro _; simp [wageT]
  | succ k ih =>
    intro hk
    have a := ih (by omega)
    have b := h k (by omega)
    have c := wage_bd b.1 b.2 hr0 hr1
    rw [wageT]
    omega
theorem checkF_some {p : PayD} {g : Pd → Nat → Int} : ∀ n k, checkF p g n k = (0, 0, 4) ∨ ∃ (i : Nat) (x : Pd), checkF p g n k = ((i : Int), g x i, 0) ∧ p.paid[i]? = some x ∧ g x i ≠ 0 := by
  intro n
  induction n with
  | zero => intro k; exact .inl rfl
  | succ n ih =>
    intro k
    rw [checkF]
    cases hx : p.paid[k]? with
    | none => exact .inl rfl
    | some x =>
      simp only
      by_cases e : g x k = 0
      · rw [if_pos e]; exact ih _
      · rw [if_neg e]; exact .inr ⟨k, x, rfl, hx, e⟩
/-- What is returned of payments: none, or one, and if it is paid too much it is more than the wage that truly is due. -/
theorem Truth.check (h : Truth x T) (hv : payB x = true) : checkR x (ruleX x) = (0, 0, 4) ∨ ∃ (i : Nat) (y : Pd), checkR x (ruleX x) = ((i : Int), ruleX x y i, 0) ∧ x.paid[i]? = some y ∧ (ruleX x y i = 3 → T y.run y.who * x.rate / 100 < y.pence) := by
  have ht := h.right hv
  rw [checkR, if_pos (by rw [checkE_fine hv rfl]; simp [ht])]
  rcases checkF_some (p := x) (g := ruleX x) x.paid.length 0 with e | ⟨i, y, e, hy, _⟩
  · exact .inl e
  · refine .inr ⟨i, y, e, hy, fun h3 => ?_⟩
    obtain ⟨p1, p2, p3, p4, _, _⟩ := payB_paid hv hy
    have hs := h.sheep hv (r := y.run) (who := y.who) p3 p4 p1 p2
    have hr := payB_rate hv
    rw [ruleX_eq hv ht hy] at h3
    split at h3
    · omega
    · split at h3
      · omega
      · split at h3
        · rename_i hm
          have := Int.ediv_le_ediv (c := 100) (by omega) (Int.mul_le_mul_of_nonneg_right hs.2 hr.1)
          omega
        · omega
end
end Go.Proofs.YtlcolpnniipgbaaDoor
