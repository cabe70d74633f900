/- Plain laws (no program in sight): an insertion sort of numbers by what they stand for, the greatest first; of equal ones the lesser number first. Plain laws (no program in sight): giving the pennies that are left by the order of the rests is giving each to the first greatest rest. -/
import Derived.Test.YtlcolpnniipgbaaDoorRef13
namespace Go.Proofs.YtlcolpnniipgbaaDoor
def rv (R : List Int) (m : Nat) : Int := (R[m]?).getD 0
/-- m comes before m'. -/
def Lt (R : List Int) (m m' : Nat) : Prop := rv R m' < rv R m ∨ (rv R m = rv R m' ∧ m < m')
/-- The first i are in order, and are the numbers below i; the others stand where they stood. -/
structure Sorted (R : List Int) (n i : Nat) (O : List Nat) : Prop where
  len : O.length = n
  low : ∀ k, k < i → ∃ m, O[k]? = some m ∧ m < i
  all : ∀ m, m < i → ∃ k, k < i ∧ O[k]? = some m
  rest : ∀ k, i ≤ k → k < n → O[k]? = some k
  ord : ∀ k l m m', k < l → l < i → O[k]? = some m → O[l]? = some m' → Lt R m m'
/-- The number i has come down to place j. -/
structure Sinks (R : List Int) (n i : Nat) (O : List Nat) (j : Nat) (M : List Nat) : Prop where
  len : M.length = n
  hj : j ≤ i
  here : M[j]? = some i
  lo : ∀ k, k < j → M[k]? = O[k]?
  mid : ∀ k, j < k → k ≤ i → M[k]? = O[k - 1]?
  hi : ∀ k, i < k → M[k]? = O[k]?
  less : ∀ k m, j < k → k ≤ i → M[k]? = some m → rv R m < rv R i
theorem Sorted.zero (R : List Int) (n : Nat) : Sorted R n 0 (List.range n) :=
  ⟨by simp, fun _ h => by omega, fun _ h => by omega, fun k _ hk => by simp [hk], fun _ _ _ _ _ h => by omega⟩
theorem Sorted.one (R : List Int) (n : Nat) (hn : 1 ≤ n) : Sorted R n 1 (List.range n) := by
  have h0 : (List.range n)[0]? = some 0 := List.getElem?_range (by omega)
  refine ⟨by simp, fun k h => ⟨0, ?_, by omega⟩, fun m h => ⟨0, by omega, ?_⟩, fun k _ hk => by simp [hk], fun _ _ _ _ _ h => by omega⟩
  · rw [show k = 0 by omega]; exact h0
  · rw [show m = 0 by omega]; exact h0
theorem Sinks.start {R : List Int} {n i : Nat} {O : List Nat} (h : Sorted R n i O) (hi : i < n) : Sinks R n i O i O :=
  ⟨h.len, Nat.le_refl _, h.rest i (Nat.le_refl _) hi, fun _ _ => rfl, fun k h1 h2 => by omega, fun _ _ => rfl, fun k m h1 h2 => by omega⟩
theorem Sinks.step {R : List Int} {n i j : Nat} {O M : List Nat} (h : Sinks R n i O (j + 1) M) (_hi : i < n) {y : Nat} (hy : M[j]? = some y) (hl : rv R y < rv R i) : Sinks R n i O j ((M.set (j + 1) y).set j i) := by
  obtain ⟨h1, h2, h3, h4, h5, h6, h7⟩ := h
  have hg : ∀ k, ((M.set (j + 1) y).set j i)[k]? = if k = j then some i else if k = j + 1 then some y else M[k]? := fun k => by
    by_cases e1 : k = j
    · subst e1
      rw [if_pos rfl, List.getElem?_set_self (by simp; omega)]
    · rw [List.getElem?_set_ne (Ne.symm e1), if_neg e1]
      by_cases e2 : k = j + 1
      · subst e2
        rw [if_pos rfl, List.getElem?_set_self (by omega)]
      · rw [List.getElem?_set_ne (Ne.symm e2), if_neg e2]
  refine ⟨by simp [h1], by omega, by rw [hg, if_pos rfl], fun k hk => ?_, fun k ha hb => ?_, fun k hk => ?_, fun k m ha hb hm => ?_⟩
  · rw [hg, if_neg (by omega), if_neg (by omega)]
    exact h4 k (by omega)
  · rw [hg, if_neg (by omega)]
    by_cases e : k = j + 1
    · rw [if_pos e, e, Nat.add_sub_cancel, ← h4 j (by omega), hy]
    · rw [if_neg e]
      exact h5 k (by omega) hb
  · rw [hg, if_neg (by omega), if_neg (by omega)]
    exact h6 k hk
  · rw [hg, if_neg (by omega)] at hm
    by_cases e : k = j + 1
    · rw [if_pos e] at hm
      obtain rfl : y = m := Option.some.inj hm
      exact hl
    · rw [if_neg e] at hm
      exact h7 k m (by omega) hb hm
/-- It stands where it belongs. -/
theorem Sinks.done {R : List Int} {n i j : Nat} {O M : List Nat} (hO : Sorted R n i O) (h : Sinks R n i O j M) (hi : i < n) (hs : ∀ y, 1 ≤ j → M[j - 1]? = some y → ¬ rv R y < rv R i) : Sorted R n (i + 1) M := by
  obtain ⟨o1, o2, o3, o4, o5⟩ := hO
  obtain ⟨h1, h2, h3, h4, h5, h6, h7⟩ := h
  -- what comes ahead of j is no less than i
  have hahead : ∀ k m, k < j → M[k]? = some m → rv R i ≤ rv R m := fun k m hk hm => by
    obtain ⟨y, hy⟩ : ∃ y, M[j - 1]? = some y := ⟨M[j - 1]'(by omega), by simp⟩
    have hge := hs y (by omega) hy
    by_cases e : k = j - 1
    · subst e
      obtain rfl : y = m := Option.some.inj (hy.symm.trans hm)
      omega
    · rw [h4 k hk] at hm
      rw [h4 (j - 1) (by omega)] at hy
      have := o5 k (j - 1) m y (by omega) (by omega) hm hy
      rcases this with h | ⟨h, _⟩ <;> omega
  have hlt : ∀ k m, k < i → O[k]? = some m → m < i := fun k m hk hm => by
    obtain ⟨m', e, hm'⟩ := o2 k hk
    obtain rfl : m' = m := Option.some.inj (e.symm.trans hm)
    exact hm'
  refine ⟨h1, fun k hk => ?_, fun m hm => ?_, fun k ha hb => by rw [h6 k (by omega)]; exact o4 k (by omega) hb, fun k l m m' hkl hl hm hm' => ?_⟩
  · rcases Nat.lt_trichotomy k j with hkj | rfl | hkj
    · obtain ⟨m, e, hm⟩ := o2 k (by omega)
      exact ⟨m, by rw [h4 k hkj]; exact e, by omega⟩
    · exact ⟨i, h3, by omega⟩
    · obtain ⟨m, e, hm⟩ := o2 (k - 1) (by omega)
      exact ⟨m, by rw [h5 k hkj (by omega)]; exact e, by omega⟩
  · by_cases e : m = i
    · exact ⟨j, by omega, by rw [h3, e]⟩
    · obtain ⟨k, hk, he⟩ := o3 m (by omega)
      by_cases hkj : k < j
      · exact ⟨k, by omega, by rw [h4 k hkj]; exact he⟩
      · exact ⟨k + 1, by omega, by rw [h5 (k + 1) (by omega) (by omega), Nat.add_sub_cancel]; exact he⟩
  · rcases Nat.lt_trichotomy l j with hlj | rfl | hlj
    · rw [h4 k (by omega)] at hm
      rw [h4 l hlj] at hm'
      exact o5 k l m m' hkl (by omega) hm hm'
    · obtain rfl : i = m' := Option.some.inj (h3.symm.trans hm')
      have h8 := hahead k m hkl hm
      have h9 : m < i := by rw [h4 k hkl] at hm; exact hlt k m (by omega) hm
      by_cases e : rv R m = rv R i
      · exact .inr ⟨e, h9⟩
      · exact .inl (by omega)
    · rcases Nat.lt_trichotomy k j with hkj | rfl | hkj
      · rw [h4 k hkj] at hm
        rw [h5 l hlj (by omega)] at hm'
        exact o5 k (l - 1) m m' (by omega) (by omega) hm hm'
      · obtain rfl : i = m := Option.some.inj (h3.symm.trans hm)
        exact .inl (h7 l m' hlj (by omega) hm')
      · rw [h5 k hkj (by omega)] at hm
        rw [h5 l hlj (by omega)] at hm'
        exact o5 (k - 1) (l - 1) m m' (by omega) (by omega) hm hm'
end Go.Proofs.YtlcolpnniipgbaaDoor
namespace Go.Proofs.YtlcolpnniipgbaaDoor
def og (O : List Nat) (j : Nat) : Nat := (O[j]?).getD 0
/-- The first k in the order O get one more. -/
def giveO (O : List Nat) (S : List Int) : Nat → List Int
  | 0 => S
  | k + 1 => (giveO O S k).set (og O k) ((((giveO O S k)[og O k]?).getD 0) + 1)
def markO (O : List Nat) (R : List Int) : Nat → List Int
  | 0 => R
  | k + 1 => (markO O R k).set (og O k) (-1)
theorem giveO_len (O : List Nat) (S : List Int) : ∀ k, (giveO O S k).length = S.length := by
  intro k
  induction k with
  | zero => rfl
  | succ k ih => rw [giveO, List.length_set, ih]
theorem markO_len (O : List Nat) (R : List Int) : ∀ k, (markO O R k).length = R.length := by
  intro k
  induction k with
  | zero => rfl
  | succ k ih => rw [markO, List.length_set, ih]
theorem bestF_spec (R : List Int) (m : Nat) : ∀ k, m ≤ k → (∀ i, i ≤ k → rv R i ≤ rv R m) → (∀ i, i < m → rv R i < rv R m) → bestF R k = m := by
  intro k
  induction k with
  | zero => intro h _ _; obtain rfl : m = 0 := by omega
            rfl
  | succ k ih =>
    intro hm h1 h2
    rw [bestF]
    change (if rv R (bestF R k) < rv R (k + 1) then k + 1 else bestF R k) = m
    by_cases e : m = k + 1
    · subst e
      have hb := bestF_le R k
      rw [if_pos (h2 _ (by omega))]
    · have := ih (by omega) (fun i hi => h1 i (by omega)) h2
      rw [this, if_neg (by have := h1 (k + 1) (Nat.le_refl _); omega)]
section
variable {R : List Int} {n : Nat} {O : List Nat}
theorem og_lt (h : Sorted R n n O) {j : Nat} (hj : j < n) : og O j < n ∧ O[j]? = some (og O j) := by
  obtain ⟨m, e, hm⟩ := h.low j hj
  unfold og
  rw [e]
  exact ⟨hm, rfl⟩
theorem og_inj (h : Sorted R n n O) {k l : Nat} (hk : k < n) (hl : l < n) (he : og O k = og O l) : k = l := by
  have h1 := (og_lt h hk).2
  have h2 := (og_lt h hl).2
  rcases Nat.lt_trichotomy k l with hkl | hkl | hkl
  · rcases h.ord k l _ _ hkl hl h1 h2 with h3 | ⟨_, h3⟩
    · rw [he] at h3; omega
    · omega
  · exact hkl
  · rcases h.ord l k _ _ hkl hk h2 h1 with h3 | ⟨_, h3⟩
    · rw [he] at h3; omega
    · omega
theorem mark_get (h : Sorted R n n O) (hR : R.length = n) : ∀ j, j ≤ n → ∀ l, l < n → rv (markO O R j) (og O l) = if l < j then -1 else rv R (og O l) := by
  intro j
  induction j with
  | zero => intro _ l _; simp [markO]
  | succ j ih =>
    intro hj l hl
    rw [markO]
    unfold rv
    by_cases e : l = j
    · subst e
      rw [List.getElem?_set_self (by rw [markO_len, hR]; exact (og_lt h hl).1), if_pos (by omega)]
      rfl
    · rw [List.getElem?_set_ne (fun he => e (og_inj h hl (by omega) he.symm))]
      have := ih (by omega) l hl
      unfold rv at this
      rw [this]
      by_cases hlj : l < j
      · rw [if_pos hlj, if_pos (by omega)]
      · rw [if_neg hlj, if_neg (by omega)]
theorem best_mark (h : Sorted R n n O) (hR : R.length = n) (h0 : ∀ i, i < n → 0 ≤ rv R i) {j : Nat} (hj : j < n) : bestF (markO O R j) (n - 1) = og O j := by
  have hv := mark_get h hR j (by omega)
  have hm := og_lt h hj
  have hmv : rv (markO O R j) (og O j) = rv R (og O j) := by rw [hv j hj, if_neg (by omega)]
  have h0m := h0 _ hm.1
  have key : ∀ i, i < n → rv (markO O R j) i ≤ rv R (og O j) ∧ (i < og O j → rv (markO O R j) i < rv R (og O j)) := by
    intro i hi
    obtain ⟨l, hl, e⟩ := h.all i hi
    have ei : og O l = i := by unfold og; rw [e]; rfl
    rw [← ei, hv l hl]
    by_cases hlj : l < j
    · rw [if_pos hlj]
      exact ⟨by omega, fun _ => by omega⟩
    · rw [if_neg hlj]
      by_cases hle : l = j
      · subst hle
        exact ⟨Int.le_refl _, fun h => by omega⟩
      · rcases h.ord j l _ _ (by omega) hl hm.2 (og_lt h hl).2 with h1 | ⟨h1, h2⟩
        · exact ⟨by omega, fun _ => h1⟩
        · exact ⟨by omega, fun h3 => by omega⟩
  refine bestF_spec _ _ _ (by omega) (fun i hi => ?_) (fun i hi => ?_)
  · rw [hmv]; exact (key i (by omega)).1
  · rw [hmv]; exact (key i (by omega)).2 hi
theorem giveF_giveO (h : Sorted R n n O) (hR : R.length = n) (h0 : ∀ i, i < n → 0 ≤ rv R i) (S : List Int) : ∀ k j, j + k ≤ n → giveF n k (giveO O S j, markO O R j) = giveO O S (j + k) := by
  intro k
  induction k with
  | zero => intro j _; rfl
  | succ k ih =>
    intro j hj
    rw [giveF]
    simp only
    rw [best_mark h hR h0 (by omega)]
    have := ih (j + 1) (by omega)
    rw [giveO, markO] at this
    rw [this]
    congr 1
    omega
end
/-! What is left is less than how many they are. -/
theorem left_sum {bill all : Int} {days : List Int} {n : Nat} (ha : 1 ≤ all) : ∀ k, k ≤ n →
    all * sumF (partF bill all days (· / ·) n n) k + sumF (partF bill all days (· % ·) n n) k = bill * sumF days k ∧
    0 ≤ sumF (partF bill all days (· % ·) n n) k ∧ sumF (partF bill all days (· % ·) n n) k ≤ k * (all - 1) := by
  intro k
  induction k with
  | zero => intro _; simp [sumF]
  | succ k ih =>
    intro hk
    obtain ⟨i1, i2, i3⟩ := ih (by omega)
    have e1 := partF_get (bill := bill) (all := all) (days := days) (f := (· / ·)) (n := n) (k := n) (i := k) (Nat.le_refl _) (by omega)
    have e2 := partF_get (bill := bill) (all := all) (days := days) (f := (· % ·)) (n := n) (k := n) (i := k) (Nat.le_refl _) (by omega)
    rw [if_pos (by omega)] at e1 e2
    simp only [sumF, e1, e2, Option.getD_some]
    generalize (days[k]?).getD 0 = d
    have h1 := Int.mul_ediv_add_emod (bill * d) all
    have h2 := Int.emod_nonneg (bill * d) (b := all) (by omega)
    have h3 := Int.emod_lt_of_pos (bill * d) (b := all) (by omega)
    refine ⟨?_, by omega, ?_⟩
    · rw [Int.mul_add, Int.mul_add]
      omega
    · have e : ((k + 1 : Nat) : Int) * (all - 1) = (k : Int) * (all - 1) + (all - 1) := by rw [Int.natCast_add, Int.add_mul]; simp
      rw [e]; omega
theorem left_bd {bill all : Int} {days : List Int} {n : Nat} (ha : 1 ≤ all) (hn : 1 ≤ n) (hall : sumF days n = all) :
    0 ≤ bill - sumF (partF bill all days (· / ·) n n) n ∧ bill - sumF (partF bill all days (· / ·) n n) n < n := by
  obtain ⟨h1, h2, h3⟩ := left_sum (bill := bill) (days := days) (n := n) ha n (Nat.le_refl _)
  rw [hall] at h1
  generalize sumF (partF bill all days (· / ·) n n) n = s at *
  generalize sumF (partF bill all days (· % ·) n n) n = r at *
  have e : all * (bill - s) = r := by rw [Int.mul_sub, Int.mul_comm all bill]; omega
  constructor
  · refine Int.not_lt.1 fun hneg => ?_
    have : all * (bill - s) < 0 := Int.mul_neg_of_pos_of_neg (by omega) hneg
    omega
  · refine Int.not_le.1 fun hge => ?_
    have h4 : all * (n : Int) ≤ all * (bill - s) := Int.mul_le_mul_of_nonneg_left hge (by omega)
    have h5 : (n : Int) * (all - 1) = all * n - n := by rw [Int.mul_sub, Int.mul_comm]; omega
    omega
end Go.Proofs.YtlcolpnniipgbaaDoor
