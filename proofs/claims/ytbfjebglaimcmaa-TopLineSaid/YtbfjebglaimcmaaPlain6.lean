/- The plain law of PressPlan: no pressing is better than the plan, and what waits of a line makes no bale more; a list is sorted by exchanges; nothing of the program. -/
import Derived.Test.YtbfjebglaimcmaaPlain5
namespace Go.Proofs.Ytbfjebglaimcmaa
/-- All that some sets have. -/
def orL (L : List Nat) : Nat := L.foldl (· ||| ·) 0
theorem orL_next {L : List Nat} {k s : Nat} (h : L[k]? = some s) : orL (L.take (k + 1)) = orL (L.take k) ||| s := by
  unfold orL
  rw [List.take_add_one, h, List.foldl_append]
  rfl
theorem tb_foldl (i : Nat) : ∀ (L : List Nat) (a : Nat), (L.foldl (· ||| ·) a).testBit i = (a.testBit i || L.any fun s => s.testBit i) := by
  intro L
  induction L with
  | nil => intro a; simp
  | cons s L ih => intro a; rw [List.foldl_cons, ih, Nat.testBit_or, List.any_cons, Bool.or_assoc]
theorem tb_orL (L : List Nat) (i : Nat) : (orL L).testBit i = L.any fun s => s.testBit i := by unfold orL; rw [tb_foldl, Nat.zero_testBit, Bool.false_or]
theorem orL_lt {L : List Nat} {n : Nat} (h : ∀ s ∈ L, s < 2 ^ n) : orL L < 2 ^ n := by
  refine Nat.lt_pow_two_of_testBit _ fun i hi => ?_
  rw [tb_orL, List.any_eq_false]
  intro s hs
  rw [Nat.testBit_lt_two_pow (Nat.lt_of_lt_of_le (h s hs) (Nat.pow_le_pow_right (by omega) hi))]
  simp
theorem orL_disj {L : List Nat} {s : Nat} (h : ∀ t ∈ L, t &&& s = 0) : orL L &&& s = 0 := and_zero_iff.2 fun i ⟨h1, h2⟩ => by
  rw [tb_orL, List.any_eq_true] at h1
  obtain ⟨t, ht, h3⟩ := h1
  exact and_zero_iff.1 (h t ht) i ⟨h3, h2⟩
theorem pairwise_take {R : Nat → Nat → Prop} {L : List Nat} (h : L.Pairwise R) {k s : Nat} (hs : L[k]? = some s) : ∀ t ∈ L.take k, R t s := by
  intro t ht
  obtain ⟨j, hj⟩ := List.getElem?_of_mem ht
  rw [List.getElem?_take] at hj
  split at hj
  · rename_i hlt
    obtain ⟨a1, a2⟩ := List.getElem?_eq_some_iff.1 hj
    obtain ⟨b1, b2⟩ := List.getElem?_eq_some_iff.1 hs
    have := List.pairwise_iff_getElem.1 h j k a1 b1 hlt
    rw [a2, b2] at this
    exact this
  · cases hj
theorem pop_orL {L : List Nat} (h : L.Pairwise (fun s t => s &&& t = 0)) : ∀ k, k ≤ L.length → pop (orL (L.take k)) 10 = pops (L.take k) := by
  intro k
  induction k with
  | zero => intro _; simp [orL, pops, pop, sb_zero]
  | succ k ih =>
    intro hk
    obtain ⟨s, hs⟩ : ∃ s, L[k]? = some s := ⟨_, List.getElem?_eq_getElem (by omega)⟩
    have e : pops (L.take (k + 1)) = pops (L.take k) + pop s 10 := by
      rw [List.take_add_one, hs]
      simp [pops]
    rw [orL_next hs, e, ← ih (by omega), pop, pop, pop, sb_or _ _ _ (orL_disj (pairwise_take h hs))]
/-- The fleeces of a line, of the first k, that a set has not. -/
def lineS (p : PressD) (u : Nat) (j : Int) : Nat → Nat
  | 0 => 0
  | k + 1 => if u.testBit k = false ∧ p.line k = j then lineS p u j k ||| 2 ^ k else lineS p u j k
theorem tb_lineS (p : PressD) (u : Nat) (j : Int) : ∀ k i, (lineS p u j k).testBit i = (decide (i < k) && !u.testBit i && decide (p.line i = j)) := by
  intro k
  induction k with
  | zero => intro i; simp [lineS]
  | succ k ih =>
    intro i
    rw [lineS]
    by_cases h : u.testBit k = false ∧ p.line k = j
    · rw [if_pos h, Nat.testBit_or, ih, Nat.testBit_two_pow]
      by_cases e : k = i
      · subst e; simp [h.1, h.2]
      · by_cases h2 : i < k
        · simp [h2, e, show i < k + 1 by omega]
        · simp [h2, e, show ¬ i < k + 1 by omega]
    · rw [if_neg h, ih]
      by_cases e : i = k
      · subst e
        have : ¬ (u.testBit i = false ∧ p.line i = j) := h
        cases hu : u.testBit i
        · have : ¬ p.line i = j := fun hl => h ⟨hu, hl⟩
          simp [this]
        · simp
      · by_cases h2 : i < k
        · simp [h2, show i < k + 1 by omega]
        · simp [h2, show ¬ i < k + 1 by omega]
theorem lineS_lt (p : PressD) (u : Nat) (j : Int) (k : Nat) : lineS p u j k < 2 ^ k := by
  refine Nat.lt_pow_two_of_testBit _ fun i hi => ?_
  rw [tb_lineS]
  simp [show ¬ i < k by omega]
theorem mem_sets (p : PressD) (s : Nat) : s ∈ p.sets ↔ 0 < s ∧ s < 2 ^ p.n ∧ p.sure s = true := by
  unfold PressD.sets
  rw [List.mem_filter, List.mem_map]
  constructor
  · rintro ⟨⟨k, hk, rfl⟩, h⟩
    have := List.mem_range.1 hk
    exact ⟨by omega, le_full.1 (by omega), h⟩
  · rintro ⟨h1, h2, h3⟩
    have := le_full.2 h2
    exact ⟨⟨s - 1, List.mem_range.2 (by omega), by omega⟩, h3⟩
theorem sure_pos {p : PressD} {s : Nat} (h : p.sure s = true) : 0 < s := by
  rcases Nat.eq_zero_or_pos s with rfl | h1
  · exfalso
    simp only [PressD.sure, PressD.alike, Bool.and_eq_true, List.any_eq_true] at h
    obtain ⟨⟨⟨i, _, hi⟩, _⟩, _⟩ := h
    rw [Nat.zero_testBit] at hi
    cases hi
  · exact h1
theorem sub_full {s n : Nat} (h : s < 2 ^ n) : sub s (full n) = true := sub_iff.2 fun i hi => by
  rw [tb_full]
  rcases Nat.lt_or_ge i n with h1 | h1
  · simp [h1]
  · rw [Nat.testBit_lt_two_pow (Nat.lt_of_lt_of_le h (Nat.pow_le_pow_right (by omega) h1))] at hi; cases hi
/-- A pressing. -/
structure Pressing (p : PressD) (L : List Nat) : Prop where
  len : (L.length : Int) ≤ p.bales
  sure : ∀ s ∈ L, s < 2 ^ p.n ∧ p.sure s = true
  disj : L.Pairwise (fun s t => s &&& t = 0)
theorem Pressing.perm {p : PressD} {L M : List Nat} (h : Pressing p L) (hp : M.Perm L) : Pressing p M :=
  ⟨by rw [hp.length_eq]; exact h.len, fun s hs => h.sure s (hp.mem_iff.1 hs), (hp.pairwise_iff (fun h => by rw [Nat.and_comm]; exact h)).2 h.disj⟩
section
variable {p : PressD}
theorem pressing_fam {L : List Nat} (h : Pressing p L) (hs : L.Pairwise (· < ·)) : Fam p.sets p.bales.toNat (full p.n) 0 L :=
  Fam.of_sorted (by have := h.len; omega) (fun s hm => ⟨(mem_sets p s).2 ⟨sure_pos (h.sure s hm).2, (h.sure s hm).1, (h.sure s hm).2⟩, sure_pos (h.sure s hm).2, sub_full (h.sure s hm).1⟩) hs h.disj
theorem plan_pressing (hb : 0 ≤ p.bales) : Pressing p (plan p.sets (full p.n) p.bales.toNat) ∧ (plan p.sets (full p.n) p.bales.toNat).Pairwise (· < ·) := by
  obtain ⟨h1, -⟩ := plan_fam (l := p.sets) (full p.n) p.bales.toNat
  obtain ⟨h2, h3, h4⟩ := h1.parts
  have h5 := plan_length (l := p.sets) (full p.n) p.bales.toNat
  have h6 := (few_spec (l := p.sets) (full p.n) p.bales.toNat).1
  exact ⟨⟨by omega, fun s hs => ((mem_sets p s).1 (h2 s hs).1).2, h4⟩, h3⟩
/-- What waits of a line does not fit one bale more. -/
theorem line_no (h10 : p.n ≤ 10) (hb : 0 ≤ p.bales) {L : List Nat} (hL : plan p.sets (full p.n) p.bales.toNat = L) (hlt : (L.length : Int) < p.bales) (j : Int) : p.sure (lineS p (orL L) j p.n) = false := by
  cases hs : p.sure (lineS p (orL L) j p.n)
  · rfl
  · exfalso
    obtain ⟨S, hS⟩ : ∃ S, lineS p (orL L) j p.n = S := ⟨_, rfl⟩
    rw [hS] at hs
    have hSlt : S < 2 ^ p.n := by rw [← hS]; exact lineS_lt _ _ _ _
    have hS0 := sure_pos hs
    obtain ⟨hp, -⟩ := plan_pressing hb
    rw [hL] at hp
    have hd : ∀ t ∈ L, t &&& S = 0 := fun t ht => and_zero_iff.2 fun i ⟨h1, h2⟩ => by
      rw [← hS, tb_lineS, tb_orL] at h2
      have : (L.any fun s => s.testBit i) = true := List.any_eq_true.2 ⟨t, ht, h1⟩
      rw [this] at h2
      simp at h2
    obtain ⟨M, hM, hM2, -⟩ := Fam.of_any (l := p.sets) (b := p.bales.toNat) (f := full p.n) (L := L ++ [S]) (by simp; omega) (fun s hs' => by
      rcases List.mem_append.1 hs' with h | h
      · exact ⟨(mem_sets p s).2 ⟨sure_pos (hp.sure s h).2, (hp.sure s h).1, (hp.sure s h).2⟩, sure_pos (hp.sure s h).2, sub_full (hp.sure s h).1⟩
      · obtain rfl : s = S := by simpa using h
        exact ⟨(mem_sets p s).2 ⟨hS0, hSlt, hs⟩, hS0, sub_full hSlt⟩) (List.pairwise_append.2 ⟨hp.disj, by simp, fun a ha b hb => by
        obtain rfl : b = S := by simpa using hb
        exact hd a ha⟩)
    have h1 := (plan_best hM).1
    have h2 := (plan_fam (l := p.sets) (full p.n) p.bales.toNat).2
    rw [hL] at h2
    have h3 : pops (L ++ [S]) = pops L + pop S 10 := by simp [pops]
    have h4 := pop_pos_of (Nat.lt_of_lt_of_le (full_lt p.n) (Nat.pow_le_pow_right (by omega) h10)) (sub_full hSlt) hS0
    omega
/-- Another pressing is no better, and comes no sooner. -/
theorem other_no (h10 : p.n ≤ 10) {L M : List Nat} (hL : plan p.sets (full p.n) p.bales.toNat = L) (hM : Pressing p M) (hs : M.Pairwise (· < ·)) :
    pops M ≤ pops L ∧ (pops M = pops L → L.length ≤ M.length ∧ (M.length = L.length → lexLe L M)) := by
  have hF := pressing_fam hM hs
  obtain ⟨h1, h2⟩ := plan_best hF
  have h3 := (plan_fam (l := p.sets) (full p.n) p.bales.toNat).2
  have h4 := plan_length (l := p.sets) (full p.n) p.bales.toNat
  have hsorted : p.sets.Pairwise (· < ·) := by
    unfold PressD.sets
    refine List.Pairwise.filter _ ?_
    rw [List.pairwise_map]
    exact (List.pairwise_lt_range (n := full p.n)).imp (fun h => by omega)
  rw [hL] at h3 h4
  refine ⟨by omega, fun e => ⟨by have := h2 (by omega); omega, fun e2 => ?_⟩⟩
  have := plan_first hsorted (Nat.lt_of_lt_of_le (full_lt p.n) (Nat.pow_le_pow_right (by omega) h10)) hF (by omega) (by omega)
  rw [hL] at this
  exact this
end
theorem lex_at : ∀ {a b : List Nat} {i x y : Nat}, lexLe a b → (∀ j, j < i → a[j]? = b[j]?) → a[i]? = some x → b[i]? = some y → x ≠ y → x < y := by
  intro a
  induction a with
  | nil => intro b i x y _ _ hx; simp at hx
  | cons s a ih =>
    intro b i x y h he hx hy hne
    cases b with
    | nil => exact h.elim
    | cons t b =>
      cases i with
      | zero =>
        obtain rfl : s = x := by simpa using hx
        obtain rfl : t = y := by simpa using hy
        rcases h with h | ⟨h, _⟩
        · exact h
        · exact absurd h hne
      | succ i =>
        have h0 : s = t := by simpa using he 0 (by omega)
        rcases h with h | ⟨_, h⟩
        · omega
        · exact ih h (fun j (hj : j < i) => by simpa using he (j + 1) (by omega)) (by simpa using hx) (by simpa using hy) hne
/-! Sorted by exchanges. -/
def Sor (N : List Nat) (i : Nat) : Prop := ∀ a b x y, a < b → b < i → N[a]? = some x → N[b]? = some y → x < y
def Low (N : List Nat) (i k : Nat) : Prop := ∀ j x y, j < k → N[j]? = some x → N[i]? = some y → x < y
theorem Sor.next {N : List Nat} {i : Nat} (h : Sor N i) (h2 : Low N i i) : Sor N (i + 1) := fun a b x y hab hb hx hy => by
  by_cases e : b = i
  · subst e; exact h2 a x y hab hx hy
  · exact h a b x y hab (by omega) hx hy
theorem Low.keep {N : List Nat} {i k x y : Nat} (h : Low N i k) (hx : N[i]? = some x) (hy : N[k]? = some y) (hlt : y < x) : Low N i (k + 1) := fun j u v hj hu hv => by
  by_cases e : j = k
  · subst e
    rw [hy] at hu
    rw [hx] at hv
    injection hu with hu
    injection hv with hv
    omega
  · exact h j u v (by omega) hu hv
def swapL (N : List Nat) (i k x y : Nat) : List Nat := (N.set i y).set k x
theorem swap_at {N : List Nat} {i k x y j : Nat} (hx : N[i]? = some x) (hy : N[k]? = some y) : (swapL N i k x y)[j]? = if j = k then some x else if j = i then some y else N[j]? := by
  have hi := (List.getElem?_eq_some_iff.1 hx).1
  have hk := (List.getElem?_eq_some_iff.1 hy).1
  unfold swapL
  by_cases e : j = k
  · subst e
    rw [if_pos rfl, List.getElem?_set_self (by simpa using hk)]
  · rw [if_neg e, List.getElem?_set_ne (Ne.symm e)]
    by_cases e2 : j = i
    · subst e2
      rw [if_pos rfl, List.getElem?_set_self hi]
    · rw [if_neg e2, List.getElem?_set_ne (Ne.symm e2)]
theorem swap_perm {N : List Nat} {i k x y : Nat} (hx : N[i]? = some x) (hy : N[k]? = some y) : (swapL N i k x y).Perm N := by
  obtain ⟨h1, h2⟩ := List.getElem?_eq_some_iff.1 hx
  obtain ⟨h3, h4⟩ := List.getElem?_eq_some_iff.1 hy
  unfold swapL
  have := List.set_set_perm (as := N) (i := i) (j := k) h1 h3
  rw [h2, h4] at this
  exact this
theorem swap_sor {N : List Nat} {i k x y : Nat} (h : Sor N i) (h2 : Low N i k) (hk : k < i) (hx : N[i]? = some x) (hy : N[k]? = some y) (hlt : x < y) : Sor (swapL N i k x y) i ∧ Low (swapL N i k x y) i (k + 1) := by
  refine ⟨fun a b u v hab hb hu hv => ?_, fun j u v hj hu hv => ?_⟩
  · rw [swap_at hx hy] at hu hv
    rw [if_neg (show ¬ a = i by omega)] at hu
    rw [if_neg (show ¬ b = i by omega)] at hv
    by_cases e1 : a = k
    · rw [if_pos e1] at hu
      rw [if_neg (by omega)] at hv
      injection hu with hu
      have := h k b y v (by omega) hb hy hv
      omega
    · rw [if_neg e1] at hu
      by_cases e2 : b = k
      · rw [if_pos e2] at hv
        injection hv with hv
        have := h2 a u x (by omega) hu hx
        omega
      · rw [if_neg e2] at hv
        exact h a b u v hab hb hu hv
  · rw [swap_at hx hy] at hu hv
    rw [if_neg (show ¬ i = k by omega), if_pos rfl] at hv
    injection hv with hv
    by_cases e1 : j = k
    · rw [if_pos e1] at hu
      injection hu with hu
      omega
    · rw [if_neg e1, if_neg (show ¬ j = i by omega)] at hu
      have := h2 j u x (by omega) hu hx
      omega
theorem Sor.pairwise {N : List Nat} (h : Sor N N.length) : N.Pairwise (· < ·) := List.pairwise_iff_getElem.2 fun i j hi hj hij => h i j _ _ hij hj (List.getElem?_eq_getElem hi) (List.getElem?_eq_getElem hj)
/-- Sets that always fit and have nothing in common are not the same. -/
theorem pressing_ne {p : PressD} {N : List Nat} (h : Pressing p N) {i k x y : Nat} (hik : k < i) (hx : N[i]? = some x) (hy : N[k]? = some y) : x ≠ y := by
  intro e
  subst e
  have h1 := pairwise_take h.disj hx x (by
    obtain ⟨a, b⟩ := List.getElem?_eq_some_iff.1 hy
    exact List.mem_of_getElem? (i := k) (by rw [List.getElem?_take, if_pos hik, hy]))
  have h2 := sure_pos (h.sure x (List.mem_of_getElem? hx)).2
  rw [Nat.and_self] at h1
  omega
theorem Pressing.snoc {p : PressD} {L : List Nat} {s : Nat} (h : Pressing p L) (hlt : (L.length : Int) < p.bales) (hs : s < 2 ^ p.n) (hsure : p.sure s = true) (hd : s &&& orL L = 0) : Pressing p (L ++ [s]) := by
  refine ⟨by simp; omega, fun t ht => ?_, List.pairwise_append.2 ⟨h.disj, by simp, fun a ha b hb => ?_⟩⟩
  · rcases List.mem_append.1 ht with h1 | h1
    · exact h.sure t h1
    · obtain rfl : t = s := by simpa using h1
      exact ⟨hs, hsure⟩
  · obtain rfl : b = s := by simpa using hb
    refine and_zero_iff.2 fun i ⟨h1, h2⟩ => and_zero_iff.1 hd i ⟨h2, ?_⟩
    rw [tb_orL]
    exact List.any_eq_true.2 ⟨a, ha, h1⟩
theorem orL_snoc (L : List Nat) (s : Nat) : orL (L ++ [s]) = orL L ||| s := by unfold orL; rw [List.foldl_append]; rfl
end Go.Proofs.Ytbfjebglaimcmaa
