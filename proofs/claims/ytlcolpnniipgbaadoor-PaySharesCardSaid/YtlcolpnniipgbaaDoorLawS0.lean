/- Plain laws for PayShares (no program in sight): what the shares are, by who gets one more. -/
import Derived.Test.YtlcolpnniipgbaaDoorLawF
namespace Go.Proofs.YtlcolpnniipgbaaDoor
/-! Numbers can be put in order. -/
theorem sinks_end {R : List Int} {n i : Nat} {O : List Nat} (hO : Sorted R n i O) (hi : i < n) : ∀ (j : Nat) (M : List Nat), Sinks R n i O j M → ∃ O', Sorted R n (i + 1) O' := by
  intro j
  induction j with
  | zero => intro M h; exact ⟨M, h.done hO hi (fun y h1 _ => by omega)⟩
  | succ j ih =>
    intro M h
    obtain ⟨y, hy⟩ : ∃ y, M[j]? = some y := ⟨M[j]'(by have := h.len; have := h.hj; omega), by simp⟩
    by_cases hl : rv R y < rv R i
    · exact ih _ (h.step hi hy hl)
    · refine ⟨M, h.done hO hi (fun y' _ hy' => ?_)⟩
      rw [Nat.add_sub_cancel, hy] at hy'
      obtain rfl := Option.some.inj hy'
      exact hl
theorem sorted_all (R : List Int) (n : Nat) : ∀ i, i ≤ n → ∃ O, Sorted R n i O := by
  intro i
  induction i with
  | zero => intro _; exact ⟨_, Sorted.zero R n⟩
  | succ i ih =>
    intro h
    obtain ⟨O, hO⟩ := ih (by omega)
    exact sinks_end hO (by omega) i O (Sinks.start hO (by omega))
theorem sumF_set (l : List Int) (i : Nat) (v : Int) (hi : i < l.length) : ∀ k, sumF (l.set i v) k = sumF l k + if i < k then v - (l[i]?).getD 0 else 0 := by
  intro k
  induction k with
  | zero => simp [sumF]
  | succ k ih =>
    rw [sumF, sumF, ih]
    by_cases e : k = i
    · subst e
      rw [List.getElem?_set_self hi, if_neg (by omega), if_pos (by omega)]
      simp only [Option.getD_some]
      omega
    · rw [List.getElem?_set_ne (fun h => e h.symm)]
      by_cases h : i < k
      · rw [if_pos h, if_pos (by omega)]; omega
      · rw [if_neg h, if_neg (by omega)]; omega
/-- The sum of what is above 0. -/
def posF (R : List Int) : Nat → Int
  | 0 => 0
  | k + 1 => posF R k + max (rv R k) 0
theorem posF_set (l : List Int) (i : Nat) (v : Int) (hi : i < l.length) : ∀ k, posF (l.set i v) k = posF l k + if i < k then max v 0 - max (rv l i) 0 else 0 := by
  intro k
  induction k with
  | zero => simp [posF]
  | succ k ih =>
    rw [posF, posF, ih]
    by_cases e : k = i
    · subst e
      rw [show rv (l.set k v) k = v by unfold rv; rw [List.getElem?_set_self hi]; rfl, if_neg (by omega), if_pos (by omega)]
      omega
    · rw [show rv (l.set i v) k = rv l k by unfold rv; rw [List.getElem?_set_ne (fun h => e h.symm)]]
      by_cases h : i < k
      · rw [if_pos h, if_pos (by omega)]; omega
      · rw [if_neg h, if_neg (by omega)]; omega
theorem posF_sum (R : List Int) : ∀ k, (∀ i, i < k → 0 ≤ rv R i) → posF R k = sumF R k := by
  intro k
  induction k with
  | zero => intro _; rfl
  | succ k ih =>
    intro h
    have h1 := h k (by omega)
    rw [posF, sumF, ih (fun i hi => h i (by omega))]
    show _ + max (rv R k) 0 = _ + rv R k
    omega
theorem posF_zero (R : List Int) : ∀ k, (∀ i, i < k → rv R i ≤ 0) → posF R k = 0 := by
  intro k
  induction k with
  | zero => intro _; rfl
  | succ k ih =>
    intro h
    have h1 := h k (by omega)
    rw [posF, ih (fun i hi => h i (by omega))]
    omega
section
variable {R S : List Int} {n : Nat} {O : List Nat}
theorem give_get (h : Sorted R n n O) (hS : S.length = n) : ∀ j, j ≤ n → ∀ l, l < n → rv (giveO O S j) (og O l) = rv S (og O l) + if l < j then 1 else 0 := by
  intro j
  induction j with
  | zero => intro _ l _; simp [giveO]
  | succ j ih =>
    intro hj l hl
    rw [giveO]
    unfold rv
    by_cases e : l = j
    · subst e
      rw [List.getElem?_set_self (by rw [giveO_len, hS]; exact (og_lt h hl).1), if_pos (by omega)]
      have := ih (by omega) l hl
      rw [if_neg (by omega)] at this
      unfold rv at this
      rw [this]
      simp
    · rw [List.getElem?_set_ne (fun he => e (og_inj h hl (by omega) he.symm))]
      have := ih (by omega) l hl
      unfold rv at this
      rw [this]
      by_cases hlj : l < j
      · rw [if_pos hlj, if_pos (by omega)]
      · rw [if_neg hlj, if_neg (by omega)]
theorem give_sum (h : Sorted R n n O) (hS : S.length = n) : ∀ j, j ≤ n → sumF (giveO O S j) n = sumF S n + j := by
  intro j
  induction j with
  | zero => intro _; simp [giveO]
  | succ j ih =>
    intro hj
    have ho := (og_lt h (show j < n by omega)).1
    rw [giveO, sumF_set _ _ _ (by rw [giveO_len, hS]; exact ho), ih (by omega), if_pos ho]
    omega
theorem mark_pos (h : Sorted R n n O) (hR : R.length = n) (h0 : ∀ i, i < n → 0 ≤ rv R i) {all : Int} (h1 : ∀ i, i < n → rv R i ≤ all) : ∀ j : Nat, j ≤ n → posF R n - j * all ≤ posF (markO O R j) n := by
  intro j
  induction j with
  | zero => intro _; simp [markO]
  | succ j ih =>
    intro hj
    have ho := (og_lt h (show j < n by omega)).1
    have hv := mark_get h hR j (by omega) j (by omega)
    rw [if_neg (by omega)] at hv
    have a0 := h0 _ ho
    have a1 := h1 _ ho
    rw [markO, posF_set _ _ _ (by rw [markO_len, hR]; exact ho), if_pos ho, hv]
    have := ih (by omega)
    have e : ((j + 1 : Nat) : Int) * all = (j : Int) * all + all := by rw [Int.natCast_add, Int.add_mul]; simp
    rw [e]
    omega
/-- Who gets one more has a rest. -/
theorem rest_pos (h : Sorted R n n O) (hR : R.length = n) (h0 : ∀ i, i < n → 0 ≤ rv R i) {all left : Int} (ha : 0 < all) (h1 : ∀ i, i < n → rv R i ≤ all) (hs : sumF R n = left * all) {j : Nat} (hj : (j : Int) < left) (hn : j < n) : 0 < rv R (og O j) := by
  refine Int.not_le.1 fun hle => ?_
  have hp := mark_pos h hR h0 h1 j (by omega)
  rw [posF_sum R n h0, hs, ← Int.sub_mul] at hp
  have hm := og_lt h hn
  have hz : posF (markO O R j) n = 0 := posF_zero _ _ fun i hi => by
    obtain ⟨l, hl, e⟩ := h.all i hi
    have ei : og O l = i := by unfold og; rw [e]; rfl
    rw [← ei, mark_get h hR j (by omega) l hl]
    by_cases hlj : l < j
    · rw [if_pos hlj]; omega
    · rw [if_neg hlj]
      by_cases e2 : l = j
      · rw [e2]; exact hle
      · rcases h.ord j l _ _ (by omega) hl hm.2 (og_lt h hl).2 with h2 | ⟨h2, _⟩ <;> omega
  have : all * 1 ≤ all * (left - j) := Int.mul_le_mul_of_nonneg_left (by omega) (by omega)
  rw [Int.mul_comm all] at this
  rw [Int.mul_comm all] at this
  omega
end
/-- The shares, by who gets one more: U. -/
structure ShareLaw (bill all : Int) (days : List Int) (n : Nat) (S : List Int) (U : Nat → Bool) : Prop where
  val : ∀ i, i < n → rv S i = bill * rv days i / all + if U i then 1 else 0
  pos : ∀ i, i < n → U i = true → 0 < bill * rv days i % all
  tie : ∀ a b, a < n → b < n → U a = true → U b = false → bill * rv days b % all < bill * rv days a % all ∨ bill * rv days b % all = bill * rv days a % all ∧ a < b
  sum : sumF S n = bill
theorem sharesR_law {p : PayD} (hv : payB p = true) (hz : sumF p.days p.days.length ≠ 0) : ∃ U, ShareLaw p.bill (sumF p.days p.days.length) p.days p.days.length (sharesR p) U := by
  have hb := payB_people hv
  have hr := payB_rate hv
  have hs := sumF_bd (l := p.days) (fun k x h => payB_day hv h) p.days.length
  rw [sharesR, if_neg hz]
  have hl := left_bd (bill := p.bill) (days := p.days) (n := p.days.length) (all := sumF p.days p.days.length) (by omega) (by omega) rfl
  have hsm := left_sum (bill := p.bill) (days := p.days) (n := p.days.length) (all := sumF p.days p.days.length) (by omega) p.days.length (Nat.le_refl _)
  generalize hall : sumF p.days p.days.length = all at *
  generalize hn : p.days.length = n at *
  have ha : 0 < all := by omega
  have gR : ∀ i, i < n → rv (partF p.bill all p.days (· % ·) n n) i = p.bill * rv p.days i % all := fun i hi => by
    unfold rv; rw [partF_get (Nat.le_refl _) hi, if_pos hi]; rfl
  have gS : ∀ i, i < n → rv (partF p.bill all p.days (· / ·) n n) i = p.bill * rv p.days i / all := fun i hi => by
    unfold rv; rw [partF_get (Nat.le_refl _) hi, if_pos hi]; rfl
  have hRl : (partF p.bill all p.days (· % ·) n n).length = n := partF_len _ _ _ _ _ _
  have hSl : (partF p.bill all p.days (· / ·) n n).length = n := partF_len _ _ _ _ _ _
  have r0 : ∀ i, i < n → 0 ≤ rv (partF p.bill all p.days (· % ·) n n) i := fun i hi => by rw [gR i hi]; exact Int.emod_nonneg _ (by omega)
  have r1 : ∀ i, i < n → rv (partF p.bill all p.days (· % ·) n n) i ≤ all := fun i hi => by rw [gR i hi]; exact Int.le_of_lt (Int.emod_lt_of_pos _ ha)
  generalize partF p.bill all p.days (· % ·) n n = R at *
  generalize partF p.bill all p.days (· / ·) n n = S at *
  obtain ⟨O, hO⟩ := sorted_all R n n (Nat.le_refl _)
  obtain ⟨k, hk⟩ : ∃ k : Nat, p.bill - sumF S n = k := ⟨(p.bill - sumF S n).toNat, by omega⟩
  have hkn : k < n := by omega
  have hsr : sumF R n = (k : Int) * all := by
    have h1 := hsm.1
    have h2 : all * (p.bill - sumF S n) = all * k := by rw [hk]
    rw [Int.mul_sub, Int.mul_comm all p.bill] at h2
    rw [Int.mul_comm (k : Int)]
    omega
  rw [hk, Int.toNat_natCast]
  have hg := giveF_giveO hO hRl r0 S k 0 (by omega)
  rw [giveO, markO, Nat.zero_add] at hg
  rw [hg]
  have hpl : ∀ i, i < n → ∃ l, l < n ∧ og O l = i := fun i hi => by
    obtain ⟨l, hl, e⟩ := hO.all i hi
    exact ⟨l, hl, by unfold og; rw [e]; rfl⟩
  have hU : ∀ l, l < n → (decide (∃ m, m < k ∧ og O m = og O l) = decide (l < k)) := fun l hl => by
    by_cases h : l < k
    · have h2 : ∃ m, m < k ∧ og O m = og O l := ⟨l, h, rfl⟩
      rw [decide_eq_true h, decide_eq_true h2]
    · have h2 : ¬ ∃ m, m < k ∧ og O m = og O l := fun ⟨m, hm, e⟩ => h (by rw [← og_inj hO (by omega) hl e]; exact hm)
      rw [decide_eq_false h, decide_eq_false h2]
  refine ⟨fun i => decide (∃ m, m < k ∧ og O m = i), ?_, ?_, ?_, ?_⟩
  · intro i hi
    obtain ⟨l, hl, rfl⟩ := hpl i hi
    rw [give_get hO hSl k (by omega) l hl, gS _ hi, hU l hl]
    by_cases h : l < k <;> simp [h]
  · intro i hi hu
    obtain ⟨l, hl, rfl⟩ := hpl i hi
    rw [hU l hl, decide_eq_true_eq] at hu
    rw [← gR _ hi]
    exact rest_pos hO hRl r0 ha r1 hsr (by omega) hl
  · intro a b ha' hb' ua ub
    obtain ⟨l, hl, rfl⟩ := hpl a ha'
    obtain ⟨m, hm, rfl⟩ := hpl b hb'
    rw [hU l hl, decide_eq_true_eq] at ua
    rw [hU m hm, decide_eq_false_iff_not] at ub
    rw [← gR _ ha', ← gR _ hb']
    rcases hO.ord l m _ _ (by omega) hm (og_lt hO hl).2 (og_lt hO hm).2 with h | ⟨h, h2⟩
    · exact .inl h
    · exact .inr ⟨h.symm, h2⟩
  · rw [give_sum hO hSl k (by omega)]
    omega
theorem sharesR_none {p : PayD} (hz : sumF p.days p.days.length = 0) (i : Nat) : rv (sharesR p) i = 0 := by
  rw [sharesR, if_pos hz]
  unfold rv
  rw [List.getElem?_replicate]
  split <;> rfl
/-! What the law asks of a share. -/
theorem share_near {x all q r U : Int} (ha : 0 < all) (hq : q = x / all) (hr : r = x % all) (hU : U = 0 ∨ U = 1 ∧ 0 < r) : x - all < (q + U) * all ∧ (q + U) * all < x + all ∧ (x < (q + U) * all ↔ U = 1) := by
  have h1 := Int.mul_ediv_add_emod x all
  have h2 := Int.emod_nonneg x (b := all) (by omega)
  have h3 := Int.emod_lt_of_pos x ha
  rw [← hq, ← hr] at h1
  rw [← hr] at h2 h3
  rw [Int.add_mul, Int.mul_comm q]
  rcases hU with rfl | ⟨rfl, h4⟩
  · simp; omega
  · simp; omega
end Go.Proofs.YtlcolpnniipgbaaDoor
