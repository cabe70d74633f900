/- What the law RiverClash asks, in plain Lean: a river with some of its looks; the least set that clashes. -/
import Derived.Test.YtiodmkokpfgkkaaBearsP
namespace Go.Proofs.Ytiodmkokpfgkkaa
/-- Of the first n looks those of a set. -/
def subN (l : List ILk) (s : Nat) : Nat → List ILk
  | 0 => []
  | n + 1 => subN l s n ++ (if s.testBit n then (l[n]?).toList else [])
theorem mem_subN {l : List ILk} {s : Nat} {x : ILk} : ∀ {n : Nat}, x ∈ subN l s n ↔ ∃ k, k < n ∧ s.testBit k = true ∧ l[k]? = some x
  | 0 => by simp [subN]
  | n + 1 => by
    rw [subN, List.mem_append, mem_subN]
    constructor
    · rintro (⟨k, h1, h2, h3⟩ | h)
      · exact ⟨k, by omega, h2, h3⟩
      · split at h
        · rename_i hb
          exact ⟨n, by omega, hb, by simpa using h⟩
        · simp at h
    · rintro ⟨k, h1, h2, h3⟩
      by_cases e : k = n
      · subst e
        right
        rw [if_pos h2]; simp [h3]
      · exact .inl ⟨k, by omega, h2, h3⟩
theorem subN_len (l : List ILk) (s : Nat) : ∀ n, (subN l s n).length ≤ n
  | 0 => by simp [subN]
  | n + 1 => by
    have := subN_len l s n
    rw [subN, List.length_append]
    have h : (if s.testBit n then (l[n]?).toList else []).length ≤ 1 := by
      split
      · cases l[n]? <;> simp
      · simp
    omega
def subR (r : IRiv) (s : Nat) : IRiv := { r with lk := subN r.lk s r.lk.length }
theorem sub_ok {r : IRiv} (hv : okR r = true) (s : Nat) : okR (subR r s) = true := by
  unfold okR at hv ⊢
  rw [Bool.and_eq_true, Bool.and_eq_true] at hv ⊢
  obtain ⟨⟨h1, h2⟩, h3⟩ := hv
  refine ⟨⟨?_, h2⟩, ?_⟩
  · unfold headB at h1 ⊢
    simp only [Bool.and_eq_true, decide_eq_true_eq] at h1 ⊢
    obtain ⟨⟨⟨⟨a1, a2⟩, a3⟩, a4⟩, a5⟩ := h1
    refine ⟨⟨⟨⟨a1, a2⟩, a3⟩, a4⟩, ?_⟩
    have := subN_len r.lk s r.lk.length
    show (subN r.lk s r.lk.length).length ≤ 5
    omega
  · rw [List.all_eq_true] at h3 ⊢
    intro x hx
    obtain ⟨k, _, _, hk⟩ := mem_subN.1 (show x ∈ subN r.lk s r.lk.length from hx)
    exact h3 x (List.mem_of_getElem? hk)
/-- A truth is right by the looks of a set. -/
theorem rightP_looks {r : Riv} {s : Nat} {t : Tr} : rightP r s t = true ↔ ∀ k l, r.lk[k]? = some l → s.testBit k = true → inB (t.at_ l.day) l.dep.lo l.dep.hi = true := by
  unfold rightP
  rw [rightN_iff]
  constructor
  · intro h k l hk hb
    have h1 := h k (List.getElem?_eq_some_iff.1 hk).1
    unfold okP at h1
    rw [hk] at h1
    simpa [hb] using h1
  · intro h k hk
    have hk' : r.lk[k]? = some r.lk[k] := List.getElem?_eq_getElem hk
    unfold okP
    rw [hk']
    simp only
    cases hb : s.testBit k
    · rfl
    · rw [h k _ hk' hb]; rfl
theorem sub_truths (r : IRiv) (s : Nat) : truthsA (subR r s).nat = truthsP r.nat s := by
  unfold truthsA truthsP
  refine List.filter_congr fun t _ => ?_
  rw [Bool.eq_iff_iff, rightP_looks, rightP_looks]
  constructor
  · intro h k l hk hb
    have hk2 : r.nat.lk[k]? = some l := hk
    unfold IRiv.nat at hk2
    simp only [List.getElem?_map] at hk2
    obtain ⟨c, hc, rfl⟩ := Option.map_eq_some_iff.1 hk2
    have hm : c ∈ subN r.lk s r.lk.length := mem_subN.2 ⟨k, (List.getElem?_eq_some_iff.1 hc).1, hb, hc⟩
    have hm2 : c.nat ∈ (subR r s).nat.lk := List.mem_map.2 ⟨c, hm, rfl⟩
    obtain ⟨j, hj⟩ := List.getElem?_of_mem hm2
    have hj2 := (List.getElem?_eq_some_iff.1 hj).1
    exact h j _ hj (by rw [tb_full]; exact decide_eq_true hj2)
  · intro h k l hk _
    have hm : l ∈ (subR r s).nat.lk := List.mem_of_getElem? hk
    obtain ⟨c, hc, rfl⟩ := List.mem_map.1 (show l ∈ (subN r.lk s r.lk.length).map (·.nat) from hm)
    obtain ⟨j, _, hb, hj⟩ := mem_subN.1 hc
    refine h j _ ?_ hb
    unfold IRiv.nat
    simp only [List.getElem?_map, hj]
    rfl
theorem sub_clash (r : IRiv) (s : Nat) : (truthsA (subR r s).nat = []) ↔ clashB r.nat s = true := by
  rw [sub_truths]
  unfold clashB
  cases truthsP r.nat s <;> simp
/-- No looks do not clash. -/
theorem clash_zero {r : Riv} (hd : r.depth.lo ≤ r.depth.hi) (hf : r.fall.lo ≤ r.fall.hi) (hfr : ∀ f ∈ r.fr, f.days.lo ≤ f.days.hi ∧ f.rise.lo ≤ f.rise.hi) : clashB r 0 = false := by
  have hex : ∀ l : List NSp, (∀ s ∈ l, s.lo ≤ s.hi) → ∃ x, x ∈ listsP l := by
    intro l
    induction l with
    | nil => exact fun _ => ⟨[], by simp [listsP]⟩
    | cons s l ih =>
      intro h
      obtain ⟨x, hx⟩ := ih (fun s' hs => h s' (List.mem_cons_of_mem _ hs))
      have := h s (by simp)
      refine ⟨(s.lo + 0) :: x, ?_⟩
      rw [listsP, List.mem_flatMap]
      exact ⟨0, List.mem_range.2 (by omega), List.mem_map.2 ⟨x, hx, rfl⟩⟩
  obtain ⟨x, hx⟩ := hex (spansP r) (fun s hs => by
    unfold spansP at hs
    simp only [List.mem_cons, List.mem_append, List.mem_map] at hs
    rcases hs with rfl | rfl | ⟨f, hf', rfl⟩ | ⟨f, hf', rfl⟩
    · exact hd
    · exact hf
    · exact (hfr f hf').1
    · exact (hfr f hf').2)
  have hm : trOf r.fr.length x ∈ truthsP r 0 := by
    unfold truthsP
    rw [List.mem_filter]
    refine ⟨List.mem_map.2 ⟨x, hx, rfl⟩, rightP_looks.2 fun k l _ hb => by simp at hb⟩
  unfold clashB
  cases e : truthsP r 0 with
  | nil => rw [e] at hm; simp at hm
  | cons a l => rfl
/-- Sets of at most five looks. -/
theorem less_bit : ∀ c, c < 32 → ∀ i, i < 5 → c.testBit i = true → sizeP (dif c (2 ^ i)) < sizeP c := by decide +kernel
/-- What the least set is. -/
theorem clashP_is {r : Riv} {n : Nat} (hn : r.lk.length = n) (h5 : n ≤ 5) (h0 : clashB r 0 = false) (hc : clashB r (full n) = true) :
    1 ≤ clashP r ∧ clashP r ≤ full n ∧ clashB r (clashP r) = true ∧ (∀ u, u ≤ full n → clashB r u = true → sizeP (clashP r) < sizeP u ∨ (sizeP (clashP r) = sizeP u ∧ clashP r ≤ u)) ∧ ∀ i, i < n → (clashP r).testBit i = true → clashB r (dif (clashP r) (2 ^ i)) = false := by
  obtain ⟨_, _, _, _, b5⟩ := bySize_facts n (by omega)
  have hp : 0 < 2 ^ n := Nat.two_pow_pos n
  have hp2 : 2 ^ n ≤ 2 ^ 5 := Nat.pow_le_pow_right (by omega) h5
  have hk := clashN_is (r := r) (b := full n) (fun s hs => by unfold full at hs ⊢; exact b5 s (by omega)) hc (full n + 1) (Nat.le_refl _)
  have e : clashN r (full n) (full n + 1) = clashP r := by unfold clashP; rw [hn]
  rw [e] at hk
  obtain ⟨⟨k1, k2, _⟩, k3⟩ := hk
  have hfull : full n = 2 ^ n - 1 := rfl
  refine ⟨?_, k1, k2, fun u hu hcu => k3 u (by omega) hcu, fun i hi hb => ?_⟩
  · rcases Nat.eq_zero_or_pos (clashP r) with h | h
    · rw [h, h0] at k2; cases k2
    · exact h
  · cases hx : clashB r (dif (clashP r) (2 ^ i)) with
    | false => rfl
    | true =>
      have q1 := less_bit (clashP r) (by omega) i (by omega) hb
      have := k3 _ (by have := dif_le (clashP r) (2 ^ i); omega) hx
      omega
end Go.Proofs.Ytiodmkokpfgkkaa
