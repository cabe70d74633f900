/- What the law RiverBears asks, in plain Lean: the days on which a river bears a boat, until when, and the last one. -/
import Derived.Test.YtiodmkokpfgkkaaPlainA
namespace Go.Proofs.Ytiodmkokpfgkkaa
theorem depthP_le {r : Riv} (ht : truthsA r ≠ []) (d : Nat) : (depthP r d).1 ≤ (depthP r d).2 := by
 have h := hullP_is (l := (truthsA r).map (·.at_ d)) (by simpa using ht)
 exact h.le _ h.hi
theorem bears_two (r : Riv) (n d : Nat) : (bearsP r n d == 2) = decide (n ≤ (depthP r d).1) := by
 unfold bearsP
 by_cases h : n ≤ (depthP r d).1
 ·simp [h]
 ·by_cases h2 : n ≤ (depthP r d).2
  ·simp [h, h2]
  ·simp [h, h2]
theorem bears_zero {r : Riv} (ht : truthsA r ≠ []) (n d : Nat) : (bearsP r n d != 0) = decide (n ≤ (depthP r d).2) := by
 have hle := depthP_le ht d
 unfold bearsP
 by_cases h : n ≤ (depthP r d).1
 ·have h2 : n ≤ (depthP r d).2 := by omega
  simp [h, h2]
 ·by_cases h2 : n ≤ (depthP r d).2
  ·simp [h, h2]
  ·simp [h, h2]
theorem setN_congr {f g : Nat → Bool} : ∀ n, (∀ i, i < n → f i = g i) → setN f n = setN g n
 | 0, _ => rfl
 | n + 1, h => by rw [setN, setN, setN_congr n (fun i hi => h i (by omega)), h n (by omega)]
theorem runN_congr {f g : Nat → Bool} : ∀ n, (∀ i, i < n → f i = g i) → runN f n = runN g n
 | 0, _ => rfl
 | n + 1, h => by rw [runN, runN, runN_congr n (fun i hi => h i (by omega)), h n (by omega)]
theorem lastN_congr {f g : Nat → Bool} : ∀ n, (∀ i, i < n → f i = g i) → lastN f n = lastN g n
 | 0, _ => rfl
 | n + 1, h => by rw [lastN, lastN, lastN_congr n (fun i hi => h i (by omega)), h n (by omega)]
theorem runN_leq (f : Nat → Bool) : ∀ n, runN f n ≤ n
 | 0 => Nat.le_refl _
 | n + 1 => by
  have := runN_leq f n
  rw [runN]; split <;> omega
theorem lastN_leq (f : Nat → Bool) : ∀ n, lastN f n ≤ n
 | 0 => Nat.le_refl _
 | n + 1 => by
  have := lastN_leq f n
  rw [lastN]; split <;> omega
theorem runN_mono {f g : Nat → Bool} (h : ∀ i, f i = true → g i = true) : ∀ n, runN f n ≤ runN g n
 | 0 => Nat.le_refl _
 | n + 1 => by
  have h1 := runN_mono h n
  have h2 := runN_leq g n
  have h3 := runN_leq f n
  rw [runN, runN]
  by_cases a : runN f n = n ∧ f n = true
  ·rw [if_pos a, if_pos ⟨by omega, h n a.2⟩]; omega
  ·rw [if_neg a]
   split <;> omega
theorem last_div (f : Nat → Bool) : ∀ n k, lastN f n = k + 1 → setN f n / 2 ^ k = 1
 | 0, k, h => by simp [lastN] at h
 | n + 1, k, h => by
  rw [lastN] at h
  rw [setN]
  by_cases a : f n = true
  ·rw [if_pos a] at h
   obtain rfl : n = k := by omega
   rw [if_pos a, Nat.add_div_right _ (Nat.two_pow_pos n), Nat.div_eq_of_lt (setN_lt f n)]
  ·rw [if_neg a] at h
   rw [if_neg a, Nat.add_zero]
   exact last_div f n k h
theorem last_zero (f : Nat → Bool) : ∀ n, setN f n = 0 ↔ lastN f n = 0
 | 0 => by simp [setN, lastN]
 | n + 1 => by
  rw [setN, lastN]
  by_cases a : f n = true
  ·rw [if_pos a, if_pos a]
   have := Nat.two_pow_pos n
   omega
  ·rw [if_neg a, if_neg a, Nat.add_zero]
   exact last_zero f n
theorem setN_all {f : Nat → Bool} (h : ∀ i, f i = true) : ∀ n, setN f n = 2 ^ n - 1
 | 0 => rfl
 | n + 1 => by
  have := Nat.two_pow_pos n
  rw [setN, setN_all h n, if_pos (h n), Nat.pow_succ]; omega
/-- The days of the first n on which the least depth, the greatest one, bears a boat. -/
def loB (r : Riv) (m d : Nat) : Bool := decide (m ≤ (depthP r d).1)
def hiB (r : Riv) (m d : Nat) : Bool := decide (m ≤ (depthP r d).2)
theorem surely_lo (r : Riv) (m : Nat) : surelyP r m = setN (loB r m) (r.days + 1) := setN_congr _ fun d _ => bears_two r m d
theorem perhaps_hi {r : Riv} (ht : truthsA r ≠ []) (m : Nat) : perhapsP r m = setN (hiB r m) (r.days + 1) := setN_congr _ fun d _ => bears_zero ht m d
theorem until_lo (r : Riv) (m : Nat) : untilP r m = runN (loB r m) (r.days + 1) := runN_congr _ fun d _ => bears_two r m d
theorem last_hi {r : Riv} (ht : truthsA r ≠ []) (m : Nat) : lastP r m = lastN (hiB r m) (r.days + 1) := lastN_congr _ fun d _ => bears_zero ht m d
theorem lo_less (r : Riv) {m k : Nat} (h : k ≤ m) (d : Nat) (hd : loB r m d = true) : loB r k d = true := by
 unfold loB at hd ⊢
 have := of_decide_eq_true hd
 exact decide_eq_true (by omega)
theorem hi_less (r : Riv) {m k : Nat} (h : k ≤ m) (d : Nat) (hd : hiB r m d = true) : hiB r k d = true := by
 unfold hiB at hd ⊢
 have := of_decide_eq_true hd
 exact decide_eq_true (by omega)
theorem setN_sub {f g : Nat → Bool} (h : ∀ i, f i = true → g i = true) (n j : Nat) (hj : (setN f n).testBit j = true) : (setN g n).testBit j = true := by
 rw [tb_setN, Bool.and_eq_true] at hj ⊢
 exact ⟨hj.1, h j hj.2⟩
end Go.Proofs.Ytiodmkokpfgkkaa
