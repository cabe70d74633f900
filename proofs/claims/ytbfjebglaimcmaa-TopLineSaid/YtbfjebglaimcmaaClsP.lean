/- The classer's line, as plain Lean: costs, ways from both ends, what of a bale can be wrong. Conditions: what the statements say. -/
namespace Go.Proofs.Ytbfjebglaimcmaa
/-- A bale: its fleeces, those looked at, those found wrong. -/
structure Bl where
  f : Nat
  l : Nat
  w : Nat
/-- A line: its bales, how many may be wrong, how far a hand drifts, how many mistakes. -/
structure Cls where
  bl : List Bl
  may : Nat
  drift : Nat
  mis : Nat
def farC : Nat := 65536
/-- The costs of a bale by itself. -/
def ownC (b : Bl) (taken : Bool) (n : Nat) : Nat :=
  if b.f < n then farC else if taken then max ((n - (b.f - b.l)) - b.w) (b.w - min n b.l) else 0
def plusC (c o : Nat → Nat) (n : Nat) : Nat := min farC (c n + o n)
/-- The least from i on, of the next k. -/
def leastR (c : Nat → Nat) (i : Nat) : Nat → Nat
  | 0 => c i
  | k + 1 => min (leastR c i k) (c (i + k + 1))
def leastC (c : Nat → Nat) : Nat := leastR c 0 30
def driftC (d : Nat) (c : Nat → Nat) (i : Nat) : Nat := leastR c (i - d) (min 30 (i + d) - (i - d))
/-- The costs of the first bales, by the last of them; and from the other end (of the list turned round). -/
def toC (d : Nat) (tk : Nat → Bool) : List (Nat × Bl) → Nat → Nat
  | [] => fun _ => 0
  | [(k, b)] => ownC b (tk k)
  | (k, b) :: rest => plusC (driftC d (toC d tk rest)) (ownC b (tk k))
/-- The bales up to one, the nearest first; those behind it, the nearest first. -/
def frontL (c : Cls) (n : Nat) : List (Nat × Bl) := ((c.bl.take (n + 1)).zipIdx.map fun p => (p.2, p.1)).reverse
def backL (c : Cls) (n : Nat) : List (Nat × Bl) := (c.bl.zipIdx.map fun p => (p.2, p.1)).drop n
def throughC (c : Cls) (tk : Nat → Bool) (n : Nat) (b : Bl) (i : Nat) : Nat :=
  if farC ≤ toC c.drift tk (frontL c n) i ∨ farC ≤ toC c.drift tk (backL c n) i then farC else toC c.drift tk (frontL c n) i + toC c.drift tk (backL c n) i - ownC b (tk n) i
def mistakenC (c : Cls) (tk : Nat → Bool) : Nat := leastC (toC c.drift tk (frontL c (c.bl.length - 1)))
/-- The least and the most of what suits, among 0 .. k - 1. -/
def spanC (p : Nat → Bool) : Nat → Nat × Nat
  | 0 => (30, 0)
  | k + 1 => if p k then (min (spanC p k).1 k, max (spanC p k).2 k) else spanC p k
def wrongC (c : Cls) (n : Nat) (b : Bl) : Nat × Nat := spanC (fun i => decide (throughC c (fun _ => true) n b i ≤ c.mis)) 31
def toldC (may : Nat) (s : Nat × Nat) : Nat := if s.2 ≤ may then 2 else if s.1 ≤ may then 1 else 0
theorem leastR_le (c : Nat → Nat) (i : Nat) : ∀ k j, j ≤ k → leastR c i k ≤ c (i + j)
  | 0, j, h => by obtain rfl : j = 0 := by omega
                  exact Nat.le_refl _
  | k + 1, j, h => by
    rw [leastR]
    by_cases e : j = k + 1
    · subst e; exact Nat.min_le_right _ _
    · exact Nat.le_trans (Nat.min_le_left _ _) (leastR_le c i k j (by omega))
theorem leastC_zero {c : Nat → Nat} {j : Nat} (h : c j = 0) (hj : j ≤ 30) : leastC c = 0 := by
  have := leastR_le c 0 30 j hj
  rw [Nat.zero_add, h] at this
  unfold leastC
  omega
theorem driftC_all {d : Nat} (c : Nat → Nat) {i : Nat} (hd : 30 ≤ d) (hi : i ≤ 30) : driftC d c i = leastC c := by
  unfold driftC leastC
  rw [show i - d = 0 by omega, show min 30 (i + d) = 30 by omega]
theorem ownC_far (b : Bl) (t : Bool) (n : Nat) (h1 : b.w ≤ b.l) (h2 : b.l ≤ b.f) (h3 : b.f ≤ 30) : ownC b t n ≤ farC := by
  unfold ownC farC
  split
  · exact Nat.le_refl _
  · split
    · rename_i h _
      omega
    · omega
/-- A bale is valid. -/
def BlOk (b : Bl) : Prop := 1 ≤ b.f ∧ b.f ≤ 30 ∧ b.l ≤ b.f ∧ b.w ≤ b.l
/-- What of a bale can be, by itself. -/
theorem ownC_zero {b : Bl} {n : Nat} : ownC b true n = 0 ↔ n ≤ b.f ∧ n - (b.f - b.l) ≤ b.w ∧ b.w ≤ min n b.l := by
  unfold ownC farC
  split
  · constructor
    · intro h; omega
    · intro h; omega
  · rw [if_pos rfl]; omega
/-- Where hands drift as far as can be, and each bale can be as it is, bales are alone. -/
theorem toC_alone {d : Nat} (hd : 30 ≤ d) : ∀ (l : List (Nat × Bl)) (k : Nat) (b : Bl), (∀ p ∈ (k, b) :: l, BlOk p.2 ∧ ∃ j, j ≤ 30 ∧ ownC p.2 true j = 0) → ∀ i, i ≤ 30 → toC d (fun _ => true) ((k, b) :: l) i = ownC b true i
  | [], k, b, _, i, _ => rfl
  | (k2, b2) :: l, k, b, h, i, hi => by
    have ih := toC_alone hd l k2 b2 (fun p hp => h p (by simp [List.mem_cons] at hp ⊢; exact .inr hp))
    obtain ⟨hb, -⟩ := h (k, b) (by simp)
    obtain ⟨-, j, hj, hz⟩ := h (k2, b2) (by simp)
    have h0 : driftC d (toC d (fun _ => true) ((k2, b2) :: l)) i = 0 := by
      rw [driftC_all _ hd hi]
      exact leastC_zero (j := j) (by rw [ih j hj]; exact hz) hj
    show plusC (driftC d (toC d (fun _ => true) ((k2, b2) :: l))) (ownC b true) i = _
    unfold plusC
    rw [h0, Nat.zero_add]
    exact Nat.min_eq_right (ownC_far b true i hb.2.2.2 hb.2.2.1 hb.2.1)
theorem spanC_in {p : Nat → Bool} : ∀ k j, j < k → p j = true → (spanC p k).1 ≤ j ∧ j ≤ (spanC p k).2
  | 0, j, h, _ => by omega
  | k + 1, j, h, hp => by
    rw [spanC]
    by_cases e : j = k
    · subst e
      rw [if_pos hp]
      exact ⟨Nat.min_le_right _ _, Nat.le_max_right _ _⟩
    · obtain ⟨h1, h2⟩ := spanC_in k j (by omega) hp
      split
      · exact ⟨Nat.le_trans (Nat.min_le_left _ _) h1, Nat.le_trans h2 (Nat.le_max_left _ _)⟩
      · exact ⟨h1, h2⟩
theorem spanC_one {p : Nat → Bool} {j : Nat} (h : ∀ i, p i = true ↔ i = j) : ∀ k, j < k → k ≤ 31 → spanC p k = (j, j)
  | 0, hk, _ => by omega
  | k + 1, hk, hl => by
    rw [spanC]
    by_cases e : j = k
    · subst e
      rw [if_pos ((h j).2 rfl)]
      have none : ∀ m, m ≤ j → spanC p m = (30, 0) := by
        intro m
        induction m with
        | zero => intro _; rfl
        | succ m ih =>
          intro hm
          rw [spanC, if_neg (fun hp => by have := (h m).1 hp; omega)]
          exact ih (by omega)
      rw [none j (Nat.le_refl _)]
      simp only [Prod.mk.injEq]
      omega
    · rw [if_neg (fun hp => e ((h k).1 hp).symm)]
      exact spanC_one h k (by omega) (by omega)
theorem spanC_congr {p q : Nat → Bool} : ∀ k, (∀ i, i < k → p i = q i) → spanC p k = spanC q k
  | 0, _ => rfl
  | k + 1, h => by
    rw [spanC, spanC, h k (by omega), spanC_congr k (fun i hi => h i (by omega))]
theorem frontL_at {c : Cls} {n : Nat} {b : Bl} (h : c.bl[n]? = some b) : ∃ l, frontL c n = (n, b) :: l ∧ ∀ p ∈ l, p.2 ∈ c.bl := by
  have hn := (List.getElem?_eq_some_iff.1 h).1
  have e : c.bl.take (n + 1) = c.bl.take n ++ [b] := by rw [List.take_add_one, h]; rfl
  refine ⟨((c.bl.take n).zipIdx.map fun p => (p.2, p.1)).reverse, ?_, fun p hp => ?_⟩
  · unfold frontL
    rw [e, List.zipIdx_append, List.map_append, List.reverse_append]
    simp [List.length_take, Nat.min_eq_left (Nat.le_of_lt hn)]
  · rw [List.mem_reverse, List.mem_map] at hp
    obtain ⟨q, hq, rfl⟩ := hp
    exact List.mem_of_mem_take (List.fst_mem_of_mem_zipIdx hq)
theorem backL_at {c : Cls} {n : Nat} {b : Bl} (h : c.bl[n]? = some b) : ∃ l, backL c n = (n, b) :: l ∧ ∀ p ∈ l, p.2 ∈ c.bl := by
  have hn := (List.getElem?_eq_some_iff.1 h).1
  have hz : (c.bl.zipIdx.map fun p => (p.2, p.1))[n]? = some (n, b) := by simp [h]
  obtain ⟨h1, h2⟩ := List.getElem?_eq_some_iff.1 hz
  refine ⟨(c.bl.zipIdx.map fun p => (p.2, p.1)).drop (n + 1), ?_, fun p hp => ?_⟩
  · unfold backL
    rw [List.drop_eq_getElem_cons h1, h2]
  · have hp2 := List.mem_of_mem_drop hp
    rw [List.mem_map] at hp2
    obtain ⟨q, hq, rfl⟩ := hp2
    exact List.fst_mem_of_mem_zipIdx hq
/-- Bales that are alone: drift as far as can be, no mistakes, each can be as it is. -/
structure Alone (c : Cls) : Prop where
  dr : 30 ≤ c.drift
  mi : c.mis = 0
  ok : ∀ b ∈ c.bl, BlOk b ∧ ∃ j, j ≤ 30 ∧ ownC b true j = 0
theorem through_alone {c : Cls} (h : Alone c) {n : Nat} {b : Bl} (hb : c.bl[n]? = some b) {i : Nat} (hi : i ≤ 30) : throughC c (fun _ => true) n b i = ownC b true i := by
  have hm := List.mem_of_getElem? hb
  obtain ⟨lf, ef, mf⟩ := frontL_at hb
  obtain ⟨lb, eb, mb⟩ := backL_at hb
  have af := toC_alone h.dr lf n b (fun p hp => h.ok p.2 (by rcases List.mem_cons.1 hp with rfl | hp; exact hm; exact mf p hp)) i hi
  have ab := toC_alone h.dr lb n b (fun p hp => h.ok p.2 (by rcases List.mem_cons.1 hp with rfl | hp; exact hm; exact mb p hp)) i hi
  have hk := (h.ok b hm).1
  have hf := ownC_far b true i hk.2.2.2 hk.2.2.1 hk.2.1
  unfold throughC
  rw [ef, eb, af, ab]
  show (if farC ≤ ownC b true i ∨ farC ≤ ownC b true i then farC else ownC b true i + ownC b true i - ownC b true i) = _
  split <;> omega
theorem can_alone {c : Cls} (h : Alone c) (hl : 0 < c.bl.length) : mistakenC c (fun _ => true) = 0 := by
  obtain ⟨b, hb⟩ : ∃ b, c.bl[c.bl.length - 1]? = some b := ⟨_, List.getElem?_eq_getElem (by omega)⟩
  have hm := List.mem_of_getElem? hb
  obtain ⟨lf, ef, mf⟩ := frontL_at hb
  obtain ⟨-, j, hj, hz⟩ := h.ok b hm
  unfold mistakenC
  rw [ef]
  exact leastC_zero (j := j) (by rw [toC_alone h.dr lf _ b (fun p hp => h.ok p.2 (by rcases List.mem_cons.1 hp with rfl | hp; exact hm; exact mf p hp)) j hj]; exact hz) hj
theorem wrong_alone {c : Cls} (h : Alone c) {n : Nat} {b : Bl} (hb : c.bl[n]? = some b) : wrongC c n b = spanC (fun i => decide (ownC b true i = 0)) 31 := by
  unfold wrongC
  refine spanC_congr 31 (fun i hi => ?_)
  rw [through_alone h hb (by omega), h.mi]
  exact decide_eq_decide.2 Nat.le_zero
/-- What truly is wrong is within what is told. -/
theorem wrong_in {c : Cls} (h : Alone c) {n k : Nat} {b : Bl} (hb : c.bl[n]? = some b) (hk : ownC b true k = 0) (hk3 : k ≤ 30) : (wrongC c n b).1 ≤ k ∧ k ≤ (wrongC c n b).2 := by
  rw [wrong_alone h hb]
  exact spanC_in 31 k (by omega) (decide_eq_true hk)
theorem wrong_just {c : Cls} (h : Alone c) {n k : Nat} {b : Bl} (hb : c.bl[n]? = some b) (hk : ∀ i, ownC b true i = 0 ↔ i = k) (hk3 : k ≤ 30) : wrongC c n b = (k, k) := by
  rw [wrong_alone h hb]
  exact spanC_one (fun i => by rw [decide_eq_true_eq]; exact hk i) 31 (by omega) (Nat.le_refl _)
/-! All bales. -/
def joinO : Option (Nat × Nat) → Option (Nat × Nat) → Option (Nat × Nat)
  | none, b => b
  | a, none => a
  | some a, some b => some (min a.1 b.1, max a.2 b.2)
def foldO (f : Nat → Option (Nat × Nat)) : Nat → Option (Nat × Nat)
  | 0 => none
  | k + 1 => joinO (foldO f k) (f k)
/-- By how many of the last bale are wrong, and just how many mistakes there are: how many of all (the nearest bale first). -/
def totC (d : Nat) : List Bl → Nat → Nat → Option (Nat × Nat)
  | [], v, m => if v = 0 ∧ m = 0 then some (0, 0) else none
  | b :: rest, w, m => if m < ownC b true w then none else foldO (fun v => if rest = [] ∨ (v ≤ w + d ∧ w ≤ v + d) then (totC d rest v (m - ownC b true w)).map (fun s => (s.1 + w, s.2 + w)) else none) 31
def allC (c : Cls) : Option (Nat × Nat) := foldO (fun w => foldO (fun m => totC c.drift c.bl.reverse w m) (c.mis + 1)) 31
theorem foldO_in {f : Nat → Option (Nat × Nat)} {x : Nat} : ∀ k j, j < k → (∃ s, f j = some s ∧ s.1 ≤ x ∧ x ≤ s.2) → ∃ s, foldO f k = some s ∧ s.1 ≤ x ∧ x ≤ s.2
  | 0, j, h, _ => by omega
  | k + 1, j, h, hs => by
    rw [foldO]
    by_cases e : j = k
    · subst e
      obtain ⟨s, e1, h1, h2⟩ := hs
      rw [e1]
      cases hf : foldO f j with
      | none => exact ⟨s, rfl, h1, h2⟩
      | some t => exact ⟨_, rfl, Nat.le_trans (Nat.min_le_right _ _) h1, Nat.le_trans h2 (Nat.le_max_right _ _)⟩
    · obtain ⟨t, e1, h1, h2⟩ := foldO_in k j (by omega) hs
      rw [e1]
      cases hf : f k with
      | none => exact ⟨t, rfl, h1, h2⟩
      | some s => exact ⟨_, rfl, Nat.le_trans (Nat.min_le_left _ _) h1, Nat.le_trans h2 (Nat.le_max_left _ _)⟩
theorem foldO_just {f : Nat → Option (Nat × Nat)} {x : Nat} : ∀ k, (∀ j s, j < k → f j = some s → s = (x, x)) → ∀ s, foldO f k = some s → s = (x, x)
  | 0, _, s, h => by cases h
  | k + 1, hf, s, h => by
    rw [foldO] at h
    have ih := foldO_just k (fun j s hj => hf j s (by omega))
    cases h1 : foldO f k with
    | none =>
      rw [h1] at h
      exact hf k s (by omega) h
    | some t =>
      obtain rfl := ih t h1
      rw [h1] at h
      cases h2 : f k with
      | none => rw [h2] at h; cases h; rfl
      | some u =>
        obtain rfl := hf k u (by omega) h2
        rw [h2] at h
        cases h
        simp
theorem tot_in {d : Nat} (hd : 30 ≤ d) : ∀ (bs : List Bl) (ks : List Nat) (b : Bl) (k : Nat), ks.length = bs.length → k ≤ 30 → ownC b true k = 0 → (∀ (i : Nat) (b' : Bl) (k' : Nat), bs[i]? = some b' → ks[i]? = some k' → k' ≤ 30 ∧ ownC b' true k' = 0) →
    ∃ s, totC d (b :: bs) k 0 = some s ∧ s.1 ≤ k + ks.sum ∧ k + ks.sum ≤ s.2
  | [], ks, b, k, hl, hk, hz, _ => by
    obtain rfl : ks = [] := List.eq_nil_of_length_eq_zero hl
    rw [totC, hz, if_neg (by omega)]
    exact foldO_in 31 0 (by omega) ⟨(k, k), by simp [totC], by simp, by simp⟩
  | b2 :: bs, ks, b, k, hl, hk, hz, h => by
    match ks, hl with
    | k2 :: ks, hl =>
      obtain ⟨h1, h2⟩ := h 0 b2 k2 rfl rfl
      obtain ⟨s, e, s1, s2⟩ := tot_in hd bs ks b2 k2 (by simpa using hl) h1 h2 (fun i b' k' hb hk => h (i + 1) b' k' (by simpa using hb) (by simpa using hk))
      rw [totC, hz, if_neg (by omega)]
      refine foldO_in 31 k2 (by omega) ⟨(s.1 + k, s.2 + k), ?_, by simp; omega, by simp; omega⟩
      rw [if_pos (.inr ⟨by omega, by omega⟩), Nat.sub_zero, e]
      rfl
theorem tot_just {d : Nat} : ∀ (bs : List Bl) (ks : List Nat), ks.length = bs.length → (∀ (i : Nat) (b' : Bl) (k' : Nat), bs[i]? = some b' → ks[i]? = some k' → ∀ j, ownC b' true j = 0 → j = k') → ∀ w s, totC d bs w 0 = some s → s = (ks.sum, ks.sum)
  | [], ks, hl, _, w, s, h => by
    obtain rfl : ks = [] := List.eq_nil_of_length_eq_zero hl
    rw [totC] at h
    split at h
    · cases h; rfl
    · cases h
  | b :: bs, ks, hl, hu, w, s, h => by
    match ks, hl with
    | k :: ks, hl =>
      rw [totC] at h
      split at h
      · cases h
      · rename_i h0
        have hz : ownC b true w = 0 := by omega
        obtain rfl := hu 0 b k rfl rfl w hz
        refine foldO_just 31 (fun j t _ ht => ?_) s h
        split at ht
        · rw [hz, Nat.sub_zero] at ht
          cases hq : totC d bs j 0 with
          | none => rw [hq] at ht; cases ht
          | some q =>
            obtain rfl := tot_just bs ks (by simpa using hl) (fun i b' k' hb hk => hu (i + 1) b' k' (by simpa using hb) (by simpa using hk)) j q hq
            rw [hq] at ht
            cases ht
            simp [Nat.add_comm]
        · cases ht
theorem rev_at {α : Type} {l : List α} {i : Nat} {x : α} (h : l.reverse[i]? = some x) : i < l.length ∧ l[l.length - 1 - i]? = some x := by
  have hi : i < l.length := by have := (List.getElem?_eq_some_iff.1 h).1; simpa using this
  rw [List.getElem?_reverse hi] at h
  exact ⟨hi, h⟩
/-- Of all bales what truly is wrong is within what is told. -/
theorem all_in {c : Cls} (h : Alone c) (hl : 0 < c.bl.length) {ks : List Nat} (hk : ks.length = c.bl.length) (hz : ∀ (i : Nat) (b : Bl) (k : Nat), c.bl[i]? = some b → ks[i]? = some k → k ≤ 30 ∧ ownC b true k = 0) : ∃ s, allC c = some s ∧ s.1 ≤ ks.sum ∧ ks.sum ≤ s.2 := by
  obtain ⟨b, bs, eb⟩ : ∃ b bs, c.bl.reverse = b :: bs := by
    cases e : c.bl.reverse with
    | nil => rw [List.reverse_eq_nil_iff] at e; rw [e] at hl; simp at hl
    | cons b bs => exact ⟨b, bs, rfl⟩
  obtain ⟨k, kr, ek⟩ : ∃ k kr, ks.reverse = k :: kr := by
    cases e : ks.reverse with
    | nil => rw [List.reverse_eq_nil_iff] at e; rw [e] at hk; simp at hk; omega
    | cons b bs => exact ⟨b, bs, rfl⟩
  have key : ∀ (i : Nat) (b' : Bl) (k' : Nat), (b :: bs)[i]? = some b' → (k :: kr)[i]? = some k' → k' ≤ 30 ∧ ownC b' true k' = 0 := fun i b' k' h1 h2 => by
    rw [← eb] at h1
    rw [← ek] at h2
    obtain ⟨-, g1⟩ := rev_at h1
    obtain ⟨-, g2⟩ := rev_at h2
    rw [hk] at g2
    exact hz _ _ _ g1 g2
  have hlen : kr.length = bs.length := by
    have e1 := congrArg List.length eb
    have e2 := congrArg List.length ek
    simp at e1 e2
    omega
  have hsum : ks.sum = k + kr.sum := by rw [← List.sum_reverse, ek, List.sum_cons]
  obtain ⟨h1, h2⟩ := key 0 b k rfl rfl
  obtain ⟨s, e, s1, s2⟩ := tot_in h.dr bs kr b k hlen h1 h2 (fun i b' k' hb hk => key (i + 1) b' k' (by simpa using hb) (by simpa using hk))
  unfold allC
  rw [eb, h.mi]
  refine foldO_in 31 k (by omega) (foldO_in 1 0 (by omega) ⟨s, e, by omega, by omega⟩)
theorem all_just {c : Cls} (h : Alone c) (hl : 0 < c.bl.length) {ks : List Nat} (hk : ks.length = c.bl.length) (hz : ∀ (i : Nat) (b : Bl) (k : Nat), c.bl[i]? = some b → ks[i]? = some k → k ≤ 30 ∧ ∀ j, ownC b true j = 0 ↔ j = k) : allC c = some (ks.sum, ks.sum) := by
  obtain ⟨s, e, -, -⟩ := all_in h hl hk (fun i b k hb hk => ⟨(hz i b k hb hk).1, ((hz i b k hb hk).2 k).2 rfl⟩)
  rw [e]
  congr 1
  unfold allC at e
  rw [h.mi] at e
  refine foldO_just 31 (fun w t _ ht => foldO_just 1 (fun m u hm hu => ?_) t ht) s e
  obtain rfl : m = 0 := by omega
  have := tot_just c.bl.reverse ks.reverse (by simp [hk]) (fun i b k h1 h2 j hj => by
    obtain ⟨-, g1⟩ := rev_at h1
    obtain ⟨-, g2⟩ := rev_at h2
    rw [hk] at g2
    exact ((hz _ _ _ g1 g2).2 j).1 hj) w u hu
  rw [List.sum_reverse] at this
  exact this
/-! Is the line kept? -/
def overC (may : Nat) (c : Nat → Nat) (i : Nat) : Nat := if may < i then farC else c i
def keepsL (d may : Nat) : List Bl → Nat → Nat
  | [] => fun _ => 0
  | [b] => overC may (ownC b true)
  | b :: rest => overC may (plusC (driftC d (keepsL d may rest)) (ownC b true))
def keepsC (c : Cls) : Bool := decide (leastC (keepsL c.drift c.may c.bl.reverse) ≤ c.mis)
theorem leastR_pos {c : Nat → Nat} {i : Nat} : ∀ k, (∀ j, j ≤ k → 0 < c (i + j)) → 0 < leastR c i k
  | 0, h => h 0 (Nat.le_refl _)
  | k + 1, h => by
    rw [leastR]
    have h1 := leastR_pos k (fun j hj => h j (by omega))
    have h2 := h (k + 1) (Nat.le_refl _)
    rw [← Nat.add_assoc] at h2
    omega
theorem keepsL_pos {d may : Nat} : ∀ (bs : List Bl), (∃ b ∈ bs, ∀ i, ownC b true i = 0 → may < i) → ∀ i, i ≤ 30 → 0 < keepsL d may bs i
  | [], h, _, _ => by obtain ⟨b, hb, -⟩ := h; cases hb
  | [b], h, i, hi => by
    obtain ⟨b', hb, h⟩ := h
    obtain rfl : b' = b := by simpa using hb
    show 0 < overC may (ownC b' true) i
    unfold overC farC
    split
    · omega
    · have := h i; omega
  | b :: b2 :: bs, h, i, hi => by
    show 0 < overC may (plusC (driftC d (keepsL d may (b2 :: bs))) (ownC b true)) i
    unfold overC plusC farC
    split
    · omega
    · rename_i hm
      obtain ⟨b', hb, h⟩ := h
      rcases List.mem_cons.1 hb with rfl | hb
      · have := h i
        omega
      · have ih := keepsL_pos (d := d) (b2 :: bs) ⟨b', hb, h⟩
        have hd : 0 < driftC d (keepsL d may (b2 :: bs)) i := leastR_pos _ (fun j hj => ih _ (by omega))
        omega
/-- A bale of which more must be wrong than may be: the line is not kept. -/
theorem keeps_not {c : Cls} (hm : c.mis = 0) {b : Bl} (hb : b ∈ c.bl) (h : ∀ i, ownC b true i = 0 → c.may < i) : keepsC c = false := by
  unfold keepsC leastC
  have h1 := leastR_pos (c := keepsL c.drift c.may c.bl.reverse) (i := 0) 30 (fun j hj => keepsL_pos _ ⟨b, by simpa using hb, h⟩ (0 + j) (by omega))
  exact decide_eq_false (by omega)
/-- A bale of which all were looked at. -/
theorem own_just {n k : Nat} (hk : k ≤ n) (j : Nat) : ownC ⟨n, n, k⟩ true j = 0 ↔ j = k := by
  rw [ownC_zero]
  simp only
  omega
/-- A bale of which some were looked at, and rightly. -/
theorem own_seen {n l w k : Nat} (hk : k ≤ n) (h1 : k - (n - l) ≤ w) (h2 : w ≤ min l k) : ownC ⟨n, l, w⟩ true k = 0 := by
  rw [ownC_zero]
  simp only
  omega
/-! The line's verdict, the bale that proves it. -/
def toldsC (c : Cls) : List Nat := c.bl.zipIdx.map fun p => toldC c.may (wrongC c p.2 p.1)
def lineC (c : Cls) : Nat := if (toldsC c).foldl min 2 = 2 then 2 else if keepsC c then 1 else 0
def proofC (c : Cls) : Option Nat := (toldsC c).findIdx? (fun t => t == 0)
theorem foldl_min : ∀ (l : List Nat) (a : Nat), l.foldl min a = a ↔ ∀ x ∈ l, a ≤ x
  | [], a => by simp
  | y :: l, a => by
    rw [List.foldl_cons]
    have ih := foldl_min l
    constructor
    · intro h
      have hle : ∀ (l : List Nat) (a : Nat), l.foldl min a ≤ a := by
        intro l
        induction l with
        | nil => intro a; exact Nat.le_refl _
        | cons z l ih => intro a; exact Nat.le_trans (ih _) (Nat.min_le_left _ _)
      have h1 := hle l (min a y)
      have h2 : min a y = a := by omega
      rw [h2] at h
      have h3 := (ih a).1 h
      intro x hx
      rcases List.mem_cons.1 hx with rfl | hx
      · omega
      · exact h3 x hx
    · intro h
      have h2 : min a y = a := Nat.min_eq_left (h y (by simp))
      rw [h2]
      exact (ih a).2 (fun x hx => h x (by simp [hx]))
/-- Bales of which all were looked at, rightly: just so many are wrong. -/
def Just (c : Cls) (ks : List Nat) : Prop := ks.length = c.bl.length ∧ ∀ (i : Nat) (b : Bl) (k : Nat), c.bl[i]? = some b → ks[i]? = some k → k ≤ 30 ∧ ∀ j, ownC b true j = 0 ↔ j = k
theorem tolds_just {c : Cls} {ks : List Nat} (h : Alone c) (hj : Just c ks) : toldsC c = ks.map fun k => if k ≤ c.may then 2 else 0 := by
  refine List.ext_getElem? fun i => ?_
  unfold toldsC
  rw [List.getElem?_map, List.getElem?_map, List.getElem?_zipIdx]
  cases hb : c.bl[i]? with
  | none =>
    have h1 : c.bl.length ≤ i := List.getElem?_eq_none_iff.1 hb
    rw [List.getElem?_eq_none (by rw [hj.1]; exact h1)]
    rfl
  | some b =>
    have hi := (List.getElem?_eq_some_iff.1 hb).1
    obtain ⟨k, hk⟩ : ∃ k, ks[i]? = some k := ⟨_, List.getElem?_eq_getElem (by rw [hj.1]; exact hi)⟩
    obtain ⟨h1, h2⟩ := hj.2 i b k hb hk
    rw [hk]
    show some (toldC c.may (wrongC c (0 + i) b)) = some _
    rw [Nat.zero_add, wrong_just h hb h2 h1]
    unfold toldC
    simp only
    split <;> rfl
theorem line_just {c : Cls} {ks : List Nat} (h : Alone c) (hj : Just c ks) : lineC c = if ks.all (fun k => decide (k ≤ c.may)) then 2 else 0 := by
  unfold lineC
  rw [tolds_just h hj]
  by_cases hall : ∀ k ∈ ks, k ≤ c.may
  · rw [if_pos ((foldl_min _ _).2 (fun x hx => by obtain ⟨k, hk, rfl⟩ := List.mem_map.1 hx; rw [if_pos (hall k hk)]; exact Nat.le_refl _)), if_pos (List.all_eq_true.2 (fun k hk => decide_eq_true (hall k hk)))]
  · obtain ⟨k, hk, hm⟩ : ∃ k, k ∈ ks ∧ ¬ k ≤ c.may := by
      refine Classical.byContradiction fun hn => hall fun k hk => Classical.byContradiction fun h2 => hn ⟨k, hk, h2⟩
    obtain ⟨i, hi⟩ := List.getElem?_of_mem hk
    have hib : i < c.bl.length := by rw [← hj.1]; exact (List.getElem?_eq_some_iff.1 hi).1
    obtain ⟨b, hb⟩ : ∃ b, c.bl[i]? = some b := ⟨_, List.getElem?_eq_getElem hib⟩
    have hkn := keeps_not h.mi (List.mem_of_getElem? hb) (fun j hz => by
      have := ((hj.2 i b k hb hi).2 j).1 hz
      omega)
    rw [if_neg (fun e => by
      have := (foldl_min _ _).1 e (if k ≤ c.may then 2 else 0) (List.mem_map.2 ⟨k, hk, rfl⟩)
      rw [if_neg hm] at this
      omega), hkn, if_neg (by decide), if_neg (fun e => hm (of_decide_eq_true (List.all_eq_true.1 e k hk)))]
theorem proof_just {c : Cls} {ks : List Nat} (h : Alone c) (hj : Just c ks) : proofC c = ks.findIdx? (fun k => decide (c.may < k)) := by
  unfold proofC
  rw [tolds_just h hj, List.findIdx?_map]
  congr 1
  funext k
  show ((if k ≤ c.may then 2 else 0) == 0) = decide (c.may < k)
  by_cases hk : k ≤ c.may
  · rw [if_pos hk, decide_eq_false (by omega)]; rfl
  · rw [if_neg hk, decide_eq_true (by omega)]; rfl
/-- What is told of a bale of which some were looked at: it is truly so. -/
theorem told_in {c : Cls} (h : Alone c) {n k : Nat} {b : Bl} (hb : c.bl[n]? = some b) (hk : ownC b true k = 0) (hk3 : k ≤ 30) : (toldC c.may (wrongC c n b) = 2 → k ≤ c.may) ∧ (toldC c.may (wrongC c n b) = 0 → c.may < k) := by
  obtain ⟨h1, h2⟩ := wrong_in h hb hk hk3
  unfold toldC
  constructor
  · intro e
    split at e
    · omega
    · split at e <;> cases e
  · intro e
    split at e
    · cases e
    · split at e
      · cases e
      · omega
/-- Bales that are made of what is pressed. -/
theorem alone_just {l : List (Nat × Nat)} (hl : ∀ p ∈ l, 1 ≤ p.1 ∧ p.1 ≤ 30 ∧ p.2 ≤ p.1) (may : Nat) : Alone ⟨l.map fun p => ⟨p.1, p.1, p.2⟩, may, 30, 0⟩ ∧ Just ⟨l.map fun p => ⟨p.1, p.1, p.2⟩, may, 30, 0⟩ (l.map (·.2)) := by
  refine ⟨⟨Nat.le_refl _, rfl, fun b hb => ?_⟩, by simp, fun i b k hb hk => ?_⟩
  · obtain ⟨p, hp, rfl⟩ := List.mem_map.1 hb
    obtain ⟨h1, h2, h3⟩ := hl p hp
    exact ⟨⟨h1, h2, Nat.le_refl _, h3⟩, p.2, by omega, (own_just h3 _).2 rfl⟩
  · rw [List.getElem?_map] at hb hk
    obtain ⟨p, hp, rfl⟩ := Option.map_eq_some_iff.1 hb
    rw [hp] at hk
    cases hk
    obtain ⟨h1, h2, h3⟩ := hl p (List.mem_of_getElem? hp)
    exact ⟨Nat.le_trans h3 h2, own_just h3⟩
/-! How many more fleeces of a bale have to be looked at. -/
def enoughC (c : Cls) (n : Nat) (b : Bl) (m : Nat) : Bool :=
  let c' : Cls := { c with bl := c.bl.set n ⟨b.f, b.l + m, b.w⟩ }
  (List.range 31).all fun i => decide (c.mis < throughC c' (fun _ => true) n ⟨b.f, b.l + m, b.w⟩ i) || decide (i ≤ c.may)
def moreC (c : Cls) (n : Nat) (b : Bl) : Option Nat := (List.range (b.f - b.l + 1)).find? (enoughC c n b)
/-- The line that the laws awake with. -/
def lineA : Cls := ⟨[⟨10, 4, 1⟩, ⟨10, 5, 0⟩, ⟨8, 8, 3⟩], 2, 2, 1⟩
set_option maxRecDepth 100000
theorem moreA : moreC lineA 1 ⟨10, 5, 0⟩ = some 4 := by decide +kernel
theorem allA : allC lineA = some (3, 16) := by decide +kernel
/-- A bale as TopLine makes it: fleeces, those that truly are wrong, those looked at, those found wrong. -/
structure TopB where
  n : Nat
  k : Nat
  l : Nat
  w : Nat
def TopB.Ok (x : TopB) : Prop := 1 ≤ x.n ∧ x.n ≤ 30 ∧ x.k ≤ x.n ∧ x.l ≤ x.n ∧ x.k - (x.n - x.l) ≤ x.w ∧ x.w ≤ min x.l x.k
/-- The line of which all was looked at; the one of which some was. -/
def justC (may : Nat) (xs : List TopB) : Cls := ⟨xs.map fun x => ⟨x.n, x.n, x.k⟩, may, 30, 0⟩
def seenC (may : Nat) (xs : List TopB) : Cls := ⟨xs.map fun x => ⟨x.n, x.l, x.w⟩, may, 30, 0⟩
section
variable {may : Nat} {xs : List TopB}
theorem justC_alone (h : ∀ x ∈ xs, x.Ok) : Alone (justC may xs) ∧ Just (justC may xs) (xs.map (·.k)) := by
  have h1 := alone_just (l := xs.map fun x => (x.n, x.k)) (fun p hp => by
    obtain ⟨x, hx, rfl⟩ := List.mem_map.1 hp
    obtain ⟨a, b, c, -⟩ := h x hx
    exact ⟨a, b, c⟩) may
  rw [List.map_map, List.map_map] at h1
  exact h1
theorem seenC_alone (h : ∀ x ∈ xs, x.Ok) : Alone (seenC may xs) := by
  refine ⟨Nat.le_refl _, rfl, fun b hb => ?_⟩
  obtain ⟨x, hx, rfl⟩ := List.mem_map.1 hb
  obtain ⟨h1, h2, h3, h4, h5, h6⟩ := h x hx
  exact ⟨⟨h1, h2, h4, by show x.w ≤ x.l; omega⟩, x.k, by omega, own_seen h3 h5 h6⟩
theorem seenC_at (h : ∀ x ∈ xs, x.Ok) {i : Nat} {b : Bl} {k : Nat} (hb : (seenC may xs).bl[i]? = some b) (hk : (xs.map (·.k))[i]? = some k) : k ≤ 30 ∧ ownC b true k = 0 := by
  have hb' : (xs.map fun x => (⟨x.n, x.l, x.w⟩ : Bl))[i]? = some b := hb
  rw [List.getElem?_map] at hb' hk
  obtain ⟨x, hx, rfl⟩ := Option.map_eq_some_iff.1 hb'
  rw [hx] at hk
  cases hk
  obtain ⟨h1, h2, h3, h4, h5, h6⟩ := h x (List.mem_of_getElem? hx)
  exact ⟨Nat.le_trans h3 h2, own_seen h3 h5 h6⟩
/-- TopLine's law: what is told of the lines. -/
theorem top_law (h : ∀ x ∈ xs, x.Ok) (hl : xs ≠ []) :
    mistakenC (justC may xs) (fun _ => true) = 0 ∧ mistakenC (seenC may xs) (fun _ => true) = 0 ∧ allC (justC may xs) = some ((xs.map (·.k)).sum, (xs.map (·.k)).sum) ∧
    lineC (justC may xs) = (if (xs.map (·.k)).all (fun k => decide (k ≤ may)) then 2 else 0) ∧ proofC (justC may xs) = (xs.map (·.k)).findIdx? (fun k => decide (may < k)) ∧
    (∃ s, allC (seenC may xs) = some s ∧ s.1 ≤ (xs.map (·.k)).sum ∧ (xs.map (·.k)).sum ≤ s.2) ∧
    ∀ (i : Nat) (b : Bl) (k : Nat), (seenC may xs).bl[i]? = some b → (xs.map (·.k))[i]? = some k → ((wrongC (seenC may xs) i b).1 ≤ k ∧ k ≤ (wrongC (seenC may xs) i b).2) ∧ (toldC may (wrongC (seenC may xs) i b) = 2 → k ≤ may) ∧ (toldC may (wrongC (seenC may xs) i b) = 0 → may < k) := by
  obtain ⟨a1, j1⟩ := justC_alone (may := may) h
  have a2 := seenC_alone (may := may) h
  have hpos : 0 < xs.length := List.length_pos_iff.2 hl
  have l1 : 0 < (justC may xs).bl.length := by unfold justC; simpa using hpos
  have l2 : 0 < (seenC may xs).bl.length := by unfold seenC; simpa using hpos
  refine ⟨can_alone a1 l1, can_alone a2 l2, all_just a1 l1 j1.1 j1.2, line_just a1 j1, proof_just a1 j1, all_in a2 l2 (by unfold seenC; simp) (fun i b k hb hk => seenC_at h hb hk), fun i b k hb hk => ?_⟩
  obtain ⟨h1, h2⟩ := seenC_at h hb hk
  exact ⟨wrong_in a2 hb h2 h1, told_in a2 hb h2 h1⟩
end
/-! How the walk goes from bale to bale. -/
theorem front_cons {c : Cls} {n : Nat} {b : Bl} (h : c.bl[n + 1]? = some b) : frontL c (n + 1) = (n + 1, b) :: frontL c n := by
  have hn := (List.getElem?_eq_some_iff.1 h).1
  have e : c.bl.take (n + 1 + 1) = c.bl.take (n + 1) ++ [b] := by rw [List.take_add_one, h]; rfl
  unfold frontL
  rw [e, List.zipIdx_append, List.map_append, List.reverse_append]
  simp [List.length_take, Nat.min_eq_left (Nat.le_of_lt hn)]
theorem front_zero {c : Cls} {d : Nat} {tk : Nat → Bool} {b : Bl} (h : c.bl[0]? = some b) : toC d tk (frontL c 0) = ownC b (tk 0) := by
  have e : frontL c 0 = [(0, b)] := by
    unfold frontL
    rw [List.take_add_one, h]
    rfl
  rw [e]
  rfl
theorem front_succ {c : Cls} {d n : Nat} {tk : Nat → Bool} {b : Bl} (h : c.bl[n + 1]? = some b) : toC d tk (frontL c (n + 1)) = plusC (driftC d (toC d tk (frontL c n))) (ownC b (tk (n + 1))) := by
  have hn := (List.getElem?_eq_some_iff.1 h).1
  obtain ⟨b2, hb⟩ : ∃ b, c.bl[n]? = some b := ⟨_, List.getElem?_eq_getElem (by omega)⟩
  obtain ⟨l, e, -⟩ := frontL_at hb
  rw [front_cons h, e]
  rfl
theorem back_last {c : Cls} {d n : Nat} {tk : Nat → Bool} {b : Bl} (h : c.bl[n]? = some b) (hn : c.bl.length = n + 1) : toC d tk (backL c n) = ownC b (tk n) := by
  have e : backL c n = [(n, b)] := by
    have hz : (c.bl.zipIdx.map fun p => (p.2, p.1))[n]? = some (n, b) := by simp [h]
    obtain ⟨h1, h2⟩ := List.getElem?_eq_some_iff.1 hz
    unfold backL
    rw [List.drop_eq_getElem_cons h1, h2, List.drop_of_length_le (by simp [hn])]
  rw [e]
  rfl
theorem back_step {c : Cls} {d n : Nat} {tk : Nat → Bool} {b : Bl} (h : c.bl[n]? = some b) (hn : n + 1 < c.bl.length) : toC d tk (backL c n) = plusC (driftC d (toC d tk (backL c (n + 1)))) (ownC b (tk n)) := by
  obtain ⟨b2, hb⟩ : ∃ b, c.bl[n + 1]? = some b := ⟨_, List.getElem?_eq_getElem hn⟩
  obtain ⟨l, e, -⟩ := backL_at hb
  have e2 : backL c n = (n, b) :: backL c (n + 1) := by
    have hz : (c.bl.zipIdx.map fun p => (p.2, p.1))[n]? = some (n, b) := by simp [h]
    obtain ⟨h1, h2⟩ := List.getElem?_eq_some_iff.1 hz
    unfold backL
    rw [List.drop_eq_getElem_cons h1, h2]
  rw [e2, e]
  rfl
theorem toC_far {d : Nat} {tk : Nat → Bool} (i : Nat) : ∀ (l : List (Nat × Bl)), (∀ p ∈ l, BlOk p.2) → toC d tk l i ≤ farC
  | [], _ => Nat.zero_le _
  | [(k, b)], h => by
    obtain ⟨h1, h2, h3, h4⟩ := h (k, b) (by simp)
    exact ownC_far b _ i h4 h3 h2
  | (k, b) :: p :: l, _ => Nat.min_le_left _ _
end Go.Proofs.Ytbfjebglaimcmaa
