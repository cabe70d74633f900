/- Plain laws of the parts of a set: what they weigh together; nothing of the program. Plain laws of both ends of a weight: fleeces that are in no bale, a bale of its own, a bale more that was weighed; nothing of the program. Plain laws of a truth: a press whose weighings are right, and what is always so, is truly so; nothing of the program. -/
import Derived.Test.YtbfjebglaimcmaaPlain2
namespace Go.Proofs.Ytbfjebglaimcmaa
namespace PressD
variable {p : PressD}
theorem bare_zero (p : PressD) : p.bare 0 = ⟨0, 0⟩ := by unfold bare; rw [sb_zero, sb_zero]
theorem tb_lt {s n i : Nat} (hs : s < 2 ^ n) (h : s.testBit i = true) : i < n := by
  rcases Nat.lt_or_ge i n with h1 | h1
  · exact h1
  · rw [Nat.testBit_lt_two_pow (Nat.lt_of_lt_of_le hs (Nat.pow_le_pow_right (by omega) h1))] at h
    cases h
/-- The others. -/
def others (p : PressD) (s : Nat) : Nat := dif (full p.n) s
theorem tb_all (n i : Nat) : (full n).testBit i = decide (i < n) := by unfold full; exact Nat.testBit_two_pow_sub_one n i
theorem tb_others (s i : Nat) : (p.others s).testBit i = (decide (i < p.n) && !s.testBit i) := by rw [others, tb_dif, tb_all]
theorem part_others (h : p.ok = true) (s : Nat) {k : Nat} (hk : k < p.weighed.length) : p.part (p.others s) k = knownS (p.bare (dif (p.bs k) s)) (p.bare (s &&& p.bs k)) (p.ba k).w := by
  have hb := (ok_ba h hk).2.1
  have e1 : p.others s &&& p.bs k = dif (p.bs k) s := Nat.eq_of_testBit_eq fun i => by
    rw [Nat.testBit_and, tb_others, tb_dif]
    cases hi : (p.bs k).testBit i
    · simp
    · simp [tb_lt hb hi]
  have e2 : dif (p.bs k) (p.others s) = s &&& p.bs k := Nat.eq_of_testBit_eq fun i => by
    rw [Nat.testBit_and, tb_dif, tb_others]
    cases hi : (p.bs k).testBit i
    · simp
    · simp [tb_lt hb hi]
  rw [part, e1, e2]
theorem part_full (h : p.ok = true) {k : Nat} (hk : k < p.weighed.length) : p.part (full p.n) k = knownS (p.bare (p.bs k)) ⟨0, 0⟩ (p.ba k).w := by
  have hb := (ok_ba h hk).2.1
  have e1 : full p.n &&& p.bs k = p.bs k := Nat.eq_of_testBit_eq fun i => by
    rw [Nat.testBit_and, tb_all]
    cases hi : (p.bs k).testBit i
    · simp
    · simp [tb_lt hb hi]
  have e2 : dif (p.bs k) (full p.n) = 0 := Nat.eq_of_testBit_eq fun i => by
    rw [tb_dif, tb_all, Nat.zero_testBit]
    cases hi : (p.bs k).testBit i
    · simp
    · simp [tb_lt hb hi]
  rw [part, e1, e2, bare_zero]
/-- Three spans: of two parts, and of both together. -/
def Tog (a b c : Sp) : Prop := a.lo + b.lo ≤ c.lo ∧ c.hi ≤ a.hi + b.hi ∧ c.lo ≤ a.lo + b.hi ∧ a.hi + b.lo ≤ c.hi
theorem Tog.plus {a b c a' b' c' : Sp} (h : Tog a b c) (k : Tog a' b' c') : Tog (plusS a a') (plusS b b') (plusS c c') := by
  obtain ⟨h1, h2, h3, h4⟩ := h
  obtain ⟨k1, k2, k3, k4⟩ := k
  simp only [Tog, plusS]
  omega
theorem part_tog (h : p.ok = true) (hw : p.wrong = 0) (s : Nat) {k : Nat} (hk : k < p.weighed.length) : Tog (p.part s k) (p.part (p.others s) k) (p.part (full p.n) k) := by
  have h1 := bare_bd h (s &&& p.bs k)
  have h2 := bare_bd h (dif (p.bs k) s)
  have h3 := ok_ba h hk
  have h4 := (right_iff h hk).1 ((wrong_iff p).1 hw k hk)
  have h5 := bare_cut (p := p) (p.bs k) s
  rw [Nat.and_comm] at h5
  rw [part_others h s hk, part_full h hk, part]
  simp only [Tog, knownS]
  omega
theorem rest_tog {s : Nat} (hs : s < 2 ^ p.n) (k : Nat) : (p.bare (p.rest (full p.n) k)).lo = (p.bare (p.rest s k)).lo + (p.bare (p.rest (p.others s) k)).lo ∧ (p.bare (p.rest (full p.n) k)).hi = (p.bare (p.rest s k)).hi + (p.bare (p.rest (p.others s) k)).hi := by
  have h5 := bare_cut (p := p) (p.rest (full p.n) k) s
  have e1 : p.rest (full p.n) k &&& s = p.rest s k := Nat.eq_of_testBit_eq fun i => by
    rw [Nat.testBit_and, tb_rest, tb_rest, tb_all]
    cases hi : s.testBit i
    · simp
    · simp [tb_lt hs hi]
  have e2 : dif (p.rest (full p.n) k) s = p.rest (p.others s) k := Nat.eq_of_testBit_eq fun i => by
    rw [tb_dif, tb_rest, tb_rest, tb_all, tb_others]
    cases s.testBit i <;> cases (p.used k).testBit i <;> simp
  rw [e1, e2] at h5
  exact h5
theorem wSum_tog (h : p.ok = true) (hw : p.wrong = 0) (s : Nat) : ∀ {k}, k ≤ p.weighed.length → Tog (p.wSum s k) (p.wSum (p.others s) k) (p.wSum (full p.n) k) := by
  intro k
  induction k with
  | zero => intro _; simp [wSum, Tog]
  | succ k ih =>
    intro hk
    rw [wSum, wSum, wSum]
    exact (ih (by omega)).plus (part_tog h hw s (by omega))
theorem weight_tog (h : p.ok = true) (hw : p.wrong = 0) {s : Nat} (hs : s < 2 ^ p.n) : Tog (p.weight s) (p.weight (p.others s)) (p.weight (full p.n)) := by
  have h1 := wSum_tog h hw s (Nat.le_refl _)
  have h2 := rest_tog (p := p) hs p.weighed.length
  have h3 := bare_bd h (p.rest s p.weighed.length)
  have h4 := bare_bd h (p.rest (p.others s) p.weighed.length)
  rw [weight, weight, weight]
  refine h1.plus ?_
  simp only [Tog]
  omega
theorem weight_none (hn : p.weighed.length = 0) {s : Nat} (hs : s < 2 ^ p.n) : p.weight (full p.n) = ⟨(p.weight s).lo + (p.weight (p.others s)).lo, (p.weight s).hi + (p.weight (p.others s)).hi⟩ := by
  have h2 := rest_tog (p := p) hs 0
  rw [weight, weight, weight, hn]
  simp only [wSum, plusS, Sp.mk.injEq]
  omega
/-! A bale whose weight is known exactly: the k-th one. -/
def exactB (p : PressD) (j : Nat) : PressD := { p with weighed := p.weighed.set j { p.ba j with w := ⟨(p.ba j).w.lo, (p.ba j).w.lo⟩ } }
theorem exact_len (p : PressD) (j : Nat) : (p.exactB j).weighed.length = p.weighed.length := by simp [exactB]
theorem exact_ba {j : Nat} (hj : j < p.weighed.length) (k : Nat) : (p.exactB j).ba k = if k = j then { p.ba j with w := ⟨(p.ba j).w.lo, (p.ba j).w.lo⟩ } else p.ba k := by
  unfold exactB ba
  simp only [List.getElem?_set]
  by_cases e : k = j
  · subst e
    simp [hj]
  · simp [e, Ne.symm e]
theorem exact_set {j : Nat} (hj : j < p.weighed.length) (k : Nat) : ((p.exactB j).ba k).set = (p.ba k).set := by
  rw [exact_ba hj]
  split
  · rename_i e; rw [e]
  · rfl
theorem exact_bs {j : Nat} (hj : j < p.weighed.length) (k : Nat) : (p.exactB j).bs k = p.bs k := by rw [bs, bs, exact_set hj]
theorem exact_used {j : Nat} (hj : j < p.weighed.length) : ∀ k, (p.exactB j).used k = p.used k := by
  intro k
  induction k with
  | zero => rfl
  | succ k ih => rw [used, used, ih, exact_bs hj]
theorem exact_ok (h : p.ok = true) {j : Nat} (hj : j < p.weighed.length) : (p.exactB j).ok = true := by
  have hb := h
  simp only [ok, Bool.and_eq_true, List.all_eq_true, List.mem_range] at hb ⊢
  obtain ⟨⟨h1, h2⟩, h3⟩ := hb
  refine ⟨⟨?_, h2⟩, fun k hk => ?_⟩
  · have e : (p.exactB j).headB = p.headB := by unfold headB; rw [exact_len]; rfl
    rw [e]; exact h1
  · rw [exact_len] at hk
    have hk3 := h3 k hk
    have e3 := ok_ba h hj
    have e4 : (p.exactB j).setB (p.ba k).set = p.setB (p.ba k).set := rfl
    simp only [baB, exact_bs hj, exact_used hj, exact_set hj, e4, Bool.and_eq_true] at hk3 ⊢
    refine ⟨hk3.1, ?_⟩
    rw [exact_ba hj]
    split
    · rw [spanB_iff]; exact ⟨e3.2.2.2.2.1, Int.le_refl _, (show (p.ba j).w.lo ≤ 200 from by omega)⟩
    · exact hk3.2
theorem used_bs {j : Nat} : ∀ {k}, j < k → ∀ i, (p.bs j).testBit i = true → (p.used k).testBit i = true := by
  intro k
  induction k with
  | zero => intro hj; omega
  | succ k ih =>
    intro hj i hi
    rw [used, Nat.testBit_or]
    by_cases e : j = k
    · subst e; rw [hi]; simp
    · rw [ih (by omega) i hi]; rfl
theorem bs_apart (h : p.ok = true) {j k : Nat} (hk : k < p.weighed.length) (hj : j < p.weighed.length) (hne : j ≠ k) (i : Nat) : ¬ ((p.bs j).testBit i = true ∧ (p.bs k).testBit i = true) := by
  rintro ⟨h1, h2⟩
  rcases Nat.lt_or_gt_of_ne hne with hl | hl
  · exact (and_zero_iff.1 (ok_ba h hk).2.2.2.1 i) ⟨used_bs hl i h1, h2⟩
  · exact (and_zero_iff.1 (ok_ba h hj).2.2.2.1 i) ⟨used_bs hl i h2, h1⟩
/-- What a part of a bale weighs: what is left of the bale. -/
theorem wSum_in (h : p.ok = true) (hw : p.wrong = 0) {j u : Nat} (hj : j < p.weighed.length) (hu : ∀ i, u.testBit i = true → (p.bs j).testBit i = true) : ∀ {k}, k ≤ p.weighed.length → p.wSum u k = if j < k then p.part u j else ⟨0, 0⟩ := by
  intro k
  induction k with
  | zero => intro _; simp [wSum]
  | succ k ih =>
    intro hk
    rw [wSum, ih (by omega)]
    by_cases e : j = k
    · subst e
      simp [plusS]
    · have e1 : u &&& p.bs k = 0 := Nat.eq_of_testBit_eq fun i => by
        rw [Nat.testBit_and, Nat.zero_testBit]
        cases h1 : u.testBit i
        · rfl
        · cases h2 : (p.bs k).testBit i
          · rfl
          · exact absurd ⟨hu i h1, h2⟩ (bs_apart h (by omega) hj e i)
      have e2 : dif (p.bs k) u = p.bs k := Nat.eq_of_testBit_eq fun i => by
        rw [tb_dif]
        cases h1 : u.testBit i
        · simp
        · cases h2 : (p.bs k).testBit i
          · rfl
          · exact absurd ⟨hu i h1, h2⟩ (bs_apart h (by omega) hj e i)
      have h3 := ok_ba h (show k < p.weighed.length by omega)
      have h4 := (right_iff h (show k < p.weighed.length by omega)).1 ((wrong_iff p).1 hw k (by omega))
      have h5 := bare_bd h (p.bs k)
      have e3 : p.part u k = ⟨0, 0⟩ := by
        rw [part, e1, e2, bare_zero, knownS]
        simp only [Sp.mk.injEq]
        omega
      rw [e3]
      by_cases hl : j < k
      · rw [if_pos hl, if_pos (by omega)]; simp [plusS]
      · rw [if_neg hl, if_neg (by omega)]; simp [plusS]
theorem weight_in (h : p.ok = true) (hw : p.wrong = 0) {j u : Nat} (hj : j < p.weighed.length) (hu : ∀ i, u.testBit i = true → (p.bs j).testBit i = true) : p.weight u = p.part u j := by
  have e : p.rest u p.weighed.length = 0 := Nat.eq_of_testBit_eq fun i => by
    rw [tb_rest, Nat.zero_testBit]
    cases h1 : u.testBit i
    · rfl
    · rw [used_bs hj i (hu i h1)]; rfl
  rw [weight, wSum_in h hw hj hu (Nat.le_refl _), if_pos hj, e, bare_zero]
  simp [plusS]
theorem exact_parts (h : p.ok = true) {j s : Nat} (hj : j < p.weighed.length) (hw : (p.exactB j).wrong = 0) :
    ((p.exactB j).weight (s &&& p.bs j)).lo + ((p.exactB j).weight (dif (p.bs j) s)).hi = (p.ba j).w.lo ∧ ((p.exactB j).weight (s &&& p.bs j)).hi + ((p.exactB j).weight (dif (p.bs j) s)).lo = (p.ba j).w.lo := by
  have hx := exact_ok h hj
  have hjx : j < (p.exactB j).weighed.length := by rw [exact_len]; exact hj
  have hb := exact_bs hj j
  have u1 : ∀ i, (s &&& p.bs j).testBit i = true → ((p.exactB j).bs j).testBit i = true := fun i hi => by
    rw [hb]; rw [Nat.testBit_and] at hi; simp at hi; exact hi.2
  have u2 : ∀ i, (dif (p.bs j) s).testBit i = true → ((p.exactB j).bs j).testBit i = true := fun i hi => by
    rw [hb]; rw [tb_dif] at hi; simp at hi; exact hi.1
  rw [weight_in hx hw hjx u1, weight_in hx hw hjx u2, part, part, hb]
  have e1 : s &&& p.bs j &&& p.bs j = s &&& p.bs j := by rw [Nat.and_assoc, Nat.and_self]
  have e2 : dif (p.bs j) (s &&& p.bs j) = dif (p.bs j) s := Nat.eq_of_testBit_eq fun i => by
    rw [tb_dif, tb_dif, Nat.testBit_and]
    cases s.testBit i <;> cases (p.bs j).testBit i <;> rfl
  have e3 : dif (p.bs j) s &&& p.bs j = dif (p.bs j) s := Nat.eq_of_testBit_eq fun i => by
    rw [Nat.testBit_and, tb_dif]
    cases s.testBit i <;> cases (p.bs j).testBit i <;> rfl
  have e4 : dif (p.bs j) (dif (p.bs j) s) = s &&& p.bs j := Nat.eq_of_testBit_eq fun i => by
    rw [Nat.testBit_and, tb_dif, tb_dif]
    cases s.testBit i <;> cases (p.bs j).testBit i <;> rfl
  rw [e1, e2, e3, e4]
  have ew : ((p.exactB j).ba j).w = ⟨(p.ba j).w.lo, (p.ba j).w.lo⟩ := by rw [exact_ba hj, if_pos rfl]
  rw [ew]
  simp only [knownS]
  omega
end PressD
end Go.Proofs.Ytbfjebglaimcmaa
namespace Go.Proofs.Ytbfjebglaimcmaa
namespace PressD
variable {p : PressD}
theorem part_none (h : p.ok = true) (hw : p.wrong = 0) {u k : Nat} (hk : k < p.weighed.length) (hu : u &&& p.bs k = 0) : p.part u k = ⟨0, 0⟩ := by
  have e2 : dif (p.bs k) u = p.bs k := Nat.eq_of_testBit_eq fun i => by
    have h1 := and_zero_iff.1 hu i
    rw [tb_dif]
    cases h2 : u.testBit i <;> cases h3 : (p.bs k).testBit i <;> simp_all
  have h3 := ok_ba h hk
  have h4 := (right_iff h hk).1 ((wrong_iff p).1 hw k hk)
  have h5 := bare_bd h (p.bs k)
  rw [part, hu, e2, bare_zero, knownS]
  simp only [Sp.mk.injEq]
  omega
theorem wSum_none (h : p.ok = true) (hw : p.wrong = 0) {u : Nat} : ∀ {k}, k ≤ p.weighed.length → (∀ j, j < k → u &&& p.bs j = 0) → p.wSum u k = ⟨0, 0⟩ := by
  intro k
  induction k with
  | zero => intro _ _; rfl
  | succ k ih =>
    intro hk hu
    rw [wSum, ih (by omega) (fun j hj => hu j (by omega)), part_none h hw (by omega) (hu k (by omega))]
    simp [plusS]
theorem weight_free (h : p.ok = true) (hw : p.wrong = 0) {u : Nat} (hu : u &&& p.used p.weighed.length = 0) : p.weight u = p.bare u := by
  have h1 := and_zero_iff.1 hu
  have e : p.rest u p.weighed.length = u := Nat.eq_of_testBit_eq fun i => by
    have h2 := h1 i
    rw [tb_rest]
    cases h3 : u.testBit i <;> cases h4 : (p.used p.weighed.length).testBit i <;> simp_all
  rw [weight, wSum_none h hw (Nat.le_refl _) (fun j hj => and_zero_iff.2 fun i hi => h1 i ⟨hi.1, used_bs hj i hi.2⟩), e]
  simp [plusS]
theorem weight_zero (h : p.ok = true) (hw : p.wrong = 0) : p.weight 0 = ⟨0, 0⟩ := by
  rw [weight_free h hw (Nat.zero_and _), bare_zero]
theorem rest_free (s k : Nat) : p.rest s k &&& p.used k = 0 := and_zero_iff.2 fun i hi => by
  obtain ⟨h1, h2⟩ := hi
  rw [tb_rest, h2] at h1
  simp at h1
theorem weight_rest (h : p.ok = true) (hw : p.wrong = 0) (s : Nat) : p.weight (p.rest s p.weighed.length) = p.bare (p.rest s p.weighed.length) := weight_free h hw (rest_free s _)
/-- What a bale that was weighed weighs. -/
theorem weight_bale (h : p.ok = true) (hw : p.wrong = 0) {j : Nat} (hj : j < p.weighed.length) : p.weight (p.bs j) = knownS (p.bare (p.bs j)) ⟨0, 0⟩ (p.ba j).w := by
  have e2 : dif (p.bs j) (p.bs j) = 0 := Nat.eq_of_testBit_eq fun i => by
    rw [tb_dif, Nat.zero_testBit]; cases (p.bs j).testBit i <;> rfl
  rw [weight_in h hw hj (fun _ hi => hi), part, Nat.and_self, e2, bare_zero]
theorem weight_bale_in (h : p.ok = true) (hw : p.wrong = 0) {j : Nat} (hj : j < p.weighed.length) : (p.ba j).w.lo ≤ (p.weight (p.bs j)).lo ∧ (p.weight (p.bs j)).hi ≤ (p.ba j).w.hi := by
  rw [weight_bale h hw hj, knownS]
  simp only
  omega
/-! A bale more. -/
def more (p : PressD) (b : Ba) : PressD := { p with weighed := p.weighed ++ [b] }
theorem more_len (p : PressD) (b : Ba) : (p.more b).weighed.length = p.weighed.length + 1 := by simp [more]
theorem more_ba (b : Ba) {k : Nat} (hk : k < p.weighed.length) : (p.more b).ba k = p.ba k := by
  unfold more ba
  simp only
  rw [List.getElem?_append_left hk]
theorem more_new (p : PressD) (b : Ba) : (p.more b).ba p.weighed.length = b := by
  unfold more ba
  simp
theorem more_bs (b : Ba) {k : Nat} (hk : k < p.weighed.length) : (p.more b).bs k = p.bs k := by rw [bs, bs, more_ba b hk]
theorem more_used (b : Ba) : ∀ {k}, k ≤ p.weighed.length → (p.more b).used k = p.used k := by
  intro k
  induction k with
  | zero => intro _; rfl
  | succ k ih => intro hk; rw [used, used, ih (by omega), more_bs b (by omega)]
theorem more_ok (h : p.ok = true) {u : Nat} {lo hi : Int} (hl : p.weighed.length < 4) (hu : u < 2 ^ p.n) (h0 : 0 < u) (hf : u &&& p.used p.weighed.length = 0) (hlo : 1 ≤ lo) (hle : lo ≤ hi) (hhi : hi ≤ 200) : (p.more ⟨(u : Int), ⟨lo, hi⟩⟩).ok = true := by
  have hb := h
  simp only [ok, Bool.and_eq_true, List.all_eq_true, List.mem_range] at hb ⊢
  obtain ⟨⟨h1, h2⟩, h3⟩ := hb
  refine ⟨⟨?_, h2⟩, fun k hk => ?_⟩
  · simp only [headB, Bool.and_eq_true, decide_eq_true_eq] at h1 ⊢
    refine ⟨h1.1, ?_⟩
    rw [more_len]
    omega
  · rw [more_len] at hk
    by_cases e : k < p.weighed.length
    · have hk3 := h3 k e
      simp only [baB, more_bs _ e, more_used (p := p) _ (show k ≤ p.weighed.length by omega), more_ba _ e] at hk3 ⊢
      exact hk3
    · obtain rfl : k = p.weighed.length := by omega
      have e4 : (p.more ⟨(u : Int), ⟨lo, hi⟩⟩).bs p.weighed.length = u := by rw [bs, more_new]; simp
      have e5 := le_full.2 hu
      simp only [baB, setB, e4, more_used (p := p) _ (Nat.le_refl _), more_new, Bool.and_eq_true, inB_iff, spanB_iff, decide_eq_true_eq, beq_iff_eq]
      refine ⟨⟨⟨⟨by omega, ?_⟩, by omega⟩, by rw [Nat.and_comm]; exact hf⟩, hlo, hle, hhi⟩
      show (u : Int) ≤ ((full p.n : Nat) : Int)
      omega
theorem more_wrong (hw : p.wrong = 0) {u : Nat} {lo hi : Int} (hx : (p.more ⟨(u : Int), ⟨lo, hi⟩⟩).ok = true) : (p.more ⟨(u : Int), ⟨lo, hi⟩⟩).wrong = 0 ↔ (p.bare u).lo ≤ hi ∧ lo ≤ (p.bare u).hi := by
  have hl : p.weighed.length < (p.more ⟨(u : Int), ⟨lo, hi⟩⟩).weighed.length := by rw [more_len]; omega
  have e4 : (p.more ⟨(u : Int), ⟨lo, hi⟩⟩).bs p.weighed.length = u := by rw [bs, more_new]; simp
  rw [wrong_iff]
  constructor
  · intro hk
    have := (right_iff hx hl).1 (hk _ hl)
    rw [e4, more_new] at this
    exact this
  · intro hh k hk
    rw [more_len] at hk
    by_cases e : k < p.weighed.length
    · have h1 := (wrong_iff p).1 hw k e
      rw [wrongB, more_bs _ e, more_ba _ e]
      exact h1
    · obtain rfl : k = p.weighed.length := by omega
      rw [right_iff hx hl, e4, more_new]
      exact hh
theorem more_weight {u : Nat} {n : Int} (hx : (p.more ⟨(u : Int), ⟨n, n⟩⟩).ok = true) (hw : (p.more ⟨(u : Int), ⟨n, n⟩⟩).wrong = 0) (h1 : (p.bare u).lo ≤ n) (h2 : n ≤ (p.bare u).hi) : (p.more ⟨(u : Int), ⟨n, n⟩⟩).weight u = ⟨n, n⟩ := by
  have hl : p.weighed.length < (p.more ⟨(u : Int), ⟨n, n⟩⟩).weighed.length := by rw [more_len]; omega
  have e4 : (p.more ⟨(u : Int), ⟨n, n⟩⟩).bs p.weighed.length = u := by rw [bs, more_new]; simp
  have e := weight_bale hx hw hl
  rw [e4, more_new] at e
  rw [e]
  have e5 : (p.more ⟨(u : Int), ⟨n, n⟩⟩).bare u = p.bare u := rfl
  rw [e5, knownS]
  simp only [Sp.mk.injEq]
  omega
end PressD
end Go.Proofs.Ytbfjebglaimcmaa
namespace Go.Proofs.Ytbfjebglaimcmaa
/-- A bale that was weighed rightly, as wide as it was. -/
def trueBa (T : Nat → Int) (n : Nat) (b : Ba) : Ba := ⟨b.set, ⟨max 1 (sb T b.set.toNat n - min 4 (b.w.hi - b.w.lo) / 2), min 200 (sb T b.set.toNat n + min 4 (b.w.hi - b.w.lo) - min 4 (b.w.hi - b.w.lo) / 2)⟩⟩
namespace PressD
variable {p : PressD} {T : Nat → Int}
def trueP (p : PressD) (T : Nat → Int) : PressD := { p with weighed := p.weighed.map (trueBa T p.n) }
theorem true_len (p : PressD) (T : Nat → Int) : (p.trueP T).weighed.length = p.weighed.length := by simp [trueP]
theorem true_ba {k : Nat} (hk : k < p.weighed.length) : (p.trueP T).ba k = trueBa T p.n (p.ba k) := by
  unfold trueP ba
  simp [List.getElem?_eq_getElem hk]
theorem true_bs {k : Nat} (hk : k < p.weighed.length) : (p.trueP T).bs k = p.bs k := by rw [bs, true_ba hk]; rfl
theorem true_used : ∀ {k}, k ≤ p.weighed.length → (p.trueP T).used k = p.used k := by
  intro k
  induction k with
  | zero => intro _; rfl
  | succ k ih => intro hk; rw [used, used, ih (by omega), true_bs (by omega)]
theorem true_sum (h : p.ok = true) (ht : ∀ i, i < p.n → (p.fw i).lo ≤ T i ∧ T i ≤ (p.fw i).hi) (s : Nat) : (p.bare s).lo ≤ sb T s p.n ∧ sb T s p.n ≤ (p.bare s).hi ∧ 0 ≤ sb T s p.n ∧ sb T s p.n ≤ 200 := by
  have h1 : (p.bare s).lo ≤ sb T s p.n := sb_le _ fun i hi _ => (ht i hi).1
  have h2 : sb T s p.n ≤ (p.bare s).hi := sb_le _ fun i hi _ => (ht i hi).2
  have h3 := bare_bd h s
  omega
theorem sb_null (s : Nat) : ∀ n, sb (fun _ => 0) s n = 0 := by
  intro n
  induction n with
  | zero => rfl
  | succ n ih => rw [sb, ih]; simp
theorem sb_ge {f : Nat → Int} {s : Nat} : ∀ n, (∀ i, i < n → 0 ≤ f i) → ∀ j, j < n → s.testBit j = true → f j ≤ sb f s n := by
  intro n
  induction n with
  | zero => intro _ j hj; omega
  | succ n ih =>
    intro hf j hj hb
    have h0 : 0 ≤ sb f s n := by
      have h1 := sb_le (f := fun _ => 0) (g := f) (s := s) n (fun i hi _ => hf i (by omega))
      have h2 : sb (fun _ => 0) s n = 0 := by
        exact sb_null s n
      omega
    rw [sb]
    by_cases e : j = n
    · subst e; rw [if_pos hb]; omega
    · have h1 := ih (fun i hi => hf i (by omega)) j (by omega) hb
      have h2 := hf n (by omega)
      split <;> omega
theorem some_bit {s n : Nat} (hs : s < 2 ^ n) (h0 : 0 < s) : ∃ j, j < n ∧ s.testBit j = true := by
  by_cases h : ∃ j, j < n ∧ s.testBit j = true
  · exact h
  · refine absurd (Nat.eq_of_testBit_eq fun i => ?_) (show s ≠ 0 by omega)
    rw [Nat.zero_testBit]
    by_cases hi : i < n
    · cases hb : s.testBit i
      · rfl
      · exact absurd ⟨i, hi, hb⟩ h
    · exact Nat.testBit_lt_two_pow (Nat.lt_of_lt_of_le hs (Nat.pow_le_pow_right (by omega) (by omega)))
theorem true_pos (h : p.ok = true) (ht : ∀ i, i < p.n → (p.fw i).lo ≤ T i ∧ T i ≤ (p.fw i).hi) {k : Nat} (hk : k < p.weighed.length) : 1 ≤ sb T (p.bs k) p.n := by
  have h1 := ok_ba h hk
  obtain ⟨j, hj, hb⟩ := some_bit h1.2.1 h1.2.2.1
  have h2 := sb_ge (f := T) (s := p.bs k) p.n (fun i hi => by have := ht i hi; have := ok_fl h hi; omega) j hj hb
  have h3 := ht j hj
  have h4 := ok_fl h hj
  omega
theorem true_ok (h : p.ok = true) (ht : ∀ i, i < p.n → (p.fw i).lo ≤ T i ∧ T i ≤ (p.fw i).hi) : (p.trueP T).ok = true := by
  have hb := h
  simp only [ok, Bool.and_eq_true, List.all_eq_true, List.mem_range] at hb ⊢
  obtain ⟨⟨h1, h2⟩, h3⟩ := hb
  refine ⟨⟨?_, h2⟩, fun k hk => ?_⟩
  · have e : (p.trueP T).headB = p.headB := by unfold headB; rw [true_len]; rfl
    rw [e]; exact h1
  · rw [true_len] at hk
    have hk3 := h3 k hk
    have e3 := ok_ba h hk
    have e5 := true_sum h ht (p.bs k)
    have e6 := true_pos h ht hk
    have e4 : (p.trueP T).setB (p.ba k).set = p.setB (p.ba k).set := rfl
    simp only [baB, true_bs hk, true_used (p := p) (show k ≤ p.weighed.length by omega), true_ba hk, trueBa, e4, Bool.and_eq_true] at hk3 ⊢
    refine ⟨hk3.1, ?_⟩
    rw [spanB_iff]
    have e7 : (p.ba k).set.toNat = p.bs k := rfl
    rw [e7]
    simp only
    omega
theorem true_truth (h : p.ok = true) (ht : ∀ i, i < p.n → (p.fw i).lo ≤ T i ∧ T i ≤ (p.fw i).hi) : (p.trueP T).Truth T := by
  refine ⟨ht, fun k hk => ?_⟩
  rw [true_len] at hk
  have e3 := ok_ba h hk
  have e5 := true_sum h ht (p.bs k)
  have e6 := true_pos h ht hk
  have e7 : (p.ba k).set.toNat = p.bs k := rfl
  rw [true_bs hk, true_ba hk, trueBa, e7]
  show max 1 _ ≤ sb T (p.bs k) p.n ∧ sb T (p.bs k) p.n ≤ min 200 _
  omega
theorem true_right (h : p.ok = true) (ht : ∀ i, i < p.n → (p.fw i).lo ≤ T i ∧ T i ≤ (p.fw i).hi) : (p.trueP T).wrong = 0 := (true_truth h ht).right (true_ok h ht)
theorem true_in (h : p.ok = true) (ht : ∀ i, i < p.n → (p.fw i).lo ≤ T i ∧ T i ≤ (p.fw i).hi) (s : Nat) : ((p.trueP T).weight s).lo ≤ sb T s p.n ∧ sb T s p.n ≤ ((p.trueP T).weight s).hi := (true_truth h ht).weight (true_ok h ht) s
/-- Is a set truly fit? -/
def fitT (p : PressD) (T : Nat → Int) (s : Nat) : Bool := p.alike s && decide (p.low ≤ sb T s p.n) && decide (sb T s p.n ≤ p.top)
theorem sure_fit (h : p.ok = true) (ht : ∀ i, i < p.n → (p.fw i).lo ≤ T i ∧ T i ≤ (p.fw i).hi) {s : Nat} (hs : (p.trueP T).sure s = true) : p.fitT T s = true := by
  have h1 := true_in h ht s
  simp only [sure, Bool.and_eq_true, spanB_iff] at hs
  simp only [fitT, Bool.and_eq_true, decide_eq_true_eq]
  refine ⟨⟨hs.1, ?_⟩, ?_⟩
  · have : (p.trueP T).low = p.low := rfl
    omega
  · have : (p.trueP T).top = p.top := rfl
    omega
theorem fit_may (h : p.ok = true) (ht : ∀ i, i < p.n → (p.fw i).lo ≤ T i ∧ T i ≤ (p.fw i).hi) {s : Nat} (hs : p.fitT T s = true) : (p.trueP T).may s = true := by
  have h1 := true_in h ht s
  simp only [fitT, Bool.and_eq_true, decide_eq_true_eq] at hs
  simp only [may, Bool.and_eq_true, decide_eq_true_eq]
  refine ⟨⟨hs.1.1, ?_⟩, ?_⟩
  · have : (p.trueP T).low = p.low := rfl
    omega
  · have : (p.trueP T).top = p.top := rfl
    omega
end PressD
end Go.Proofs.Ytbfjebglaimcmaa
