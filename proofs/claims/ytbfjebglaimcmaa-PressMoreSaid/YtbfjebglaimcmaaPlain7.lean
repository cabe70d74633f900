/- The plain laws behind PressMore: a press that is known better, and one whose fleeces are numbered the other way round; nothing of the program; no condition. The plain law of a press whose fleeces are numbered the other way round; nothing of the program; no condition. -/
import Derived.Test.YtbfjebglaimcmaaPlain4
import Derived.Test.YtbfjebglaimcmaaPlain3
import Derived.Test.YtbfjebglaimcmaaPlain6
namespace Go.Proofs.Ytbfjebglaimcmaa
theorem Fam.sub {l l' : List Nat} {b f h : Nat} {L : List Nat} (hl : ∀ s ∈ l, s ∈ l') (hL : Fam l b f h L) : Fam l' b f h L := by
  have h1 := hL.parts
  exact Fam.of_sorted hL.length (fun s hs => ⟨hl s (h1.1 s hs).1, (h1.1 s hs).2⟩) h1.2.1 h1.2.2
theorem bestF_sub {l l' : List Nat} (hl : ∀ s ∈ l, s ∈ l') (b f h : Nat) : bestF l b f h ≤ bestF l' b f h := by
  obtain ⟨L, h1, h2⟩ := Fam.ex (l := l) b f h
  rw [← h2]
  exact (h1.sub hl).le
namespace PressD
section
variable {p q : PressD}
/-! A truth that has given parts of each bale. -/
theorem glue (h : p.ok = true) (L : Nat → List Int) (hL : ∀ k, k < p.weighed.length → L k ∈ p.lists k) (g : Nat → Int) (hg : ∀ i, i < p.n → (p.fw i).lo ≤ g i ∧ g i ≤ (p.fw i).hi) :
    ∃ T, p.Truth T ∧ (∀ s k, k < p.weighed.length → sb T (s &&& p.bs k) p.n = p.inL s (L k)) ∧ ∀ s, sb T (p.rest s p.weighed.length) p.n = sb g (p.rest s p.weighed.length) p.n := by
  let F : Nat → Option Nat := fun i => (List.range p.weighed.length).find? fun k => (p.bs k).testBit i
  let T : Nat → Int := fun i => ((F i).map fun k => li (L k) i).getD (g i)
  have t1 : ∀ k i, k < p.weighed.length → (p.bs k).testBit i = true → T i = li (L k) i := by
    intro k i hk hb
    show ((F i).map fun k => li (L k) i).getD (g i) = _
    cases hf : F i with
    | none => exact absurd hb (by simpa using List.find?_eq_none.1 hf k (List.mem_range.2 hk))
    | some j =>
      have hj := List.mem_range.1 (List.mem_of_find?_eq_some hf)
      have hb' := List.find?_some hf
      by_cases e : j = k
      · subst e; rfl
      · exact absurd ⟨by simpa using hb', hb⟩ (bs_apart h hk hj e i)
  have t2 : ∀ i, (p.used p.weighed.length).testBit i = false → T i = g i := by
    intro i hu
    show ((F i).map fun k => li (L k) i).getD (g i) = _
    cases hf : F i with
    | none => rfl
    | some j =>
      have hj := List.mem_range.1 (List.mem_of_find?_eq_some hf)
      have hb' := List.find?_some hf
      have := used_bs hj i (by simpa using hb')
      rw [hu] at this
      cases this
  have hs : ∀ s k, k < p.weighed.length → sb T (s &&& p.bs k) p.n = p.inL s (L k) := by
    intro s k hk
    rw [(lists_sums (hL k hk) s).1]
    refine sb_congr _ fun i _ => ⟨rfl, fun hb => t1 k i hk ?_⟩
    rw [Nat.testBit_and, Bool.and_eq_true] at hb
    exact hb.2
  refine ⟨T, ⟨fun i hi => ?_, fun k hk => ?_⟩, hs, fun s => ?_⟩
  · cases hu : (p.used p.weighed.length).testBit i with
    | false => rw [t2 i hu]; exact hg i hi
    | true =>
      cases hf : F i with
      | none =>
        have e : T i = g i := by show ((F i).map fun k => li (L k) i).getD (g i) = _; rw [hf]; rfl
        rw [e]; exact hg i hi
      | some j =>
        have hj := List.mem_range.1 (List.mem_of_find?_eq_some hf)
        have hb' : (p.bs j).testBit i = true := by simpa using List.find?_some hf
        rw [t1 j i hj hb']
        have := (mem_lists.1 (hL j hj)).2.1 i hi
        unfold ofB at this
        rwa [if_pos hb'] at this
  · have e : sb T (p.bs k) p.n = (L k).sum := by
      rw [(lists_sums (hL k hk) 0).2]
      exact sb_congr _ fun i _ => ⟨rfl, fun hb => t1 k i hk hb⟩
    rw [e]
    exact (mem_lists.1 (hL k hk)).2.2
  · refine sb_congr _ fun i _ => ⟨rfl, fun hb => t2 i ?_⟩
    rw [tb_rest, Bool.and_eq_true, Bool.not_eq_true'] at hb
    exact hb.2
theorem truth_lo (h : p.ok = true) (hw : p.wrong = 0) (s : Nat) : ∃ T, p.Truth T ∧ sb T s p.n = (p.weight s).lo := by
  have hx := fun k (hk : k < p.weighed.length) => (lists_ends h hk ((wrong_iff p).1 hw k hk) s).1
  let L : Nat → List Int := fun k => if hk : k < p.weighed.length then (hx k hk).choose else []
  have hL : ∀ k, k < p.weighed.length → L k ∈ p.lists k ∧ p.inL s (L k) = (p.part s k).lo := fun k hk => by
    simp only [L, dif_pos hk]; exact (hx k hk).choose_spec
  obtain ⟨T, h1, h2, h3⟩ := glue h L (fun k hk => (hL k hk).1) (fun i => (p.fw i).lo) (fun i hi => by have := ok_fl h hi; omega)
  refine ⟨T, h1, ?_⟩
  have hi : ∀ k, k ≤ p.weighed.length → sb T s p.n = (p.wSum s k).lo + sb T (p.rest s k) p.n := by
    intro k
    induction k with
    | zero => intro _; simp [wSum, rest]
    | succ k ih =>
      intro hk
      rw [ih (by omega), rest_sum h T s (by omega), h2 s k (by omega), (hL k (by omega)).2]
      simp only [wSum, plusS]; omega
  rw [hi _ (Nat.le_refl _), h3]
  simp only [weight, plusS, PressD.bare]
theorem truth_hi (h : p.ok = true) (hw : p.wrong = 0) (s : Nat) : ∃ T, p.Truth T ∧ sb T s p.n = (p.weight s).hi := by
  have hx := fun k (hk : k < p.weighed.length) => (lists_ends h hk ((wrong_iff p).1 hw k hk) s).2
  let L : Nat → List Int := fun k => if hk : k < p.weighed.length then (hx k hk).choose else []
  have hL : ∀ k, k < p.weighed.length → L k ∈ p.lists k ∧ p.inL s (L k) = (p.part s k).hi := fun k hk => by
    simp only [L, dif_pos hk]; exact (hx k hk).choose_spec
  obtain ⟨T, h1, h2, h3⟩ := glue h L (fun k hk => (hL k hk).1) (fun i => (p.fw i).hi) (fun i hi => by have := ok_fl h hi; omega)
  refine ⟨T, h1, ?_⟩
  have hi : ∀ k, k ≤ p.weighed.length → sb T s p.n = (p.wSum s k).hi + sb T (p.rest s k) p.n := by
    intro k
    induction k with
    | zero => intro _; simp [wSum, rest]
    | succ k ih =>
      intro hk
      rw [ih (by omega), rest_sum h T s (by omega), h2 s k (by omega), (hL k (by omega)).2]
      simp only [wSum, plusS]; omega
  rw [hi _ (Nat.le_refl _), h3]
  simp only [weight, plusS, PressD.bare]

/-! A press that is known better. -/
structure Finer (p q : PressD) : Prop where
  n : q.n = p.n
  line : ∀ i, q.line i = p.line i
  low : q.low = p.low
  top : q.top = p.top
  bales : q.bales = p.bales
  truth : ∀ T, q.Truth T → p.Truth T
namespace Finer
theorem right (hf : Finer p q) (hp : p.ok = true) (hq : q.ok = true) (hw : q.wrong = 0) : p.wrong = 0 :=
  let ⟨T, hT, _⟩ := truth_lo hq hw 0
  (hf.truth T hT).right hp
theorem weight (hf : Finer p q) (hp : p.ok = true) (hq : q.ok = true) (hw : q.wrong = 0) (s : Nat) : (p.weight s).lo ≤ (q.weight s).lo ∧ (q.weight s).hi ≤ (p.weight s).hi := by
  obtain ⟨T, hT, e⟩ := truth_lo hq hw s
  obtain ⟨U, hU, f⟩ := truth_hi hq hw s
  rw [← e, ← f, hf.n]
  exact ⟨((hf.truth T hT).weight hp s).1, ((hf.truth U hU).weight hp s).2⟩
theorem alike (hf : Finer p q) (s : Nat) : q.alike s = p.alike s := by
  unfold PressD.alike
  simp only [hf.n, hf.line]
theorem sure (hf : Finer p q) (hp : p.ok = true) (hq : q.ok = true) (hw : q.wrong = 0) {s : Nat} (h : p.sure s = true) : q.sure s = true := by
  have h1 := hf.weight hp hq hw s
  have h2 := weight_le hq hw s
  unfold PressD.sure at h ⊢
  rw [Bool.and_eq_true, spanB_iff] at h ⊢
  rw [hf.alike, hf.low, hf.top]
  exact ⟨h.1, by omega⟩
theorem may (hf : Finer p q) (hp : p.ok = true) (hq : q.ok = true) (hw : q.wrong = 0) {s : Nat} (h : q.may s = true) : p.may s = true := by
  have h1 := hf.weight hp hq hw s
  unfold PressD.may at h ⊢
  simp only [Bool.and_eq_true, decide_eq_true_eq, hf.alike, hf.low, hf.top] at h ⊢
  exact ⟨⟨h.1.1, by omega⟩, by omega⟩
theorem fits (hf : Finer p q) (hp : p.ok = true) (hq : q.ok = true) (hw : q.wrong = 0) {s : Nat} (h : p.fits s ≠ 1) : q.fits s = p.fits s := by
  unfold PressD.fits at h ⊢
  cases h1 : p.sure s with
  | true => rw [hf.sure hp hq hw h1, if_pos rfl, if_pos rfl]
  | false =>
    rw [h1] at h
    cases h2 : p.may s with
    | true => rw [h2] at h; exact absurd rfl h
    | false =>
      have h3 : q.may s = false := Bool.eq_false_iff.2 fun e => by rw [hf.may hp hq hw e] at h2; cases h2
      have h4 : q.sure s = false := Bool.eq_false_iff.2 fun e => by
        have h5 := weight_le hq hw s
        unfold PressD.sure at e
        rw [Bool.and_eq_true, spanB_iff] at e
        unfold PressD.may at h3
        rw [e.1, decide_eq_true (by omega), decide_eq_true (by omega)] at h3
        cases h3
      rw [h3, h4]
theorem sets (hf : Finer p q) (hp : p.ok = true) (hq : q.ok = true) (hw : q.wrong = 0) {s : Nat} (h : s ∈ p.sets) : s ∈ q.sets := by
  rw [mem_sets] at h ⊢
  exact ⟨h.1, by rw [hf.n]; exact h.2.1, hf.sure hp hq hw h.2.2⟩
theorem best (hf : Finer p q) (hp : p.ok = true) (hq : q.ok = true) (hw : q.wrong = 0) : pops (plan p.sets (full p.n) p.bales.toNat) ≤ pops (plan q.sets (full q.n) q.bales.toNat) := by
  rw [(plan_fam _ _).2, (plan_fam _ _).2, hf.n, hf.bales]
  exact bestF_sub (fun s hs => hf.sets hp hq hw hs) _ _ _
end Finer
/-- A bale more that was weighed. -/
theorem finer_more (b : Ba) : Finer p (p.more b) where
  n := rfl
  line := fun _ => rfl
  low := rfl
  top := rfl
  bales := rfl
  truth := fun T hT => ⟨hT.1, fun k hk => by
    have := hT.2 k (by rw [more_len]; omega)
    rwa [more_ba b hk, more_bs b hk] at this⟩
/-- A fleece that is known better. -/
def knowB (p : PressD) (j : Nat) (s : Sp) : PressD := { p with fl := (p.fl[j]?).elim p.fl fun f => p.fl.set j { f with w := s } }
theorem know_n (j : Nat) (s : Sp) : (p.knowB j s).n = p.n := by
  unfold knowB n
  cases p.fl[j]? <;> simp
theorem know_fw {j : Nat} (hj : j < p.n) (s : Sp) (i : Nat) : (p.knowB j s).fw i = if i = j then s else p.fw i := by
  unfold knowB fw
  have hj : j < p.fl.length := hj
  have e : p.fl[j]? = some (p.fl[j]'hj) := List.getElem?_eq_getElem hj
  simp only [e, Option.elim_some, List.getElem?_set]
  by_cases h : j = i
  · subst h
    rw [if_pos rfl, if_pos hj, if_pos rfl]; rfl
  · rw [if_neg h, if_neg (fun e => h e.symm)]
theorem know_line {j : Nat} (hj : j < p.n) (s : Sp) (i : Nat) : (p.knowB j s).line i = p.line i := by
  unfold knowB line
  have hj : j < p.fl.length := hj
  have e : p.fl[j]? = some (p.fl[j]'hj) := List.getElem?_eq_getElem hj
  simp only [e, Option.elim_some, List.getElem?_set]
  by_cases h : j = i
  · subst h
    rw [if_pos rfl, if_pos hj, e]; rfl
  · rw [if_neg h]
theorem finer_know {j : Nat} (hj : j < p.n) {s : Sp} (h1 : (p.fw j).lo ≤ s.lo) (h2 : s.hi ≤ (p.fw j).hi) : Finer p (p.knowB j s) where
  n := know_n j s
  line := know_line hj s
  low := rfl
  top := rfl
  bales := rfl
  truth := fun T hT => ⟨fun i hi => by
    have := hT.1 i (by rw [know_n]; exact hi)
    rw [know_fw hj] at this
    by_cases h : i = j
    · subst h; rw [if_pos rfl] at this; omega
    · rwa [if_neg h] at this, fun k hk => by have := hT.2 k hk; rwa [know_n] at this⟩
/-- A press that has other bales to press, or none. -/
def withB (p : PressD) (b : Int) : PressD := { p with bales := b }
theorem withB_used (b : Int) : ∀ k, (p.withB b).used k = p.used k := by
  intro k
  induction k with
  | zero => rfl
  | succ k ih => rw [used, used, ih]; rfl
theorem withB_rest (b : Int) (s : Nat) : ∀ k, (p.withB b).rest s k = p.rest s k := by
  intro k
  induction k with
  | zero => rfl
  | succ k ih => rw [rest, rest, ih]; rfl
theorem withB_wSum (b : Int) (s : Nat) : ∀ k, (p.withB b).wSum s k = p.wSum s k := by
  intro k
  induction k with
  | zero => rfl
  | succ k ih => rw [wSum, wSum, ih]; rfl
theorem withB_weight (b : Int) (s : Nat) : (p.withB b).weight s = p.weight s := by
  unfold weight
  show plusS ((p.withB b).wSum s p.weighed.length) (p.bare ((p.withB b).rest s p.weighed.length)) = _
  rw [withB_wSum, withB_rest]
theorem withB_sets (b : Int) : (p.withB b).sets = p.sets := by
  unfold sets
  show ((List.range (full p.n)).map (· + 1)).filter (p.withB b).sure = _
  congr 1
  funext s
  unfold sure
  rw [withB_weight]; rfl
theorem withB_wrong (b : Int) : ∀ k, (p.withB b).wrongF k = p.wrongF k := by
  intro k
  induction k with
  | zero => rfl
  | succ k ih => rw [wrongF, wrongF, ih]; rfl
/-- A bale more that can be pressed. -/
theorem best_bales {b : Int} (hb : p.bales ≤ b) : pops (plan p.sets (full p.n) p.bales.toNat) ≤ pops (plan (p.withB b).sets (full (p.withB b).n) (p.withB b).bales.toNat) := by
  rw [(plan_fam _ _).2, (plan_fam _ _).2, withB_sets]
  exact bestF_mono (b := p.bales.toNat) (b' := b.toNat) (by omega) _ _
theorem bales_ok (h : p.ok = true) : (p.withB (min 5 (p.bales + 1))).ok = true := by
  have h1 := ok_head h
  have e : ∀ k, (p.withB (min 5 (p.bales + 1))).baB k = p.baB k := fun k => by
    unfold baB setB
    rw [withB_used]; rfl
  simp only [ok, headB, Bool.and_eq_true, inB_iff, decide_eq_true_eq, List.all_eq_true] at h ⊢
  exact ⟨⟨⟨⟨h.1.1.1.1, by show 0 ≤ min 5 (p.bales + 1) ∧ min 5 (p.bales + 1) ≤ 5; omega⟩, h.1.1.2⟩, h.1.2⟩, fun k hk => by rw [e]; exact h.2 k hk⟩
end
end PressD
end Go.Proofs.Ytbfjebglaimcmaa
namespace Go.Proofs.Ytbfjebglaimcmaa
/-! A set whose bits are turned round. -/
def revF (n s : Nat) : Nat → Nat
  | 0 => 0
  | i + 1 => if s.testBit i = true then revF n s i ||| 2 ^ (n - 1 - i) else revF n s i
def rev (n s : Nat) : Nat := revF n s n
theorem tb_revF (n s : Nat) : ∀ k, k ≤ n → ∀ j, (revF n s k).testBit j = (decide (j < n ∧ n - 1 - j < k) && s.testBit (n - 1 - j)) := by
  intro k
  induction k with
  | zero => intro _ j; rw [revF, Nat.zero_testBit, decide_eq_false (by omega), Bool.false_and]
  | succ k ih =>
    intro hk j
    have h1 := ih (by omega) j
    rw [revF]
    by_cases e : n - 1 - j = k ∧ j < n
    · have ej : n - 1 - k = j := by omega
      have hd : decide (j < n ∧ n - 1 - j < k + 1) = true := decide_eq_true (by omega)
      have hd' : decide (j < n ∧ n - 1 - j < k) = false := decide_eq_false (by omega)
      rw [hd', Bool.false_and] at h1
      rw [hd, Bool.true_and, e.1]
      cases hs : s.testBit k
      · rw [if_neg (by simp), h1]
      · rw [if_pos rfl, Nat.testBit_or, h1, ej, Nat.testBit_two_pow_self]; rfl
    · have hd : decide (j < n ∧ n - 1 - j < k + 1) = decide (j < n ∧ n - 1 - j < k) := by
        rw [decide_eq_decide]; omega
      rw [hd, ← h1]
      split
      · rw [Nat.testBit_or, Nat.testBit_two_pow_of_ne (by omega), Bool.or_false]
      · rfl
theorem tb_rev (n s j : Nat) : (rev n s).testBit j = (decide (j < n) && s.testBit (n - 1 - j)) := by
  rw [rev, tb_revF n s n (Nat.le_refl n) j]
  congr 1
  rw [decide_eq_decide]
  omega
theorem rev_lt (n s : Nat) : rev n s < 2 ^ n := by
  refine Nat.lt_pow_two_of_testBit _ fun i hi => ?_
  rw [tb_rev, decide_eq_false (by omega), Bool.false_and]
theorem rev_rev {n s : Nat} (h : s < 2 ^ n) : rev n (rev n s) = s := eq_of_tb (rev_lt _ _) h fun i hi => by
  rw [tb_rev, tb_rev, decide_eq_true hi, decide_eq_true (by omega), Bool.true_and, Bool.true_and]
  congr 1; omega
theorem rev_zero (n : Nat) : rev n 0 = 0 := Nat.eq_of_testBit_eq fun i => by rw [tb_rev, Nat.zero_testBit, Nat.zero_testBit, Bool.and_false]
theorem rev_and (n a b : Nat) : rev n (a &&& b) = rev n a &&& rev n b := Nat.eq_of_testBit_eq fun i => by
  rw [tb_rev, Nat.testBit_and, Nat.testBit_and, tb_rev, tb_rev]
  cases decide (i < n) <;> simp
theorem rev_or (n a b : Nat) : rev n (a ||| b) = rev n a ||| rev n b := Nat.eq_of_testBit_eq fun i => by
  rw [tb_rev, Nat.testBit_or, Nat.testBit_or, tb_rev, tb_rev]
  cases decide (i < n) <;> simp
theorem rev_dif (n a b : Nat) : rev n (dif a b) = dif (rev n a) (rev n b) := Nat.eq_of_testBit_eq fun i => by
  rw [tb_rev, tb_dif, tb_dif, tb_rev, tb_rev]
  cases decide (i < n) <;> simp
theorem rev_pos {n s : Nat} (hs : s < 2 ^ n) (h : 0 < s) : 0 < rev n s := by
  rcases Nat.eq_zero_or_pos (rev n s) with e | e
  · have := rev_rev hs
    rw [e, rev_zero] at this
    omega
  · exact e
/-! Sums, turned round. -/
def smN (c : Nat → Int) : Nat → Int
  | 0 => 0
  | n + 1 => smN c n + c n
theorem smN_front (c : Nat → Int) : ∀ n, smN c (n + 1) = c 0 + smN (fun i => c (i + 1)) n := by
  intro n
  induction n with
  | zero => simp [smN]
  | succ n ih =>
    show smN c (n + 1) + c (n + 1) = c 0 + (smN (fun i => c (i + 1)) n + c (n + 1))
    rw [ih]; omega
theorem smN_congr {c d : Nat → Int} : ∀ n, (∀ i, i < n → c i = d i) → smN c n = smN d n := by
  intro n
  induction n with
  | zero => intro _; rfl
  | succ n ih => intro h; rw [smN, smN, ih (fun i hi => h i (by omega)), h n (by omega)]
theorem smN_rev (c : Nat → Int) : ∀ n, smN (fun i => c (n - 1 - i)) n = smN c n := by
  intro n
  induction n with
  | zero => rfl
  | succ n ih =>
    rw [smN_front]
    show c n + smN (fun i => c (n - (i + 1))) n = smN c n + c n
    rw [smN_congr (d := fun i => c (n - 1 - i)) n (fun i _ => by congr 1; omega), ih]
    omega
theorem sb_smN (f : Nat → Int) (s : Nat) : ∀ n, sb f s n = smN (fun i => if s.testBit i = true then f i else 0) n := by
  intro n
  induction n with
  | zero => rfl
  | succ n ih => rw [sb, smN, ih]
theorem sb_rev (f : Nat → Int) (s n : Nat) : sb f (rev n s) n = sb (fun i => f (n - 1 - i)) s n := by
  rw [sb_smN, sb_smN, ← smN_rev]
  refine smN_congr n fun i hi => ?_
  rw [tb_rev, decide_eq_true (by omega), Bool.true_and, show n - 1 - (n - 1 - i) = i by omega]
theorem sb_more {f : Nat → Int} {s n : Nat} (hs : s < 2 ^ n) : ∀ k, sb f s (n + k) = sb f s n := by
  intro k
  induction k with
  | zero => rfl
  | succ k ih =>
    rw [← Nat.add_assoc, sb, ih, tb_lt hs (by omega), if_neg (by simp)]
    omega
theorem pop_rev {n s : Nat} (hn : n ≤ 10) (hs : s < 2 ^ n) : pop (rev n s) 10 = pop s 10 := by
  obtain ⟨k, hk⟩ : ∃ k, n + k = 10 := ⟨10 - n, by omega⟩
  unfold pop
  rw [← hk, sb_more (rev_lt n s), sb_more hs, sb_rev]
namespace PressD
section
variable {p : PressD}
def turnBa (n : Nat) (b : Ba) : Ba := ⟨(rev n b.set.toNat : Nat), b.w⟩
/-- The press whose fleeces are numbered the other way round. -/
def turnP (p : PressD) : PressD := { p with fl := p.fl.reverse, weighed := p.weighed.map (turnBa p.n) }
theorem turn_n : p.turnP.n = p.n := by simp [turnP, n]
theorem turn_len : p.turnP.weighed.length = p.weighed.length := by simp [turnP]
theorem turn_at {i : Nat} (hi : i < p.n) : p.turnP.fl[i]? = p.fl[p.n - 1 - i]? := List.getElem?_reverse hi
theorem turn_fw {i : Nat} (hi : i < p.n) : p.turnP.fw i = p.fw (p.n - 1 - i) := by unfold fw; rw [turn_at hi]
theorem turn_line {i : Nat} (hi : i < p.n) : p.turnP.line i = p.line (p.n - 1 - i) := by unfold line; rw [turn_at hi]
theorem turn_ba (k : Nat) : p.turnP.ba k = turnBa p.n (p.ba k) := by
  unfold ba turnP
  simp only [List.getElem?_map]
  cases p.weighed[k]? with
  | none => simp [turnBa, rev_zero]
  | some b => rfl
theorem turn_bs (k : Nat) : p.turnP.bs k = rev p.n (p.bs k) := by rw [bs, turn_ba]; rfl
theorem turn_w (k : Nat) : (p.turnP.ba k).w = (p.ba k).w := by rw [turn_ba]; rfl
theorem turn_bare (s : Nat) : p.turnP.bare (rev p.n s) = p.bare s := by
  have e : ∀ f g : Nat → Int, (∀ i, i < p.n → f i = g (p.n - 1 - i)) → sb f (rev p.n s) p.n = sb g s p.n := fun f g h => by
    rw [sb_rev]
    exact sb_congr _ fun i hi => ⟨rfl, fun _ => by rw [h _ (by omega), show p.n - 1 - (p.n - 1 - i) = i by omega]⟩
  unfold PressD.bare
  rw [turn_n, e _ (fun i => (p.fw i).lo) (fun i hi => by rw [turn_fw hi]), e _ (fun i => (p.fw i).hi) (fun i hi => by rw [turn_fw hi])]
theorem turn_rest (s : Nat) : ∀ k, p.turnP.rest (rev p.n s) k = rev p.n (p.rest s k) := by
  intro k
  induction k with
  | zero => rfl
  | succ k ih => rw [rest, rest, ih, turn_bs, rev_dif]
theorem turn_used : ∀ k, p.turnP.used k = rev p.n (p.used k) := by
  intro k
  induction k with
  | zero => exact (rev_zero _).symm
  | succ k ih => rw [used, used, ih, turn_bs, rev_or]
theorem turn_part (s k : Nat) : p.turnP.part (rev p.n s) k = p.part s k := by
  unfold PressD.part
  rw [turn_bs, turn_w, ← rev_and, ← rev_dif, turn_bare, turn_bare]
theorem turn_wSum (s : Nat) : ∀ k, p.turnP.wSum (rev p.n s) k = p.wSum s k := by
  intro k
  induction k with
  | zero => rfl
  | succ k ih => rw [wSum, wSum, ih, turn_part]
theorem turn_weight (s : Nat) : p.turnP.weight (rev p.n s) = p.weight s := by
  unfold PressD.weight
  rw [turn_len, turn_wSum, turn_rest, turn_bare]
theorem turn_wrongB (k : Nat) : p.turnP.wrongB k = p.wrongB k := by
  unfold wrongB
  rw [turn_bs, turn_w, turn_bare]
theorem turn_wrong : p.turnP.wrong = p.wrong := by
  have e : ∀ k, p.turnP.wrongF k = p.wrongF k := fun k => by
    induction k with
    | zero => rfl
    | succ k ih => rw [wrongF, wrongF, ih, turn_wrongB]
  rw [PressD.wrong, PressD.wrong, turn_len, e]
theorem turn_alike (s : Nat) : p.turnP.alike (rev p.n s) = p.alike s := by
  rw [Bool.eq_iff_iff]
  unfold PressD.alike
  rw [turn_n]
  simp only [Bool.and_eq_true, List.any_eq_true, List.all_eq_true, List.mem_range, Bool.or_eq_true, Bool.not_eq_true', decide_eq_true_eq]
  have tb : ∀ i, i < p.n → (rev p.n s).testBit i = s.testBit (p.n - 1 - i) := fun i hi => by rw [tb_rev, decide_eq_true hi, Bool.true_and]
  have rr : ∀ i, i < p.n → p.n - 1 - (p.n - 1 - i) = i := fun i hi => by omega
  have rl : ∀ i, i < p.n → p.n - 1 - i < p.n := fun i hi => by omega
  constructor
  · rintro ⟨⟨i, hi, hb⟩, h⟩
    refine ⟨⟨p.n - 1 - i, rl i hi, by rw [← tb i hi]; exact hb⟩, fun x hx y hy => ?_⟩
    have := h _ (rl x hx) _ (rl y hy)
    rwa [tb _ (rl x hx), tb _ (rl y hy), turn_line (rl x hx), turn_line (rl y hy), rr x hx, rr y hy] at this
  · rintro ⟨⟨i, hi, hb⟩, h⟩
    refine ⟨⟨p.n - 1 - i, rl i hi, by rw [tb _ (rl i hi), rr i hi]; exact hb⟩, fun x hx y hy => ?_⟩
    have := h _ (rl x hx) _ (rl y hy)
    rwa [← tb x hx, ← tb y hy, ← turn_line hx, ← turn_line hy] at this
theorem turn_sure (s : Nat) : p.turnP.sure (rev p.n s) = p.sure s := by
  unfold PressD.sure
  rw [turn_alike, turn_weight]; rfl
theorem turn_ok (h : p.ok = true) : p.turnP.ok = true := by
  have h0 := h
  simp only [ok, headB, Bool.and_eq_true, inB_iff, decide_eq_true_eq, List.all_eq_true, List.mem_range] at h ⊢
  refine ⟨⟨⟨⟨⟨⟨?_, h.1.1.1.1.1.2⟩, h.1.1.1.1.2⟩, h.1.1.1.2⟩, ?_⟩, fun f hf => h.1.2 f (List.mem_reverse.1 hf)⟩, fun k hk => ?_⟩
  · have : p.turnP.fl.length = p.fl.length := turn_n
    rw [this]; exact h.1.1.1.1.1.1
  · rw [turn_len]; exact h.1.1.2
  · rw [turn_len] at hk
    obtain ⟨e1, e2, e3, e4, e5⟩ := ok_ba h0 hk
    have b1 : (p.turnP.ba k).set = (rev p.n (p.bs k) : Nat) := by rw [turn_ba]; rfl
    have b2 : 0 < rev p.n (p.bs k) := rev_pos e2 e3
    have b3 : rev p.n (p.bs k) ≤ full p.n := le_full.2 (rev_lt _ _)
    simp only [baB, setB, Bool.and_eq_true, spanB_iff, inB_iff, decide_eq_true_eq, beq_iff_eq]
    rw [b1, turn_n, turn_w, turn_used, turn_bs, ← rev_and, e4, rev_zero]
    exact ⟨⟨⟨⟨by omega, by omega⟩, by omega⟩, rfl⟩, by omega⟩
theorem plan_max (hb : 0 ≤ p.bales) {L : List Nat} (hL : Pressing p L) : pops L ≤ pops (plan p.sets (full p.n) p.bales.toNat) ∧ (pops L = pops (plan p.sets (full p.n) p.bales.toNat) → (plan p.sets (full p.n) p.bales.toNat).length ≤ L.length) := by
  obtain ⟨M, h1, h2, h3⟩ := Fam.of_any (l := p.sets) (f := full p.n) (b := p.bales.toNat) (L := L) (by have := hL.len; omega)
    (fun s hs => ⟨(mem_sets p s).2 ⟨sure_pos (hL.sure s hs).2, hL.sure s hs⟩, sure_pos (hL.sure s hs).2, sub_full (hL.sure s hs).1⟩) hL.disj
  have h4 := plan_best h1
  rw [(plan_fam _ _).2, plan_length, ← h2, ← h3]
  exact h4
theorem pops_map {L : List Nat} {g : Nat → Nat} (h : ∀ s ∈ L, pop (g s) 10 = pop s 10) : pops (L.map g) = pops L := by
  unfold pops
  rw [List.map_map]
  congr 1
  exact List.map_congr_left h
theorem pressing_turn (h10 : p.n ≤ 10) {L : List Nat} (hL : Pressing p L) : Pressing p.turnP (L.map (rev p.n)) ∧ pops (L.map (rev p.n)) = pops L :=
  ⟨⟨by rw [List.length_map]; exact hL.len, fun s hs => by
      obtain ⟨t, ht, rfl⟩ := List.mem_map.1 hs
      rw [turn_n, turn_sure]
      exact ⟨rev_lt _ _, (hL.sure t ht).2⟩, List.pairwise_map.2 (hL.disj.imp fun e => by rw [← rev_and, e, rev_zero])⟩,
    pops_map fun s hs => pop_rev h10 (hL.sure s hs).1⟩
theorem pressing_back (h10 : p.n ≤ 10) {L : List Nat} (hL : Pressing p.turnP L) : Pressing p (L.map (rev p.n)) ∧ pops (L.map (rev p.n)) = pops L :=
  ⟨⟨by rw [List.length_map]; exact hL.len, fun s hs => by
      obtain ⟨t, ht, rfl⟩ := List.mem_map.1 hs
      have h1 := hL.sure t ht
      rw [turn_n] at h1
      refine ⟨rev_lt _ _, ?_⟩
      rw [← turn_sure, rev_rev h1.1]
      exact h1.2, List.pairwise_map.2 (hL.disj.imp fun e => by rw [← rev_and, e, rev_zero])⟩,
    pops_map fun s hs => pop_rev h10 (by have := (hL.sure s hs).1; rwa [turn_n] at this)⟩
theorem turn_plan (h10 : p.n ≤ 10) (hb : 0 ≤ p.bales) : pops (plan p.turnP.sets (full p.turnP.n) p.turnP.bales.toNat) = pops (plan p.sets (full p.n) p.bales.toNat) ∧
    (plan p.turnP.sets (full p.turnP.n) p.turnP.bales.toNat).length = (plan p.sets (full p.n) p.bales.toNat).length := by
  have hb' : 0 ≤ p.turnP.bales := hb
  have a1 := (plan_pressing (p := p) hb).1
  have a2 := (plan_pressing (p := p.turnP) hb').1
  obtain ⟨c1, d1⟩ := pressing_turn h10 a1
  obtain ⟨c2, d2⟩ := pressing_back h10 a2
  obtain ⟨e1, f1⟩ := plan_max hb' c1
  obtain ⟨e2, f2⟩ := plan_max hb c2
  rw [d1] at e1 f1
  rw [d2] at e2 f2
  have e := Int.le_antisymm e2 e1
  refine ⟨e, ?_⟩
  have g1 := f1 e.symm
  have g2 := f2 e
  rw [List.length_map] at g1 g2
  omega
end
end PressD
end Go.Proofs.Ytbfjebglaimcmaa
