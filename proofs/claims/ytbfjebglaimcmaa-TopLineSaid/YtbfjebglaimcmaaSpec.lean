/- The plain numbers behind a press: sets of bits, sums over them, spans of weights; nothing of the program; no condition. Plain laws of a press that is valid: bounds, disjoint bales, parts of a set, what a truth weighs; nothing of the program. -/
import GoSem.Claim
namespace Go.Proofs.Ytbfjebglaimcmaa
structure Sp where
  lo : Int
  hi : Int
structure Fl where
  w : Sp
  line : Int
structure Ba where
  set : Int
  w : Sp
structure PressD where
  fl : List Fl
  low : Int
  top : Int
  bales : Int
  weighed : List Ba

def inB (n lo hi : Int) : Bool := decide (lo ≤ n) && decide (n ≤ hi)
theorem inB_iff {n lo hi : Int} : inB n lo hi = true ↔ lo ≤ n ∧ n ≤ hi := by simp [inB]
def spanB (s : Sp) (low high : Int) : Bool := decide (low ≤ s.lo) && decide (s.lo ≤ s.hi) && decide (s.hi ≤ high)
theorem spanB_iff {s : Sp} {l h : Int} : spanB s l h = true ↔ l ≤ s.lo ∧ s.lo ≤ s.hi ∧ s.hi ≤ h := by simp [spanB, and_assoc]

/-! Sets as numbers. -/
def dif (a b : Nat) : Nat := a ^^^ (a &&& b)
theorem tb_dif (a b i : Nat) : (dif a b).testBit i = (a.testBit i && !b.testBit i) := by
  unfold dif; rw [Nat.testBit_xor, Nat.testBit_and]; cases a.testBit i <;> cases b.testBit i <;> rfl
theorem dif_le (a b : Nat) : dif a b ≤ a := by
  refine Nat.le_of_testBit ?_
  intro i h
  rw [tb_dif] at h
  revert h
  cases a.testBit i <;> simp
theorem dif_lt {a b n : Nat} (h : a < 2 ^ n) : dif a b < 2 ^ n := Nat.lt_of_le_of_lt (dif_le a b) h
theorem tb_lt {a n i : Nat} (h : a < 2 ^ n) (hi : n ≤ i) : a.testBit i = false :=
  Nat.testBit_lt_two_pow (Nat.lt_of_lt_of_le h (Nat.pow_le_pow_right (by omega) hi))
theorem eq_of_tb {a b n : Nat} (ha : a < 2 ^ n) (hb : b < 2 ^ n) (h : ∀ i, i < n → a.testBit i = b.testBit i) : a = b := by
  refine Nat.eq_of_testBit_eq fun i => ?_
  rcases Nat.lt_or_ge i n with hi | hi
  · exact h i hi
  · rw [tb_lt ha hi, tb_lt hb hi]
theorem and_zero_iff {a b : Nat} : a &&& b = 0 ↔ ∀ i, ¬ (a.testBit i = true ∧ b.testBit i = true) := by
  constructor
  · intro h i ⟨h1, h2⟩
    have : (a &&& b).testBit i = true := by rw [Nat.testBit_and, h1, h2]; rfl
    rw [h] at this
    simp at this
  · intro h
    refine Nat.eq_of_testBit_eq fun i => ?_
    rw [Nat.testBit_and, Nat.zero_testBit]
    have := h i
    cases h1 : a.testBit i <;> cases h2 : b.testBit i <;> simp_all
/-- All of the first n. -/
def full (n : Nat) : Nat := 2 ^ n - 1
theorem tb_full (n i : Nat) : (full n).testBit i = decide (i < n) := by unfold full; rw [Nat.testBit_two_pow_sub_one]
theorem full_lt (n : Nat) : full n < 2 ^ n := by have := Nat.two_pow_pos n; unfold full; omega
theorem le_full {a n : Nat} : a ≤ full n ↔ a < 2 ^ n := by have := Nat.two_pow_pos n; unfold full; omega

/-! Sums over a set. -/
def sb (f : Nat → Int) (s : Nat) : Nat → Int
  | 0 => 0
  | n + 1 => sb f s n + if s.testBit n = true then f n else 0
theorem sb_congr {f g : Nat → Int} {s t : Nat} : ∀ n, (∀ i, i < n → s.testBit i = t.testBit i ∧ (s.testBit i = true → f i = g i)) → sb f s n = sb g t n := by
  intro n
  induction n with
  | zero => intro _; rfl
  | succ n ih =>
    intro h
    obtain ⟨h1, h2⟩ := h n (by omega)
    rw [sb, sb, ih (fun i hi => h i (by omega)), ← h1]
    split
    · rename_i h3; rw [h2 h3]
    · rfl
theorem sb_zero (f : Nat → Int) : ∀ n, sb f 0 n = 0 := by
  intro n
  induction n with
  | zero => rfl
  | succ n ih => rw [sb, ih]; simp
theorem sb_le {f g : Nat → Int} {s : Nat} : ∀ n, (∀ i, i < n → s.testBit i = true → f i ≤ g i) → sb f s n ≤ sb g s n := by
  intro n
  induction n with
  | zero => intro _; exact Int.le_refl _
  | succ n ih =>
    intro h
    have h1 := ih (fun i hi => h i (by omega))
    rw [sb, sb]
    split
    · rename_i h3; have := h n (by omega) h3; omega
    · omega
/-- A set, cut by another one. -/
theorem sb_cut (f : Nat → Int) (s t : Nat) : ∀ n, sb f s n = sb f (s &&& t) n + sb f (dif s t) n := by
  intro n
  induction n with
  | zero => rfl
  | succ n ih =>
    rw [sb, sb, sb, ih, Nat.testBit_and, tb_dif]
    cases s.testBit n <;> cases t.testBit n <;> simp <;> omega
theorem sb_or (f : Nat → Int) (s t : Nat) (h : s &&& t = 0) (n : Nat) : sb f (s ||| t) n = sb f s n + sb f t n := by
  induction n with
  | zero => rfl
  | succ n ih =>
    have := (and_zero_iff.1 h) n
    rw [sb, sb, sb, ih, Nat.testBit_or]
    cases h1 : s.testBit n <;> cases h2 : t.testBit n <;> simp_all <;> omega
theorem sb_bd {f : Nat → Int} {s : Nat} {l h : Int} (hl : l ≤ 0) (hh : 0 ≤ h) : ∀ n, (∀ i, i < n → s.testBit i = true → l ≤ f i ∧ f i ≤ h) → n * l ≤ sb f s n ∧ sb f s n ≤ n * h := by
  intro n
  induction n with
  | zero => intro _; simp [sb]
  | succ n ih =>
    intro hf
    have h1 := ih (fun i hi => hf i (by omega))
    rw [sb]
    have e1 : ((n + 1 : Nat) : Int) * l = n * l + l := by rw [Int.natCast_add, Int.add_mul]; simp
    have e2 : ((n + 1 : Nat) : Int) * h = n * h + h := by rw [Int.natCast_add, Int.add_mul]; simp
    rw [e1, e2]
    split
    · rename_i h3; have := hf n (by omega) h3; omega
    · omega
/-- How many of the first n are in a set. -/
def pop (s n : Nat) : Int := sb (fun _ => 1) s n
theorem pop_bd (s n : Nat) : 0 ≤ pop s n ∧ pop s n ≤ n := by
  have := sb_bd (f := fun _ => 1) (s := s) (l := 0) (h := 1) (by omega) (by omega) n (fun _ _ _ => by omega)
  unfold pop; omega
theorem pop_pos {s n : Nat} : ∀ {i}, i < n → s.testBit i = true → 1 ≤ pop s n := by
  induction n with
  | zero => intro i hi; omega
  | succ n ih =>
    intro i hi hb
    have h0 := (pop_bd s n).1
    have e : pop s (n + 1) = pop s n + if s.testBit n = true then 1 else 0 := rfl
    rw [e]
    by_cases h : i = n
    · subst h; rw [if_pos hb]; omega
    · have := ih (by omega) hb
      split <;> omega

/-! Spans. -/
def plusS (a b : Sp) : Sp := ⟨a.lo + b.lo, a.hi + b.hi⟩
def knownS (a o both : Sp) : Sp := ⟨max a.lo (both.lo - o.hi), min a.hi (both.hi - o.lo)⟩
/-- Numbers that are far from where a sum wraps. -/
def midS (m : Int) (s : Sp) : Prop := -m ≤ s.lo ∧ s.lo ≤ m ∧ -m ≤ s.hi ∧ s.hi ≤ m
def sumK (l : List Sp) : Nat → Sp
  | 0 => ⟨0, 0⟩
  | k + 1 => plusS (sumK l k) ((l[k]?).getD ⟨0, 0⟩)
theorem midS_plus {a b : Sp} {m n : Int} (ha : midS m a) (hb : midS n b) : midS (m + n) (plusS a b) := by
  obtain ⟨x0, x1, x2, x3⟩ := ha
  obtain ⟨y0, y1, y2, y3⟩ := hb
  exact ⟨by simp only [plusS]; omega, by simp only [plusS]; omega, by simp only [plusS]; omega, by simp only [plusS]; omega⟩
theorem sumK_app (l m : List Sp) : ∀ k, k ≤ l.length → sumK (l ++ m) k = sumK l k := by
  intro k
  induction k with
  | zero => intro _; rfl
  | succ k ih => intro hk; rw [sumK, sumK, ih (by omega), List.getElem?_append_left (by omega)]
theorem sumK_snoc (l : List Sp) (x : Sp) : sumK (l ++ [x]) (l ++ [x]).length = plusS (sumK l l.length) x := by
  rw [List.length_append, List.length_singleton, sumK, sumK_app l [x] _ (Nat.le_refl _)]
  simp

/-! A press. -/
namespace PressD
def n (p : PressD) : Nat := p.fl.length
def fw (p : PressD) (i : Nat) : Sp := ((p.fl[i]?).map Fl.w).getD ⟨0, 0⟩
def line (p : PressD) (i : Nat) : Int := ((p.fl[i]?).map Fl.line).getD 0
/-- How heavy the fleeces of a set are by themselves. -/
def bare (p : PressD) (s : Nat) : Sp := ⟨sb (fun i => (p.fw i).lo) s p.n, sb (fun i => (p.fw i).hi) s p.n⟩
def ba (p : PressD) (k : Nat) : Ba := (p.weighed[k]?).getD ⟨0, ⟨0, 0⟩⟩
/-- The set of the k-th bale that was weighed. -/
def bs (p : PressD) (k : Nat) : Nat := (p.ba k).set.toNat
/-- All that the first k bales have. -/
def used (p : PressD) : Nat → Nat
  | 0 => 0
  | k + 1 => p.used k ||| p.bs k
def flB (f : Fl) : Bool := spanB f.w 1 20 && decide (f.w.hi - f.w.lo ≤ 3) && inB f.line 0 2
def setB (p : PressD) (n : Int) : Bool := inB n 0 (full p.n)
def baB (p : PressD) (k : Nat) : Bool := p.setB (p.ba k).set && decide (0 < (p.ba k).set) && (p.used k &&& p.bs k == 0) && spanB (p.ba k).w 1 200
def headB (p : PressD) : Bool := decide (p.fl.length ≤ 10) && inB p.low 1 200 && inB p.top p.low 200 && inB p.bales 0 5 && decide (p.weighed.length ≤ 4)
/-- Is the press valid? -/
def ok (p : PressD) : Bool := p.headB && p.fl.all flB && (List.range p.weighed.length).all p.baB
/-- What is left of a set behind the first k bales. -/
def rest (p : PressD) (s : Nat) : Nat → Nat
  | 0 => s
  | k + 1 => dif (p.rest s k) (p.bs k)
def part (p : PressD) (s k : Nat) : Sp := knownS (p.bare (s &&& p.bs k)) (p.bare (dif (p.bs k) s)) (p.ba k).w
def wSum (p : PressD) (s : Nat) : Nat → Sp
  | 0 => ⟨0, 0⟩
  | k + 1 => plusS (p.wSum s k) (p.part s k)
/-- How heavy the fleeces of a set are. -/
def weight (p : PressD) (s : Nat) : Sp := plusS (p.wSum s p.weighed.length) (p.bare (p.rest s p.weighed.length))
/-- Are all of a set of one line, and is there any? -/
def alike (p : PressD) (s : Nat) : Bool := (List.range p.n).any (fun i => s.testBit i) && (List.range p.n).all fun i => (List.range p.n).all fun j => !s.testBit i || !s.testBit j || decide (p.line i = p.line j)
def sure (p : PressD) (s : Nat) : Bool := p.alike s && spanB (p.weight s) p.low p.top
def may (p : PressD) (s : Nat) : Bool := p.alike s && decide (p.low ≤ (p.weight s).hi) && decide ((p.weight s).lo ≤ p.top)
def wrongB (p : PressD) (k : Nat) : Bool := decide ((knownS (p.bare (p.bs k)) ⟨0, 0⟩ (p.ba k).w).hi < (knownS (p.bare (p.bs k)) ⟨0, 0⟩ (p.ba k).w).lo)
/-- The set of the first k bales that were weighed wrongly. -/
def wrongF (p : PressD) : Nat → Nat
  | 0 => 0
  | k + 1 => if p.wrongB k = true then p.wrongF k ||| 2 ^ k else p.wrongF k
def wrong (p : PressD) : Nat := p.wrongF p.weighed.length
def fits (p : PressD) (s : Nat) : Int := if p.sure s = true then 2 else if p.may s = true then 1 else 0
/-- All sets that always fit. -/
def sets (p : PressD) : List Nat := ((List.range (full p.n)).map (· + 1)).filter p.sure
end PressD
/-! Of some sets the most fleeces that can be pressed. -/
def sub (s f : Nat) : Bool := dif s f == 0
def bestF (l : List Nat) : Nat → Nat → Nat → Int
  | 0, _, _ => 0
  | b + 1, f, h => (l.map fun s => if decide (h < s) && sub s f then pop s 10 + bestF l b (dif f s) s else 0).foldl max 0
end Go.Proofs.Ytbfjebglaimcmaa
namespace Go.Proofs.Ytbfjebglaimcmaa
namespace PressD
section
variable {p : PressD}
theorem ok_head (h : p.ok = true) : p.n ≤ 10 ∧ 1 ≤ p.low ∧ p.low ≤ p.top ∧ p.top ≤ 200 ∧ 0 ≤ p.bales ∧ p.bales ≤ 5 ∧ p.weighed.length ≤ 4 := by
  simp only [ok, headB, Bool.and_eq_true, inB_iff, decide_eq_true_eq] at h
  unfold n
  omega
theorem n_pow (h : p.ok = true) : 2 ^ p.n ≤ 1024 := by
  have := Nat.pow_le_pow_right (n := 2) (by omega) (ok_head h).1
  omega
theorem n_pos (p : PressD) : 1 ≤ 2 ^ p.n := Nat.two_pow_pos _
theorem ok_fl (h : p.ok = true) {i : Nat} (hi : i < p.n) : 1 ≤ (p.fw i).lo ∧ (p.fw i).lo ≤ (p.fw i).hi ∧ (p.fw i).hi ≤ 20 ∧ (p.fw i).hi - (p.fw i).lo ≤ 3 ∧ 0 ≤ p.line i ∧ p.line i ≤ 2 := by
  simp only [ok, Bool.and_eq_true, List.all_eq_true] at h
  obtain ⟨f, hf⟩ : ∃ f, p.fl[i]? = some f := ⟨p.fl[i]'hi, List.getElem?_eq_getElem hi⟩
  have h1 := h.1.2 f (List.mem_of_getElem? hf)
  simp only [flB, Bool.and_eq_true, spanB_iff, inB_iff, decide_eq_true_eq] at h1
  simp only [fw, line, hf, Option.map_some, Option.getD_some]
  omega
theorem ok_ba (h : p.ok = true) {k : Nat} (hk : k < p.weighed.length) : (p.ba k).set = (p.bs k : Int) ∧ p.bs k < 2 ^ p.n ∧ 0 < p.bs k ∧ p.used k &&& p.bs k = 0 ∧ 1 ≤ (p.ba k).w.lo ∧ (p.ba k).w.lo ≤ (p.ba k).w.hi ∧ (p.ba k).w.hi ≤ 200 := by
  simp only [ok, Bool.and_eq_true, List.all_eq_true, List.mem_range] at h
  have h1 := h.2 k hk
  simp only [baB, setB, Bool.and_eq_true, spanB_iff, inB_iff, decide_eq_true_eq, beq_iff_eq] at h1
  obtain ⟨⟨⟨⟨a, b⟩, c⟩, d⟩, e⟩ := h1
  have hp := n_pos p
  have e0 : (p.ba k).set = (p.bs k : Int) := by unfold bs; omega
  refine ⟨e0, ?_, by omega, d, by omega⟩
  have : p.bs k ≤ full p.n := by omega
  exact le_full.1 this
theorem used_lt (h : p.ok = true) : ∀ {k}, k ≤ p.weighed.length → p.used k < 2 ^ p.n := by
  intro k
  induction k with
  | zero => intro _; exact n_pos p
  | succ k ih => intro hk; exact Nat.or_lt_two_pow (ih (by omega)) (ok_ba h hk).2.1
theorem tb_rest (s : Nat) : ∀ k i, (p.rest s k).testBit i = (s.testBit i && !(p.used k).testBit i) := by
  intro k
  induction k with
  | zero => intro i; simp [rest, used]
  | succ k ih =>
    intro i
    rw [rest, tb_dif, ih, used, Nat.testBit_or]
    cases s.testBit i <;> cases (p.used k).testBit i <;> cases (p.bs k).testBit i <;> rfl
theorem rest_lt {s : Nat} (hs : s < 2 ^ p.n) : ∀ k, p.rest s k < 2 ^ p.n := by
  intro k
  induction k with
  | zero => exact hs
  | succ k ih => exact dif_lt ih
theorem rest_and (h : p.ok = true) (s : Nat) {k : Nat} (hk : k < p.weighed.length) : p.rest s k &&& p.bs k = s &&& p.bs k := by
  refine Nat.eq_of_testBit_eq fun i => ?_
  have := and_zero_iff.1 (ok_ba h hk).2.2.2.1 i
  rw [Nat.testBit_and, Nat.testBit_and, tb_rest]
  cases h1 : s.testBit i <;> cases h2 : (p.used k).testBit i <;> cases h3 : (p.bs k).testBit i <;> simp_all
theorem rest_dif (h : p.ok = true) (s : Nat) {k : Nat} (hk : k < p.weighed.length) : dif (p.bs k) (p.rest s k) = dif (p.bs k) s := by
  refine Nat.eq_of_testBit_eq fun i => ?_
  have := and_zero_iff.1 (ok_ba h hk).2.2.2.1 i
  rw [tb_dif, tb_dif, tb_rest]
  cases h1 : s.testBit i <;> cases h2 : (p.used k).testBit i <;> cases h3 : (p.bs k).testBit i <;> simp_all
theorem bare_bd (h : p.ok = true) (s : Nat) : 0 ≤ (p.bare s).lo ∧ (p.bare s).lo ≤ (p.bare s).hi ∧ (p.bare s).hi ≤ 200 := by
  have hn := (ok_head h).1
  have h1 := sb_bd (f := fun i => (p.fw i).lo) (s := s) (l := 0) (h := 20) (by omega) (by omega) p.n (fun i hi _ => by have := ok_fl h hi; omega)
  have h2 := sb_bd (f := fun i => (p.fw i).hi) (s := s) (l := 0) (h := 20) (by omega) (by omega) p.n (fun i hi _ => by have := ok_fl h hi; omega)
  have h3 := sb_le (f := fun i => (p.fw i).lo) (g := fun i => (p.fw i).hi) (s := s) p.n (fun i hi _ => (ok_fl h hi).2.1)
  simp only [bare]
  omega
theorem bare_cut (s t : Nat) : (p.bare s).lo = (p.bare (s &&& t)).lo + (p.bare (dif s t)).lo ∧ (p.bare s).hi = (p.bare (s &&& t)).hi + (p.bare (dif s t)).hi := ⟨sb_cut _ _ _ _, sb_cut _ _ _ _⟩
theorem part_bd (h : p.ok = true) (s : Nat) {k : Nat} (hk : k < p.weighed.length) : midS 400 (p.part s k) := by
  have h1 := bare_bd h (s &&& p.bs k)
  have h2 := bare_bd h (dif (p.bs k) s)
  have h3 := ok_ba h hk
  simp only [midS, part, knownS]
  omega
theorem wSum_bd (h : p.ok = true) (s : Nat) : ∀ {k}, k ≤ p.weighed.length → midS (400 * k) (p.wSum s k) := by
  intro k
  induction k with
  | zero => intro _; simp [wSum, midS]
  | succ k ih =>
    intro hk
    have h1 := ih (by omega)
    have h2 := part_bd h s hk
    rw [show (400 : Int) * ((k + 1 : Nat) : Int) = 400 * k + 400 by omega]
    exact midS_plus h1 h2
theorem weight_bd (h : p.ok = true) (s : Nat) : midS 2000 (p.weight s) := by
  have h1 := wSum_bd h s (Nat.le_refl _)
  have h2 := bare_bd h (p.rest s p.weighed.length)
  have h3 := (ok_head h).2.2.2.2.2.2
  simp only [weight, plusS, midS] at *
  omega
/-! No bale is wrong. -/
theorem tb_wrongF (p : PressD) : ∀ k i, (p.wrongF k).testBit i = (decide (i < k) && p.wrongB i) := by
  intro k
  induction k with
  | zero => intro i; simp [wrongF]
  | succ k ih =>
    intro i
    rw [wrongF]
    split
    · rename_i h
      rw [Nat.testBit_or, ih, Nat.testBit_two_pow]
      by_cases e : k = i
      · subst e; simp [h]
      · by_cases h2 : i < k
        · simp [h2, e, show i < k + 1 by omega]
        · simp [h2, e, show ¬ i < k + 1 by omega]
    · rename_i h
      rw [ih]
      by_cases e : i = k
      · subst e; simp_all
      · by_cases h2 : i < k
        · simp [h2, show i < k + 1 by omega]
        · simp [h2, show ¬ i < k + 1 by omega]
theorem wrongF_lt (p : PressD) (k : Nat) : p.wrongF k < 2 ^ k := by
  refine Nat.lt_pow_two_of_testBit _ fun i hi => ?_
  rw [tb_wrongF]
  simp [show ¬ i < k by omega]
theorem wrong_iff (p : PressD) : p.wrong = 0 ↔ ∀ k, k < p.weighed.length → p.wrongB k = false := by
  constructor
  · intro h k hk
    have h1 := tb_wrongF p p.weighed.length k
    rw [show p.wrongF p.weighed.length = 0 from h] at h1
    simpa [hk] using h1.symm
  · intro h
    refine Nat.eq_of_testBit_eq fun i => ?_
    rw [wrong, tb_wrongF, Nat.zero_testBit]
    by_cases hi : i < p.weighed.length
    · simp [hi, h i hi]
    · simp [hi]
theorem right_iff (h : p.ok = true) {k : Nat} (hk : k < p.weighed.length) : p.wrongB k = false ↔ (p.bare (p.bs k)).lo ≤ (p.ba k).w.hi ∧ (p.ba k).w.lo ≤ (p.bare (p.bs k)).hi := by
  have h1 := bare_bd h (p.bs k)
  have h3 := ok_ba h hk
  unfold wrongB knownS
  rw [decide_eq_false_iff_not]
  simp only
  omega
theorem part_le (h : p.ok = true) (s : Nat) {k : Nat} (hk : k < p.weighed.length) (hw : p.wrongB k = false) : (p.part s k).lo ≤ (p.part s k).hi := by
  have h1 := bare_bd h (s &&& p.bs k)
  have h2 := bare_bd h (dif (p.bs k) s)
  have h3 := ok_ba h hk
  have h4 := (right_iff h hk).1 hw
  have h5 := bare_cut (p := p) (p.bs k) s
  rw [Nat.and_comm] at h5
  simp only [part, knownS]
  omega
theorem wSum_le (h : p.ok = true) (hw : p.wrong = 0) (s : Nat) : ∀ {k}, k ≤ p.weighed.length → (p.wSum s k).lo ≤ (p.wSum s k).hi := by
  intro k
  induction k with
  | zero => intro _; simp [wSum]
  | succ k ih =>
    intro hk
    have h1 := ih (by omega)
    have h2 := part_le h s hk ((wrong_iff p).1 hw k hk)
    simp only [wSum, plusS]
    omega
theorem weight_le (h : p.ok = true) (hw : p.wrong = 0) (s : Nat) : (p.weight s).lo ≤ (p.weight s).hi := by
  have h1 := wSum_le h hw s (Nat.le_refl _)
  have h2 := bare_bd h (p.rest s p.weighed.length)
  simp only [weight, plusS]
  omega
/-! A truth. -/
/-- How heavy each fleece truly is. -/
def Truth (p : PressD) (t : Nat → Int) : Prop := (∀ i, i < p.n → (p.fw i).lo ≤ t i ∧ t i ≤ (p.fw i).hi) ∧ ∀ k, k < p.weighed.length → (p.ba k).w.lo ≤ sb t (p.bs k) p.n ∧ sb t (p.bs k) p.n ≤ (p.ba k).w.hi
theorem Truth.bare {t : Nat → Int} (ht : p.Truth t) (s : Nat) : (p.bare s).lo ≤ sb t s p.n ∧ sb t s p.n ≤ (p.bare s).hi :=
  ⟨sb_le _ fun i hi _ => (ht.1 i hi).1, sb_le _ fun i hi _ => (ht.1 i hi).2⟩
theorem Truth.part {t : Nat → Int} (ht : p.Truth t) (s : Nat) {k : Nat} (hk : k < p.weighed.length) : (p.part s k).lo ≤ sb t (s &&& p.bs k) p.n ∧ sb t (s &&& p.bs k) p.n ≤ (p.part s k).hi := by
  have h1 := ht.bare (s &&& p.bs k)
  have h2 := ht.bare (dif (p.bs k) s)
  have h3 := ht.2 k hk
  have h4 := sb_cut t (p.bs k) s p.n
  rw [Nat.and_comm] at h4
  simp only [PressD.part, knownS]
  omega
theorem Truth.right {t : Nat → Int} (ht : p.Truth t) (h : p.ok = true) : p.wrong = 0 := by
  rw [wrong_iff]
  intro k hk
  rw [right_iff h hk]
  have h1 := ht.bare (p.bs k)
  have h2 := ht.2 k hk
  omega
theorem rest_sum (h : p.ok = true) (f : Nat → Int) (s : Nat) {k : Nat} (hk : k < p.weighed.length) : sb f (p.rest s k) p.n = sb f (s &&& p.bs k) p.n + sb f (p.rest s (k + 1)) p.n := by
  rw [sb_cut f (p.rest s k) (p.bs k), rest_and h s hk]; rfl
theorem Truth.wSum {t : Nat → Int} (ht : p.Truth t) (h : p.ok = true) (s : Nat) : ∀ {k}, k ≤ p.weighed.length → (p.wSum s k).lo + sb t (p.rest s k) p.n ≤ sb t s p.n ∧ sb t s p.n ≤ (p.wSum s k).hi + sb t (p.rest s k) p.n := by
  intro k
  induction k with
  | zero => intro _; simp [PressD.wSum, PressD.rest]
  | succ k ih =>
    intro hk
    have h1 := ih (by omega)
    have h2 := ht.part s hk
    have h3 := rest_sum h t s hk
    simp only [PressD.wSum, plusS]
    omega
theorem Truth.weight {t : Nat → Int} (ht : p.Truth t) (h : p.ok = true) (s : Nat) : (p.weight s).lo ≤ sb t s p.n ∧ sb t s p.n ≤ (p.weight s).hi := by
  have h1 := ht.wSum h s (Nat.le_refl _)
  have h2 := ht.bare (p.rest s p.weighed.length)
  simp only [PressD.weight, plusS]
  omega
end
end PressD
end Go.Proofs.Ytbfjebglaimcmaa
