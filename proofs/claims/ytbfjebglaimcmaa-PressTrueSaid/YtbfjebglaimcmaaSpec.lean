/- The plain numbers behind a press: sets of bits, sums over them, spans of weights; nothing of the program; no condition. -/
import GoSem.Claim
namespace Go.Proofs.Ytbfjebglaimcmaa
structure Sp where
  lo : Int
  hi : Int
structure Fl where
  w : Sp
  line : Int
structure Ba where
  set : Int
  w : Sp
structure PressD where
  fl : List Fl
  low : Int
  top : Int
  bales : Int
  weighed : List Ba

def inB (n lo hi : Int) : Bool := decide (lo ≤ n) && decide (n ≤ hi)
theorem inB_iff {n lo hi : Int} : inB n lo hi = true ↔ lo ≤ n ∧ n ≤ hi := by simp [inB]
def spanB (s : Sp) (low high : Int) : Bool := decide (low ≤ s.lo) && decide (s.lo ≤ s.hi) && decide (s.hi ≤ high)
theorem spanB_iff {s : Sp} {l h : Int} : spanB s l h = true ↔ l ≤ s.lo ∧ s.lo ≤ s.hi ∧ s.hi ≤ h := by simp [spanB, and_assoc]

/-! Sets as numbers. -/
def dif (a b : Nat) : Nat := a ^^^ (a &&& b)
theorem tb_dif (a b i : Nat) : (dif a b).testBit i = (a.testBit i && !b.testBit i) := by
  unfold dif; rw [Nat.testBit_xor, Nat.testBit_and]; cases a.testBit i <;> cases b.testBit i <;> rfl
theorem dif_le (a b : Nat) : dif a b ≤ a := by
  refine Nat.le_of_testBit ?_
  intro i h
  rw [tb_dif] at h
  revert h
  cases a.testBit i <;> simp
theorem dif_lt {a b n : Nat} (h : a < 2 ^ n) : dif a b < 2 ^ n := Nat.lt_of_le_of_lt (dif_le a b) h
theorem tb_lt {a n i : Nat} (h : a < 2 ^ n) (hi : n ≤ i) : a.testBit i = false :=
  Nat.testBit_lt_two_pow (Nat.lt_of_lt_of_le h (Nat.pow_le_pow_right (by omega) hi))
theorem eq_of_tb {a b n : Nat} (ha : a < 2 ^ n) (hb : b < 2 ^ n) (h : ∀ i, i < n → a.testBit i = b.testBit i) : a = b := by
  refine Nat.eq_of_testBit_eq fun i => ?_
  rcases Nat.lt_or_ge i n with hi | hi
  · exact h i hi
  · rw [tb_lt ha hi, tb_lt hb hi]
theorem and_zero_iff {a b : Nat} : a &&& b = 0 ↔ ∀ i, ¬ (a.testBit i = true ∧ b.testBit i = true) := by
  constructor
  · intro h i ⟨h1, h2⟩
    have : (a &&& b).testBit i = true := by rw [Nat.testBit_and, h1, h2]; rfl
    rw [h] at this
    simp at this
  · intro h
    refine Nat.eq_of_testBit_eq fun i => ?_
    rw [Nat.testBit_and, Nat.zero_testBit]
    have := h i
    cases h1 : a.testBit i <;> cases h2 : b.testBit i <;> simp_all
/-- All of the first n. -/
def full (n : Nat) : Nat := 2 ^ n - 1
theorem tb_full (n i : Nat) : (full n).testBit i = decide (i < n) := by unfold full; rw [Nat.testBit_two_pow_sub_one]
theorem full_lt (n : Nat) : full n < 2 ^ n := by have := Nat.two_pow_pos n; unfold full; omega
theorem le_full {a n : Nat} : a ≤ full n ↔ a < 2 ^ n := by have := Nat.two_pow_pos n; unfold full; omega

/-! Sums over a set. -/
def sb (f : Nat → Int) (s : Nat) : Nat → Int
  | 0 => 0
  | n + 1 => sb f s n + if s.testBit n = true then f n else 0
theorem sb_congr {f g : Nat → Int} {s t : Nat} : ∀ n, (∀ i, i < n → s.testBit i = t.testBit i ∧ (s.testBit i = true → f i = g i)) → sb f s n = sb g t n := by
  intro n
  induction n with
  | zero => intro _; rfl
  | succ n ih =>
    intro h
    obtain ⟨h1, h2⟩ := h n (by omega)
    rw [sb, sb, ih (fun i hi => h i (by omega)), ← h1]
    split
    · rename_i h3; rw [h2 h3]
    · rfl
theorem sb_zero (f : Nat → Int) : ∀ n, sb f 0 n = 0 := by
  intro n
  induction n with
  | zero => rfl
  | succ n ih => rw [sb, ih]; simp
theorem sb_le {f g : Nat → Int} {s : Nat} : ∀ n, (∀ i, i < n → s.testBit i = true → f i ≤ g i) → sb f s n ≤ sb g s n := by
  intro n
  induction n with
  | zero => intro _; exact Int.le_refl _
  | succ n ih =>
    intro h
    have h1 := ih (fun i hi => h i (by omega))
    rw [sb, sb]
    split
    · rename_i h3; have := h n (by omega) h3; omega
    · omega
/-- A set, cut by another one. -/
theorem sb_cut (f : Nat → Int) (s t : Nat) : ∀ n, sb f s n = sb f (s &&& t) n + sb f (dif s t) n := by
  intro n
  induction n with
  | zero => rfl
  | succ n ih =>
    rw [sb, sb, sb, ih, Nat.testBit_and, tb_dif]
    cases s.testBit n <;> cases t.testBit n <;> simp <;> omega
theorem sb_or (f : Nat → Int) (s t : Nat) (h : s &&& t = 0) (n : Nat) : sb f (s ||| t) n = sb f s n + sb f t n := by
  induction n with
  | zero => rfl
  | succ n ih =>
    have := (and_zero_iff.1 h) n
    rw [sb, sb, sb, ih, Nat.testBit_or]
    cases h1 : s.testBit n <;> cases h2 : t.testBit n <;> simp_all <;> omega
theorem sb_bd {f : Nat → Int} {s : Nat} {l h : Int} (hl : l ≤ 0) (hh : 0 ≤ h) : ∀ n, (∀ i, i < n → s.testBit i = true → l ≤ f i ∧ f i ≤ h) → n * l ≤ sb f s n ∧ sb f s n ≤ n * h := by
  intro n
  induction n with
  | zero => intro _; simp [sb]
  | succ n ih =>
    intro hf
    have h1 := ih (fun i hi => hf i (by omega))
    rw [sb]
    have e1 : ((n + 1 : Nat) : Int) * l = n * l + l := by rw [Int.natCast_add, Int.add_mul]; simp
    have e2 : ((n + 1 : Nat) : Int) * h = n * h + h := by rw [Int.natCast_add, Int.add_mul]; simp
    rw [e1, e2]
    split
    · rename_i h3; have := hf n (by omega) h3; omega
    · omega
/-- How many of the first n are in a set. -/
def pop (s n : Nat) : Int := sb (fun _ => 1) s n
theorem pop_bd (s n : Nat) : 0 ≤ pop s n ∧ pop s n ≤ n := by
  have := sb_bd (f := fun _ => 1) (s := s) (l := 0) (h := 1) (by omega) (by omega) n (fun _ _ _ => by omega)
  unfold pop; omega
theorem pop_pos {s n : Nat} : ∀ {i}, i < n → s.testBit i = true → 1 ≤ pop s n := by
  induction n with
  | zero => intro i hi; omega
  | succ n ih =>
    intro i hi hb
    have h0 := (pop_bd s n).1
    have e : pop s (n + 1) = pop s n + if s.testBit n = true then 1 else 0 := rfl
    rw [e]
    by_cases h : i = n
    · subst h; rw [if_pos hb]; omega
    · have := ih (by omega) hb
      split <;> omega

/-! Spans. -/
def plusS (a b : Sp) : Sp := ⟨a.lo + b.lo, a.hi + b.hi⟩
def knownS (a o both : Sp) : Sp := ⟨max a.lo (both.lo - o.hi), min a.hi (both.hi - o.lo)⟩
/-- Numbers that are far from where a sum wraps. -/
def midS (m : Int) (s : Sp) : Prop := -m ≤ s.lo ∧ s.lo ≤ m ∧ -m ≤ s.hi ∧ s.hi ≤ m
def sumK (l : List Sp) : Nat → Sp
  | 0 => ⟨0, 0⟩
  | k + 1 => plusS (sumK l k) ((l[k]?).getD ⟨0, 0⟩)
theorem midS_plus {a b : Sp} {m n : Int} (ha : midS m a) (hb : midS n b) : midS (m + n) (plusS a b) := by
  obtain ⟨x0, x1, x2, x3⟩ := ha
  obtain ⟨y0, y1, y2, y3⟩ := hb
  exact ⟨by simp only [plusS]; omega, by simp only [plusS]; omega, by simp only [plusS]; omega, by simp only [plusS]; omega⟩
theorem sumK_app (l m : List Sp) : ∀ k, k ≤ l.length → sumK (l ++ m) k = sumK l k := by
  intro k
  induction k with
  | zero => intro _; rfl
  | succ k ih => intro hk; rw [sumK, sumK, ih (by omega), List.getElem?_append_left (by omega)]
theorem sumK_snoc (l : List Sp) (x : Sp) : sumK (l ++ [x]) (l ++ [x]).length = plusS (sumK l l.length) x := by
  rw [List.length_append, List.length_singleton, sumK, sumK_app l [x] _ (Nat.le_refl _)]
  simp

/-! A press. -/
namespace PressD
def n (p : PressD) : Nat := p.fl.length
def fw (p : PressD) (i : Nat) : Sp := ((p.fl[i]?).map Fl.w).getD ⟨0, 0⟩
def line (p : PressD) (i : Nat) : Int := ((p.fl[i]?).map Fl.line).getD 0
/-- How heavy the fleeces of a set are by themselves. -/
def bare (p : PressD) (s : Nat) : Sp := ⟨sb (fun i => (p.fw i).lo) s p.n, sb (fun i => (p.fw i).hi) s p.n⟩
def ba (p : PressD) (k : Nat) : Ba := (p.weighed[k]?).getD ⟨0, ⟨0, 0⟩⟩
/-- The set of the k-th bale that was weighed. -/
def bs (p : PressD) (k : Nat) : Nat := (p.ba k).set.toNat
/-- All that the first k bales have. -/
def used (p : PressD) : Nat → Nat
  | 0 => 0
  | k + 1 => p.used k ||| p.bs k
def flB (f : Fl) : Bool := spanB f.w 1 20 && decide (f.w.hi - f.w.lo ≤ 3) && inB f.line 0 2
def setB (p : PressD) (n : Int) : Bool := inB n 0 (full p.n)
def baB (p : PressD) (k : Nat) : Bool := p.setB (p.ba k).set && decide (0 < (p.ba k).set) && (p.used k &&& p.bs k == 0) && spanB (p.ba k).w 1 200
def headB (p : PressD) : Bool := decide (p.fl.length ≤ 10) && inB p.low 1 200 && inB p.top p.low 200 && inB p.bales 0 5 && decide (p.weighed.length ≤ 4)
/-- Is the press valid? -/
def ok (p : PressD) : Bool := p.headB && p.fl.all flB && (List.range p.weighed.length).all p.baB
/-- What is left of a set behind the first k bales. -/
def rest (p : PressD) (s : Nat) : Nat → Nat
  | 0 => s
  | k + 1 => dif (p.rest s k) (p.bs k)
def part (p : PressD) (s k : Nat) : Sp := knownS (p.bare (s &&& p.bs k)) (p.bare (dif (p.bs k) s)) (p.ba k).w
def wSum (p : PressD) (s : Nat) : Nat → Sp
  | 0 => ⟨0, 0⟩
  | k + 1 => plusS (p.wSum s k) (p.part s k)
/-- How heavy the fleeces of a set are. -/
def weight (p : PressD) (s : Nat) : Sp := plusS (p.wSum s p.weighed.length) (p.bare (p.rest s p.weighed.length))
/-- Are all of a set of one line, and is there any? -/
def alike (p : PressD) (s : Nat) : Bool := (List.range p.n).any (fun i => s.testBit i) && (List.range p.n).all fun i => (List.range p.n).all fun j => !s.testBit i || !s.testBit j || decide (p.line i = p.line j)
def sure (p : PressD) (s : Nat) : Bool := p.alike s && spanB (p.weight s) p.low p.top
def may (p : PressD) (s : Nat) : Bool := p.alike s && decide (p.low ≤ (p.weight s).hi) && decide ((p.weight s).lo ≤ p.top)
def wrongB (p : PressD) (k : Nat) : Bool := decide ((knownS (p.bare (p.bs k)) ⟨0, 0⟩ (p.ba k).w).hi < (knownS (p.bare (p.bs k)) ⟨0, 0⟩ (p.ba k).w).lo)
/-- The set of the first k bales that were weighed wrongly. -/
def wrongF (p : PressD) : Nat → Nat
  | 0 => 0
  | k + 1 => if p.wrongB k = true then p.wrongF k ||| 2 ^ k else p.wrongF k
def wrong (p : PressD) : Nat := p.wrongF p.weighed.length
def fits (p : PressD) (s : Nat) : Int := if p.sure s = true then 2 else if p.may s = true then 1 else 0
/-- All sets that always fit. -/
def sets (p : PressD) : List Nat := ((List.range (full p.n)).map (· + 1)).filter p.sure
end PressD
/-! Of some sets the most fleeces that can be pressed. -/
def sub (s f : Nat) : Bool := dif s f == 0
def bestF (l : List Nat) : Nat → Nat → Nat → Int
  | 0, _, _ => 0
  | b + 1, f, h => (l.map fun s => if decide (h < s) && sub s f then pop s 10 + bestF l b (dif f s) s else 0).foldl max 0
end Go.Proofs.Ytbfjebglaimcmaa
