/- Numbers and sets of bits in plain Lean. A rule for a region that draws its order: every operation is shown once, in one order, in whatever world the others may have left (new blocks alone); conditions: the closed check 'havOk' on the region. Small laws on worlds, blocks that are known whole, slices that read as lists, rows that the call owns; no condition. Names for the table rules: slots, values, blocks; the closed check. Condition: what the statements say. -/
import Derived.Test.YtgmfhngcehkibaaGreatPkB1
import Derived.Test.YtgmfhngcehkibaaGreatProg
import Derived.WalkKit
import Derived.WalkSpells
import Derived.WalkLawsBesides
import Derived.Lib.Hide
import Derived.OneCell
import Derived.Laws.AppendOwn
import Derived.Laws.OwnMore
import Derived.Laws.Bits64b
import Derived.Deep.LoopGhost
import Derived.Deep.QuietTactic
import Derived.BigQuiet
import Derived.RegionTactic
import Derived.BigRegion
import Derived.Deep.DeepCutAuto
set_option maxRecDepth 100000
set_option maxHeartbeats 6400000
namespace Go.Proofs.YtgmfhngcehkibaaGreat
def inB (n lo hi : Int) : Bool := decide (lo ≤ n) && decide (n ≤ hi)
theorem inB_iff {n lo hi : Int} : inB n lo hi = true ↔ lo ≤ n ∧ n ≤ hi := by simp [inB]
def full (n : Nat) : Nat := 2 ^ n - 1
theorem tb_full (n i : Nat) : (full n).testBit i = decide (i < n) := by unfold full; rw [Nat.testBit_two_pow_sub_one]
theorem full_lt (n : Nat) : full n < 2 ^ n := by have := Nat.two_pow_pos n; unfold full; omega
end Go.Proofs.YtgmfhngcehkibaaGreat
namespace Go.Proofs.YtgmfhngcehkibaaGreat
structure NSp where
 lo : Nat
 hi : Nat
deriving DecidableEq
structure NFr where
 days : NSp
 rise : NSp
deriving DecidableEq
structure NLk where
 day : Nat
 dep : NSp
deriving DecidableEq
structure Riv where
 depth : NSp
 fall : NSp
 days : Nat
 fr : List NFr
 lk : List NLk
abbrev St := Nat × Nat
def opts (f : NFr) (i day : Nat) (x : St) : List St :=
 (if x.2.testBit i || decide (day < f.days.hi) then [x] else []) ++
 (if !x.2.testBit i && decide (f.days.lo ≤ day) && decide (day ≤ f.days.hi) then (List.range (f.rise.hi + 1 - f.rise.lo)).map (fun k => (x.1 + (f.rise.lo + k), x.2 ||| 2 ^ i)) else [])
def nexts : List NFr → Nat → Nat → St → List St
 | [], _, _, x => [x]
 | f :: fs, i, day, x => (opts f i day x).flatMap (nexts fs (i + 1) day)
def next (r : Riv) (by_ day : Nat) (x : St) : List St := nexts r.fr 0 day (x.1 - by_, x.2)
theorem mem_opts {f : NFr} {i day : Nat} {x y : St} : y ∈ opts f i day x ↔
  ((x.2.testBit i = true ∨ day < f.days.hi) ∧ y = x) ∨ (x.2.testBit i = false ∧ f.days.lo ≤ day ∧ day ≤ f.days.hi ∧ ∃ k, f.rise.lo ≤ k ∧ k ≤ f.rise.hi ∧ y = (x.1 + k, x.2 ||| 2 ^ i)) := by
 unfold opts; rw [List.mem_append]; constructor
 ·rintro (h | h)
  ·left
   split at h
   ·rename_i hc
    simp at hc h; exact ⟨hc, h⟩
   ·simp at h
  ·right
   split at h
   ·rename_i hc
    simp at hc h; obtain ⟨k, hk, rfl⟩ := h; exact ⟨hc.1.1, hc.1.2, hc.2, f.rise.lo + k, by omega, by omega, rfl⟩
   ·simp at h
 ·rintro (⟨h1, rfl⟩ | ⟨h1, h2, h3, k, h4, h5, rfl⟩)
  ·left
   rw [if_pos (by simpa using h1)]
   simp
  ·right
   rw [if_pos (by simp [h1, h2, h3])]
   simp
   exact ⟨k - f.rise.lo, by omega, by omega⟩
def riseN (ds rs : Nat → Nat) (day : Nat) : Nat → Nat
 | 0 => 0
 | n + 1 => riseN ds rs day n + (if ds n = day then rs n else 0)
def atF (d by_ n : Nat) (ds rs : Nat → Nat) : Nat → Nat
 | 0 => d
 | k + 1 => (atF d by_ n ds rs k - by_) + riseN ds rs (k + 1) n
def comeF (ds : Nat → Nat) (day : Nat) : Nat → Nat
 | 0 => 0
 | n + 1 => comeF ds day n + (if ds n ≤ day then 2 ^ n else 0)
theorem comeF_lt (ds : Nat → Nat) (day n : Nat) : comeF ds day n < 2 ^ n := by
 induction n with
 | zero => simp [comeF]
 | succ n ih => rw [comeF, Nat.pow_succ]; split <;> omega
theorem comeF_bit (ds : Nat → Nat) (day n j : Nat) : (comeF ds day n).testBit j = decide (j < n ∧ ds j ≤ day) := by
 induction n with
 | zero => simp [comeF]
 | succ n ih =>
  have hlt := comeF_lt ds day n; rw [comeF]
  by_cases hj : j = n
  ·subst hj
   split
   ·rename_i h
    rw [Nat.add_comm, Nat.testBit_two_pow_add_eq, Nat.testBit_lt_two_pow hlt]
    simp [h]
   ·rename_i h
    rw [Nat.add_zero, Nat.testBit_lt_two_pow hlt]
    simp; omega
  ·split
   ·rename_i h
    rcases Nat.lt_or_gt_of_ne hj with h1 | h1
    ·rw [Nat.add_comm, Nat.testBit_two_pow_add_gt h1, ih]; exact decide_eq_decide.2 (by omega)
    ·rw [Nat.testBit_lt_two_pow (Nat.lt_of_lt_of_le (show comeF ds day n + 2 ^ n < 2 ^ (n + 1) by rw [Nat.pow_succ]; omega) (Nat.pow_le_pow_right (by omega) (by omega)))]
     exact (decide_eq_false (by omega)).symm
   ·rw [Nat.add_zero, ih]; exact decide_eq_decide.2 (by omega)
theorem riseN_congr {ds rs ds' rs' : Nat → Nat} {day : Nat} : ∀ n, (∀ i, i < n → (ds i = day → ds' i = day ∧ rs' i = rs i) ∧ (ds' i = day → ds i = day)) → riseN ds rs day n = riseN ds' rs' day n := by
 intro n
 induction n with
 | zero => intro _; rfl
 | succ n ih =>
  intro h
  rw [riseN, riseN, ih (fun i hi => h i (by omega))]
  obtain ⟨h1, h2⟩ := h n (by omega)
  by_cases hd : ds n = day
  ·obtain ⟨h3, h4⟩ := h1 hd; rw [if_pos hd, if_pos h3, h4]
  ·rw [if_neg hd, if_neg (fun e => hd (h2 e))]
def InSp (fr : List NFr) (ds rs : Nat → Nat) : Prop := ∀ i f, fr[i]? = some f → f.days.lo ≤ ds i ∧ ds i ≤ f.days.hi ∧ f.rise.lo ≤ rs i ∧ rs i ≤ f.rise.hi
def AgreeT (k : Nat) (ds rs ds' rs' : Nat → Nat) : Prop := ∀ i, (ds i ≤ k → ds' i = ds i ∧ rs' i = rs i) ∧ (k < ds i → k < ds' i)
theorem AgreeT.refl (k : Nat) (ds rs : Nat → Nat) : AgreeT k ds rs ds rs := fun _ => ⟨fun _ => ⟨rfl, rfl⟩, id⟩
theorem AgreeT.trans {k : Nat} {a b c d e f : Nat → Nat} (h : AgreeT k a b c d) (g : AgreeT k c d e f) : AgreeT k a b e f := fun i => ⟨fun hi => by
 obtain ⟨h1, h2⟩ := (h i).1 hi; obtain ⟨h3, h4⟩ := (g i).1 (by omega)
 exact ⟨h3.trans h1, h4.trans h2⟩, fun hi => (g i).2 ((h i).2 hi)⟩
theorem AgreeT.le {k j : Nat} {a b c d : Nat → Nat} (h : AgreeT k a b c d) (hj : j ≤ k) : AgreeT j a b c d := fun i => ⟨fun hi => (h i).1 (by omega), fun hi => by
 by_cases h1 : a i ≤ k
 ·rw [((h i).1 h1).1]; exact hi
 ·have := (h i).2 (by omega); omega⟩
theorem AgreeT.rise {k : Nat} {ds rs ds' rs' : Nat → Nat} (h : AgreeT k ds rs ds' rs') {day : Nat} (hd : day ≤ k) (n : Nat) : riseN ds rs day n = riseN ds' rs' day n :=
 riseN_congr n fun i _ => ⟨fun e => by obtain ⟨h1, h2⟩ := (h i).1 (by omega); exact ⟨by omega, h2⟩, fun e => by
  by_cases h1 : ds i ≤ k
  ·rw [((h i).1 h1).1] at e; exact e
  ·have := (h i).2 (by omega); omega⟩
theorem AgreeT.at {k : Nat} {ds rs ds' rs' : Nat → Nat} (h : AgreeT k ds rs ds' rs') (d by_ n : Nat) : ∀ j, j ≤ k → atF d by_ n ds rs j = atF d by_ n ds' rs' j
 | 0, _ => rfl
 | j + 1, hj => by rw [atF, atF, h.at d by_ n j (by omega), h.rise hj]
theorem AgreeT.come {k : Nat} {ds rs ds' rs' : Nat → Nat} (h : AgreeT k ds rs ds' rs') {j : Nat} (hj : j ≤ k) : ∀ n, comeF ds j n = comeF ds' j n
 | 0 => rfl
 | n + 1 => by
  have h' := (h.le hj) n; rw [comeF, comeF, AgreeT.come h hj n]
  by_cases h1 : ds n ≤ j
  ·rw [if_pos h1, if_pos (by rw [(h'.1 h1).1]; exact h1)]
  ·rw [if_neg h1, if_neg (by have := h'.2 (by omega); omega)]
def Stage (fr : List NFr) (k base i : Nat) (x : St) (ds rs : Nat → Nat) : Prop :=
 x.1 = base + riseN ds rs (k + 1) i ∧ ∀ j, x.2.testBit j = decide (j < fr.length ∧ ds j ≤ if j < i then k + 1 else k)
theorem stage_unique {fr : List NFr} {k base i : Nat} {x y : St} {ds rs : Nat → Nat} (h : Stage fr k base i x ds rs) (g : Stage fr k base i y ds rs) : x = y := by
 obtain ⟨x1, x2⟩ := x; obtain ⟨y1, y2⟩ := y; obtain ⟨h1, h2⟩ := h; obtain ⟨g1, g2⟩ := g; simp only at h1 h2 g1 g2
 congr 1
 ·omega
 ·exact Nat.eq_of_testBit_eq fun j => (h2 j).trans (g2 j).symm
def upd (f : Nat → Nat) (i v : Nat) : Nat → Nat := fun j => if j = i then v else f j
theorem upd_same (f : Nat → Nat) (i v : Nat) : upd f i v i = v := by simp [upd]
theorem upd_other {f : Nat → Nat} {i v j : Nat} (h : j ≠ i) : upd f i v j = f j := by simp [upd, h]
theorem riseN_upd {ds rs : Nat → Nat} {i v u day : Nat} : ∀ n, n ≤ i → riseN (upd ds i v) (upd rs i u) day n = riseN ds rs day n
 | 0, _ => rfl
 | n + 1, h => by rw [riseN, riseN, riseN_upd n (by omega), upd_other (by omega), upd_other (by omega)]
theorem bit_or_pow (x i j : Nat) : (x ||| 2 ^ i).testBit j = (x.testBit j || decide (i = j)) := by rw [Nat.testBit_or, Nat.testBit_two_pow]
theorem opts_ext {fr : List NFr} {k base i : Nat} {f : NFr} {x y : St} {ds rs : Nat → Nat} (hf : fr[i]? = some f) (hs : InSp fr ds rs) (h : Stage fr k base i x ds rs) (hy : y ∈ opts f i (k + 1) x) :
  ∃ ds' rs', InSp fr ds' rs' ∧ AgreeT k ds rs ds' rs' ∧ Stage fr k base (i + 1) y ds' rs' := by
 have hi : i < fr.length := (List.getElem?_eq_some_iff.1 hf).1; have hb : x.2.testBit i = decide (ds i ≤ k) := by rw [h.2 i]; simp [hi]
 obtain ⟨g1, g2, g3, g4⟩ := hs i f hf; rcases mem_opts.1 hy with ⟨hc, rfl⟩ | ⟨hc, h2, h3, v, h4, h5, rfl⟩
 ·by_cases hd : ds i ≤ k
  ·refine ⟨ds, rs, hs, AgreeT.refl _ _ _, ?_, fun j => ?_⟩
   ·rw [riseN, if_neg (by omega)]; exact h.1
   ·rw [h.2 j]
    by_cases hj : j = i
    ·subst hj
     simp [hi]; omega
    ·congr 1
     simp only [show (j < i + 1) ↔ (j < i) from by omega]
  ·have hhi : k + 1 < f.days.hi := by
    rcases hc with h1 | h1
    ·rw [hb] at h1; simp at h1
     omega
    ·exact h1
   refine ⟨upd ds i f.days.hi, upd rs i (rs i), fun j f' hj' => ?_, fun j => ?_, ?_, fun j => ?_⟩
   ·by_cases hj : j = i
    ·subst hj; rw [hf] at hj'
     cases hj'
     rw [upd_same, upd_same]; exact ⟨by omega, Nat.le_refl _, g3, g4⟩
    ·rw [upd_other hj, upd_other hj]; exact hs j f' hj'
   ·by_cases hj : j = i
    ·subst hj; rw [upd_same, upd_same]
     exact ⟨fun h => by omega, fun _ => by omega⟩
    ·rw [upd_other hj, upd_other hj]; exact ⟨fun _ => ⟨rfl, rfl⟩, id⟩
   ·rw [riseN, upd_same, if_neg (by omega), riseN_upd _ (Nat.le_refl _)]; exact h.1
   ·rw [h.2 j]
    by_cases hj : j = i
    ·subst hj; rw [upd_same]
     simp [hi]; omega
    ·rw [upd_other hj]
     congr 1
     simp only [show (j < i + 1) ↔ (j < i) from by omega]
 ·have hd : k < ds i := by rw [hb] at hc; simp at hc; exact hc
  refine ⟨upd ds i (k + 1), upd rs i v, fun j f' hj' => ?_, fun j => ?_, ?_, fun j => ?_⟩
  ·by_cases hj : j = i
   ·subst hj; rw [hf] at hj'
    cases hj'
    rw [upd_same, upd_same]; exact ⟨h2, h3, h4, h5⟩
   ·rw [upd_other hj, upd_other hj]; exact hs j f' hj'
  ·by_cases hj : j = i
   ·subst hj; rw [upd_same, upd_same]
    exact ⟨fun h => by omega, fun _ => by omega⟩
   ·rw [upd_other hj, upd_other hj]; exact ⟨fun _ => ⟨rfl, rfl⟩, id⟩
  ·rw [riseN, upd_same, upd_same, if_pos rfl, riseN_upd _ (Nat.le_refl _)]; simp only; have := h.1
   omega
  ·simp only; rw [bit_or_pow, h.2 j]
   by_cases hj : j = i
   ·subst hj; rw [upd_same]
    simp [hi]
   ·rw [upd_other hj, show decide (i = j) = false from by simp; omega, Bool.or_false]
    congr 1
    simp only [show (j < i + 1) ↔ (j < i) from by omega]
theorem nexts_ext {fr : List NFr} {k base : Nat} {y : St} : ∀ (fs : List NFr) (i : Nat) (x : St) (ds rs : Nat → Nat), fr.drop i = fs → i ≤ fr.length → InSp fr ds rs → Stage fr k base i x ds rs → y ∈ nexts fs i (k + 1) x →
  ∃ ds' rs', InSp fr ds' rs' ∧ AgreeT k ds rs ds' rs' ∧ Stage fr k base fr.length y ds' rs' := by
 intro fs
 induction fs with
 | nil =>
  intro i x ds rs hd hi hs h hy; have : i = fr.length := by have := congrArg List.length hd; simp at this; omega
  subst this
  simp [nexts] at hy
  subst hy; exact ⟨ds, rs, hs, AgreeT.refl _ _ _, h⟩
 | cons f fs ih =>
  intro i x ds rs hd hi hs h hy; have hf : fr[i]? = some f := by have := congrArg List.head? hd; rwa [List.head?_drop] at this
  have hi' : i < fr.length := (List.getElem?_eq_some_iff.1 hf).1; rw [nexts, List.mem_flatMap] at hy; obtain ⟨z, hz, hy⟩ := hy; obtain ⟨ds1, rs1, h1, h2, h3⟩ := opts_ext hf hs h hz; obtain ⟨ds2, rs2, h4, h5, h6⟩ := ih (i + 1) z ds1 rs1 (by rw [← List.drop_drop, hd]; rfl) (by omega) h1 h3 hy
  exact ⟨ds2, rs2, h4, h2.trans h5, h6⟩
theorem nexts_mem {fr : List NFr} {k base : Nat} {y : St} {ds rs : Nat → Nat} (hs : InSp fr ds rs) (hy : Stage fr k base fr.length y ds rs) : ∀ (fs : List NFr) (i : Nat) (x : St), fr.drop i = fs → i ≤ fr.length → Stage fr k base i x ds rs → y ∈ nexts fs i (k + 1) x := by
 intro fs
 induction fs with
 | nil =>
  intro i x hd hi h; have : i = fr.length := by have := congrArg List.length hd; simp at this; omega
  subst this; rw [stage_unique hy h]
  simp [nexts]
 | cons f fs ih =>
  intro i x hd hi h; have hf : fr[i]? = some f := by have := congrArg List.head? hd; rwa [List.head?_drop] at this
  have hi' : i < fr.length := (List.getElem?_eq_some_iff.1 hf).1; have hb : x.2.testBit i = decide (ds i ≤ k) := by rw [h.2 i]; simp [hi']
  obtain ⟨g1, g2, g3, g4⟩ := hs i f hf; rw [nexts, List.mem_flatMap]
  by_cases he : ds i = k + 1
  ·refine ⟨(x.1 + rs i, x.2 ||| 2 ^ i), mem_opts.2 (.inr ⟨by rw [hb]; simp; omega, by omega, by omega, rs i, g3, g4, rfl⟩), ih (i + 1) _ (by rw [← List.drop_drop, hd]; rfl) (by omega) ⟨?_, fun j => ?_⟩⟩
   ·rw [riseN, if_pos he]; have := h.1; simp only
    omega
   ·simp only; rw [bit_or_pow, h.2 j]
    by_cases hj : j = i
    ·subst hj
     simp [hi', he]
    ·rw [show decide (i = j) = false from by simp; omega, Bool.or_false]
     congr 1
     simp only [show (j < i + 1) ↔ (j < i) from by omega]
  ·refine ⟨x, mem_opts.2 (.inl ⟨?_, rfl⟩), ih (i + 1) _ (by rw [← List.drop_drop, hd]; rfl) (by omega) ⟨?_, fun j => ?_⟩⟩
   ·by_cases h1 : ds i ≤ k
    ·exact .inl (by rw [hb]; simp [h1])
    ·exact .inr (by omega)
   ·rw [riseN, if_neg he]; exact h.1
   ·rw [h.2 j]
    by_cases hj : j = i
    ·subst hj
     simp [hi']; omega
    ·congr 1
     simp only [show (j < i + 1) ↔ (j < i) from by omega]
end Go.Proofs.YtgmfhngcehkibaaGreat
namespace Go.Proofs.YtgmfhngcehkibaaGreat
def lookOk (lk : List NLk) (looks day dep k : Nat) : Bool := match lk[k]? with
 | some l => !(looks.testBit k && (l.day == day && !inB dep l.dep.lo l.dep.hi))
 | none => true
def fitsN (lk : List NLk) (looks day dep : Nat) : Nat → Bool
 | 0 => true
 | k + 1 => fitsN lk looks day dep k && lookOk lk looks day dep k
def fits (r : Riv) (looks day dep : Nat) : Bool := fitsN r.lk looks day dep r.lk.length
theorem fitsN_false {lk : List NLk} {looks day dep : Nat} : ∀ {n k : Nat}, k < n → lookOk lk looks day dep k = false → fitsN lk looks day dep n = false := by
 intro n
 induction n with
 | zero => intro k h; omega
 | succ n ih =>
  intro k h hk; rw [fitsN]
  by_cases e : k = n
  ·subst e; rw [hk, Bool.and_false]
  ·rw [ih (by omega) hk]; rfl
theorem fits_iff {r : Riv} {looks day dep : Nat} : fits r looks day dep = true ↔ ∀ k l, r.lk[k]? = some l → looks.testBit k = true → l.day = day → l.dep.lo ≤ dep ∧ dep ≤ l.dep.hi := by
 have key : ∀ n, fitsN r.lk looks day dep n = true ↔ ∀ k, k < n → lookOk r.lk looks day dep k = true := by
  intro n
  induction n with
  | zero => simp [fitsN]
  | succ n ih =>
   rw [fitsN, Bool.and_eq_true, ih]; constructor
   ·rintro ⟨h1, h2⟩ k hk
    by_cases e : k = n
    ·subst e; exact h2
    ·exact h1 k (by omega)
   ·exact fun h => ⟨fun k hk => h k (by omega), h n (by omega)⟩
 unfold fits; rw [key]; constructor
 ·intro h k l hl hb hd; have h1 := h k (List.getElem?_eq_some_iff.1 hl).1; unfold lookOk at h1; rw [hl] at h1; simp only [hb, hd, Bool.true_and, beq_self_eq_true, Bool.not_not] at h1; have := inB_iff.1 h1
  omega
 ·intro h k hk; have hl : r.lk[k]? = some r.lk[k] := List.getElem?_eq_getElem hk; unfold lookOk; rw [hl]; simp only
  cases hb : looks.testBit k
  ·rfl
  ·by_cases hd : r.lk[k].day = day
   ·have := h k _ hl hb hd; have h2 : inB dep r.lk[k].dep.lo r.lk[k].dep.hi = true := inB_iff.2 (by omega)
    rw [h2]; simp
   ·have : (r.lk[k].day == day) = false := by simpa using hd
    rw [this]; rfl
def fwd (r : Riv) (by_ looks : Nat) : Nat → St → Prop
 | 0, s => s.2 = 0 ∧ r.depth.lo ≤ s.1 ∧ s.1 ≤ r.depth.hi ∧ fits r looks 0 s.1 = true
 | k + 1, s => ∃ p, fwd r by_ looks k p ∧ s ∈ next r by_ (k + 1) p ∧ fits r looks (k + 1) s.1 = true
def goesOn (r : Riv) (by_ looks : Nat) : Nat → Nat → St → Prop
 | 0, _, _ => True
 | n + 1, day, s => ∃ x, x ∈ next r by_ (day + 1) s ∧ fits r looks (day + 1) x.1 = true ∧ goesOn r by_ looks n (day + 1) x
def AllS (r : Riv) (by_ looks day : Nat) (s : St) : Prop := fwd r by_ looks day s ∧ goesOn r by_ looks (r.days - day) day s
theorem allS_back {r : Riv} {by_ looks day : Nat} (hd : day < r.days) {s : St} (hs : fwd r by_ looks day s) : AllS r by_ looks day s ↔ ∃ x, x ∈ next r by_ (day + 1) s ∧ AllS r by_ looks (day + 1) x := by
 unfold AllS; have e : r.days - day = (r.days - (day + 1)) + 1 := by omega
 rw [e]; constructor
 ·rintro ⟨_, x, h1, h2, h3⟩; exact ⟨x, h1, ⟨s, hs, h1, h2⟩, h3⟩
 ·rintro ⟨x, h1, ⟨p, h2, h3, h4⟩, h5⟩; exact ⟨hs, x, h1, h4, h5⟩
theorem allS_last {r : Riv} {by_ looks : Nat} {s : St} : AllS r by_ looks r.days s ↔ fwd r by_ looks r.days s := by
 unfold AllS; rw [Nat.sub_self]
 simp [goesOn]
structure TruthF (r : Riv) (by_ looks d : Nat) (ds rs : Nat → Nat) : Prop where
 lo : r.depth.lo ≤ d
 hi : d ≤ r.depth.hi
 sp : InSp r.fr ds rs
 ok : ∀ day, day ≤ r.days → fits r looks day (atF d by_ r.fr.length ds rs day) = true
def Tells (r : Riv) (by_ day d : Nat) (ds rs : Nat → Nat) (s : St) : Prop := s.1 = atF d by_ r.fr.length ds rs day ∧ ∀ j, s.2.testBit j = decide (j < r.fr.length ∧ ds j ≤ day)
theorem next_ext {r : Riv} {by_ k d : Nat} {ds rs : Nat → Nat} {s x : St} (hs : InSp r.fr ds rs) (h : Tells r by_ k d ds rs s) (hx : x ∈ next r by_ (k + 1) s) :
  ∃ ds' rs', InSp r.fr ds' rs' ∧ AgreeT k ds rs ds' rs' ∧ Tells r by_ (k + 1) d ds' rs' x := by
 obtain ⟨ds', rs', h1, h2, h3, h4⟩ := nexts_ext (fr := r.fr) (k := k) (base := s.1 - by_) (y := x) r.fr 0 (s.1 - by_, s.2) ds rs rfl (Nat.zero_le _) hs ⟨rfl, fun j => by rw [h.2 j]; simp⟩ hx
 refine ⟨ds', rs', h1, h2, ?_, fun j => ?_⟩
 ·rw [atF, ← h2.at d by_ r.fr.length k (Nat.le_refl _), ← h.1]; exact h3
 ·rw [h4 j]
  by_cases hj : j < r.fr.length
  ·rw [if_pos hj]
  ·simp [hj]
theorem next_mem {r : Riv} {by_ k d : Nat} {ds rs : Nat → Nat} {s x : St} (hs : InSp r.fr ds rs) (h : Tells r by_ k d ds rs s) (hx : Tells r by_ (k + 1) d ds rs x) : x ∈ next r by_ (k + 1) s := by
 refine nexts_mem (fr := r.fr) (k := k) (base := s.1 - by_) hs ⟨?_, fun j => ?_⟩ r.fr 0 (s.1 - by_, s.2) rfl (Nat.zero_le _) ⟨rfl, fun j => by rw [h.2 j]; simp⟩
 ·rw [hx.1, atF, h.1]
 ·rw [hx.2 j]
  by_cases hj : j < r.fr.length
  ·rw [if_pos hj]
  ·simp [hj]
def tellS (r : Riv) (by_ day d : Nat) (ds rs : Nat → Nat) : St := (atF d by_ r.fr.length ds rs day, comeF ds day r.fr.length)
theorem tells_tellS (r : Riv) (by_ day d : Nat) (ds rs : Nat → Nat) : Tells r by_ day d ds rs (tellS r by_ day d ds rs) := ⟨rfl, fun j => comeF_bit ds day _ j⟩
theorem tells_unique {r : Riv} {by_ day d : Nat} {ds rs : Nat → Nat} {s t : St} (h : Tells r by_ day d ds rs s) (g : Tells r by_ day d ds rs t) : s = t := by
 obtain ⟨x1, x2⟩ := s; obtain ⟨y1, y2⟩ := t; obtain ⟨h1, h2⟩ := h; obtain ⟨g1, g2⟩ := g; simp only at h1 h2 g1 g2
 congr 1
 ·omega
 ·exact Nat.eq_of_testBit_eq fun j => (h2 j).trans (g2 j).symm
theorem Tells.agree {r : Riv} {by_ day d k : Nat} {ds rs ds' rs' : Nat → Nat} {s : St} (h : Tells r by_ day d ds rs s) (g : AgreeT k ds rs ds' rs') (hk : day ≤ k) : Tells r by_ day d ds' rs' s := by
 refine ⟨h.1.trans (g.at d by_ _ day hk), fun j => (h.2 j).trans (decide_eq_decide.2 ?_)⟩
 have gj := (g.le hk) j; constructor
 ·rintro ⟨h1, h2⟩; exact ⟨h1, by rw [(gj.1 h2).1]; exact h2⟩
 ·rintro ⟨h1, h2⟩; refine ⟨h1, ?_⟩
  by_cases h3 : ds j ≤ day
  ·exact h3
  ·have := gj.2 (by omega); omega
def FrOk (r : Riv) : Prop := ∀ f ∈ r.fr, 1 ≤ f.days.lo ∧ f.days.lo ≤ f.days.hi ∧ f.rise.lo ≤ f.rise.hi
theorem fwd_tells {r : Riv} (hr : FrOk r) {by_ looks : Nat} : ∀ (day : Nat) (s : St), fwd r by_ looks day s → ∃ d ds rs, r.depth.lo ≤ d ∧ d ≤ r.depth.hi ∧ InSp r.fr ds rs ∧ Tells r by_ day d ds rs s ∧ ∀ j, j ≤ day → fits r looks j (atF d by_ r.fr.length ds rs j) = true
 | 0, s, h => by
  obtain ⟨h1, h2, h3, h4⟩ := h
  refine ⟨s.1, fun i => ((r.fr[i]?).map (·.days.lo)).getD 1, fun i => ((r.fr[i]?).map (·.rise.lo)).getD 0, h2, h3, fun i f hf => ?_, ⟨rfl, fun j => ?_⟩, fun j hj => ?_⟩
  ·have := hr f (List.mem_of_getElem? hf); simp only [hf, Option.map_some, Option.getD_some]
   omega
  ·rw [h1, Nat.zero_testBit]
   symm
   refine decide_eq_false ?_; rintro ⟨h5, h6⟩; have := hr r.fr[j] (List.getElem_mem h5); simp only [List.getElem?_eq_getElem h5, Option.map_some, Option.getD_some] at h6
   omega
  ·obtain rfl : j = 0 := by omega
   exact h4
 | k + 1, s, h => by
  obtain ⟨p, h1, h2, h3⟩ := h; obtain ⟨d, ds, rs, q1, q2, q3, q4, q5⟩ := fwd_tells hr k p h1; obtain ⟨ds', rs', r1, r2, r3⟩ := next_ext q3 q4 h2
  refine ⟨d, ds', rs', q1, q2, r1, r3, fun j hj => ?_⟩
  by_cases e : j = k + 1
  ·subst e; rw [← r3.1]; exact h3
  ·rw [← r2.at d by_ _ j (by omega)]
   exact q5 j (by omega)
theorem goesOn_tells {r : Riv} {by_ looks d : Nat} : ∀ (n day : Nat) (s : St) (ds rs : Nat → Nat), goesOn r by_ looks n day s → InSp r.fr ds rs → Tells r by_ day d ds rs s → (∀ j, j ≤ day → fits r looks j (atF d by_ r.fr.length ds rs j) = true) →
  ∃ ds' rs', InSp r.fr ds' rs' ∧ AgreeT day ds rs ds' rs' ∧ ∀ j, j ≤ day + n → fits r looks j (atF d by_ r.fr.length ds' rs' j) = true
 | 0, day, s, ds, rs, _, hs, _, hf => ⟨ds, rs, hs, AgreeT.refl _ _ _, hf⟩
 | n + 1, day, s, ds, rs, h, hs, ht, hf => by
  obtain ⟨x, h1, h2, h3⟩ := h; obtain ⟨ds', rs', r1, r2, r3⟩ := next_ext hs ht h1
  obtain ⟨ds2, rs2, q1, q2, q3⟩ := goesOn_tells n (day + 1) x ds' rs' h3 r1 r3 (fun j hj => by
   by_cases e : j = day + 1
   ·subst e; rw [← r3.1]; exact h2
   ·rw [← r2.at d by_ _ j (by omega)]
    exact hf j (by omega))
  exact ⟨ds2, rs2, q1, r2.trans (q2.le (by omega)), fun j hj => q3 j (by omega)⟩
theorem truth_fwd {r : Riv} (hr : FrOk r) {by_ looks d : Nat} {ds rs : Nat → Nat} (h : TruthF r by_ looks d ds rs) : ∀ day, day ≤ r.days → fwd r by_ looks day (tellS r by_ day d ds rs)
 | 0, _ => by
  refine ⟨?_, h.lo, h.hi, h.ok 0 (Nat.zero_le _)⟩
  refine Nat.eq_of_testBit_eq fun j => ?_
  rw [(tells_tellS r by_ 0 d ds rs).2 j, Nat.zero_testBit]; refine decide_eq_false ?_; rintro ⟨h1, h2⟩; have := h.sp j r.fr[j] (List.getElem?_eq_getElem h1); have := hr r.fr[j] (List.getElem_mem h1)
  omega
 | k + 1, hk => ⟨_, truth_fwd hr h k (by omega), next_mem h.sp (tells_tellS r by_ k d ds rs) (tells_tellS r by_ (k + 1) d ds rs), h.ok (k + 1) hk⟩
theorem truth_goesOn {r : Riv} {by_ looks d : Nat} {ds rs : Nat → Nat} (h : TruthF r by_ looks d ds rs) : ∀ n day, day + n ≤ r.days → goesOn r by_ looks n day (tellS r by_ day d ds rs)
 | 0, _, _ => trivial
 | n + 1, day, hd => ⟨tellS r by_ (day + 1) d ds rs, next_mem h.sp (tells_tellS r by_ day d ds rs) (tells_tellS r by_ (day + 1) d ds rs), h.ok (day + 1) (by omega), truth_goesOn h n (day + 1) (by omega)⟩
theorem allS_iff {r : Riv} (hr : FrOk r) {by_ looks day : Nat} (hd : day ≤ r.days) {s : St} : AllS r by_ looks day s ↔ ∃ d ds rs, TruthF r by_ looks d ds rs ∧ Tells r by_ day d ds rs s := by
 constructor
 ·rintro ⟨h1, h2⟩; obtain ⟨d, ds, rs, q1, q2, q3, q4, q5⟩ := fwd_tells hr day s h1; obtain ⟨ds', rs', r1, r2, r3⟩ := goesOn_tells _ day s ds rs h2 q3 q4 q5
  exact ⟨d, ds', rs', ⟨q1, q2, r1, fun j hj => r3 j (by omega)⟩, q4.agree r2 (Nat.le_refl _)⟩
 ·rintro ⟨d, ds, rs, h1, h2⟩; rw [tells_unique h2 (tells_tellS r by_ day d ds rs)]; exact ⟨truth_fwd hr h1 day hd, truth_goesOn h1 _ day (by omega)⟩
end Go.Proofs.YtgmfhngcehkibaaGreat
namespace Go.Proofs.YtgmfhngcehkibaaGreat
def listsP : List NSp → List (List Nat)
 | [] => [[]]
 | s :: l => (List.range (s.hi + 1 - s.lo)).flatMap fun k => (listsP l).map ((s.lo + k) :: ·)
theorem mem_listsP : ∀ (l : List NSp) (x : List Nat), x ∈ listsP l ↔ x.length = l.length ∧ ∀ i s, l[i]? = some s → s.lo ≤ x.getD i 0 ∧ x.getD i 0 ≤ s.hi := by
 intro l
 induction l with
 | nil =>
  intro x; simp only [listsP, List.mem_singleton, List.length_nil, List.length_eq_zero_iff, List.getElem?_nil, reduceCtorEq, false_implies, implies_true, and_true]
 | cons s l ih =>
  intro x; simp only [listsP, List.mem_flatMap, List.mem_range, List.mem_map]; constructor
  ·rintro ⟨k, hk, y, hy, rfl⟩; obtain ⟨h1, h2⟩ := (ih y).1 hy
   refine ⟨by simp [h1], fun i s' hi => ?_⟩
   cases i with
   | zero =>
    simp only [List.getElem?_cons_zero, Option.some.injEq] at hi; subst hi; simp only [List.getD_cons_zero]
    omega
   | succ i =>
    simp only [List.getElem?_cons_succ] at hi
    simpa only [List.getD_cons_succ] using h2 i s' hi
  ·rintro ⟨h1, h2⟩
   cases x with
   | nil => simp at h1
   | cons a y =>
    have h3 := h2 0 s rfl; simp only [List.getD_cons_zero] at h3
    refine ⟨a - s.lo, by omega, y, (ih y).2 ⟨by simpa using h1, fun i s' hi => ?_⟩, by congr 1; omega⟩
    simpa only [List.getD_cons_succ] using h2 (i + 1) s' (by simpa using hi)
structure Tr where
 d : Nat
 by_ : Nat
 ds : List Nat
 rs : List Nat
deriving DecidableEq
def spansP (r : Riv) : List NSp := r.depth :: r.fall :: (r.fr.map (·.days) ++ r.fr.map (·.rise))
def trOf (n : Nat) (l : List Nat) : Tr := ⟨l.getD 0 0, l.getD 1 0, (l.drop 2).take n, l.drop (2 + n)⟩
def Tr.dsF (t : Tr) (i : Nat) : Nat := t.ds.getD i 0
def Tr.rsF (t : Tr) (i : Nat) : Nat := t.rs.getD i 0
def Tr.at_ (t : Tr) (day : Nat) : Nat := atF t.d t.by_ t.ds.length t.dsF t.rsF day
def okP (r : Riv) (set : Nat) (t : Tr) (k : Nat) : Bool := match r.lk[k]? with
 | some l => !(set.testBit k && !inB (t.at_ l.day) l.dep.lo l.dep.hi)
 | none => true
def rightN (r : Riv) (set : Nat) (t : Tr) : Nat → Bool
 | 0 => true
 | k + 1 => rightN r set t k && okP r set t k
def rightP (r : Riv) (set : Nat) (t : Tr) : Bool := rightN r set t r.lk.length
def truthsP (r : Riv) (set : Nat) : List Tr := ((listsP (spansP r)).map (trOf r.fr.length)).filter (rightP r set)
theorem rightN_iff {r : Riv} {set : Nat} {t : Tr} : ∀ n, rightN r set t n = true ↔ ∀ k, k < n → okP r set t k = true := by
 intro n
 induction n with
 | zero => simp [rightN]
 | succ n ih =>
  rw [rightN, Bool.and_eq_true, ih]; constructor
  ·rintro ⟨h1, h2⟩ k hk
   by_cases e : k = n
   ·subst e; exact h2
   ·exact h1 k (by omega)
  ·exact fun h => ⟨fun k hk => h k (by omega), h n (by omega)⟩
def LkOk (r : Riv) : Prop := ∀ l ∈ r.lk, l.day ≤ r.days
theorem rightP_iff {r : Riv} (hl : LkOk r) {set : Nat} {t : Tr} : rightP r set t = true ↔ ∀ day, day ≤ r.days → fits r set day (t.at_ day) = true := by
 unfold rightP; rw [rightN_iff]; constructor
 ·intro h day hd; rw [fits_iff]; intro k l hk hb hday; have := h k (List.getElem?_eq_some_iff.1 hk).1; unfold okP at this; rw [hk] at this; simp only [hb, Bool.true_and, Bool.not_not] at this; have := inB_iff.1 this; subst hday
  omega
 ·intro h k hk; have hk' : r.lk[k]? = some r.lk[k] := List.getElem?_eq_getElem hk; unfold okP; rw [hk']; simp only
  cases hb : set.testBit k
  ·rfl
  ·have := fits_iff.1 (h r.lk[k].day (hl _ (List.getElem_mem hk))) k _ hk' hb rfl; have h2 : inB (t.at_ r.lk[k].day) r.lk[k].dep.lo r.lk[k].dep.hi = true := inB_iff.2 (by omega)
   rw [h2]; rfl
theorem getD_take {l : List Nat} {n i : Nat} (h : i < n) : (l.take n).getD i 0 = l.getD i 0 := by
 simp only [List.getD_eq_getElem?_getD, List.getElem?_take, h, if_true]
theorem getD_drop {l : List Nat} {n i : Nat} : (l.drop n).getD i 0 = l.getD (n + i) 0 := by
 simp only [List.getD_eq_getElem?_getD, List.getElem?_drop]
theorem mem_truthsP {r : Riv} (hl : LkOk r) {set : Nat} {t : Tr} : t ∈ truthsP r set ↔ t.ds.length = r.fr.length ∧ t.rs.length = r.fr.length ∧ r.fall.lo ≤ t.by_ ∧ t.by_ ≤ r.fall.hi ∧ TruthF r t.by_ set t.d t.dsF t.rsF := by
 have hsp : (spansP r).length = 2 + (r.fr.length + r.fr.length) := by simp [spansP]; omega
 unfold truthsP; rw [List.mem_filter, List.mem_map, rightP_iff hl]; constructor
 ·rintro ⟨⟨x, hx, rfl⟩, h2⟩; obtain ⟨h3, h4⟩ := (mem_listsP _ _).1 hx; rw [hsp] at h3; have e1 : (trOf r.fr.length x).ds.length = r.fr.length := by simp [trOf]; omega
  have e2 : (trOf r.fr.length x).rs.length = r.fr.length := by simp [trOf]; omega
  have f0 := h4 0 _ rfl; have f1 := h4 1 _ rfl
  refine ⟨e1, e2, f1.1, f1.2, f0.1, f0.2, fun i f hf => ?_, fun day hd => ?_⟩
  ·have hi : i < r.fr.length := (List.getElem?_eq_some_iff.1 hf).1
   have g1 := h4 (2 + i) f.days (by
    rw [spansP, show 2 + i = (i + 1) + 1 by omega, List.getElem?_cons_succ, List.getElem?_cons_succ, List.getElem?_append_left (by simpa using hi), List.getElem?_map, hf]; rfl)
   have g2 := h4 (2 + r.fr.length + i) f.rise (by
    rw [spansP, show 2 + r.fr.length + i = (r.fr.length + i + 1) + 1 by omega, List.getElem?_cons_succ, List.getElem?_cons_succ, List.getElem?_append_right (by simp), List.getElem?_map]
    simp only [List.length_map, Nat.add_sub_cancel_left, hf]; rfl)
   have d1 : (trOf r.fr.length x).dsF i = x.getD (2 + i) 0 := by
    unfold Tr.dsF trOf; simp only; rw [getD_take hi, getD_drop]
   have d2 : (trOf r.fr.length x).rsF i = x.getD (2 + r.fr.length + i) 0 := by
    unfold Tr.rsF trOf; simp only; rw [getD_drop]
   rw [d1, d2]; exact ⟨g1.1, g1.2, g2.1, g2.2⟩
  ·have := h2 day hd; unfold Tr.at_ at this
   rwa [e1] at this
 ·rintro ⟨h1, h2, h3, h4, h5⟩; obtain ⟨d, by_, ds, rs⟩ := t; simp only at h1 h2 h3 h4 h5
  refine ⟨⟨d :: by_ :: (ds ++ rs), (mem_listsP _ _).2 ⟨by rw [hsp]; simp; omega, fun i s hi => ?_⟩, ?_⟩, fun day hd => ?_⟩
  ·cases i with
   | zero =>
    simp only [spansP, List.getElem?_cons_zero, Option.some.injEq] at hi; subst hi; exact ⟨h5.lo, h5.hi⟩
   | succ i =>
    cases i with
    | zero =>
     simp only [spansP, List.getElem?_cons_succ, List.getElem?_cons_zero, Option.some.injEq] at hi; subst hi; exact ⟨h3, h4⟩
    | succ i =>
     simp only [spansP, List.getElem?_cons_succ] at hi; simp only [List.getD_cons_succ]
     by_cases hin : i < r.fr.length
     ·rw [List.getElem?_append_left (by simpa using hin), List.getElem?_map, List.getElem?_eq_getElem hin] at hi
      simp only [Option.map_some, Option.some.injEq] at hi; subst hi; have := h5.sp i _ (List.getElem?_eq_getElem hin); have e : (ds ++ rs).getD i 0 = ds.getD i 0 := by simp only [List.getD_eq_getElem?_getD, List.getElem?_append_left (show i < ds.length by omega)]
      rw [e]; exact ⟨this.1, this.2.1⟩
     ·rw [List.getElem?_append_right (by simpa using Nat.le_of_not_lt hin), List.getElem?_map] at hi
      simp only [List.length_map] at hi
      have hlt : i - r.fr.length < r.fr.length := by
       rw [Option.map_eq_some_iff] at hi; obtain ⟨f, hf, _⟩ := hi; exact (List.getElem?_eq_some_iff.1 hf).1
      rw [List.getElem?_eq_getElem hlt] at hi; simp only [Option.map_some, Option.some.injEq] at hi; subst hi; have := h5.sp _ _ (List.getElem?_eq_getElem hlt); have e : (ds ++ rs).getD i 0 = rs.getD (i - r.fr.length) 0 := by simp only [List.getD_eq_getElem?_getD, List.getElem?_append_right (show ds.length ≤ i by omega), h1]
      rw [e]; exact ⟨this.2.2.1, this.2.2.2⟩
  ·simp [trOf, ← h1, Nat.add_comm 2]
  ·have := h5.ok day hd; unfold Tr.at_; simp only; rw [h1]; exact this
theorem riseN_ext {ds rs ds' rs' : Nat → Nat} {day : Nat} : ∀ n, (∀ i, i < n → ds i = ds' i ∧ rs i = rs' i) → riseN ds rs day n = riseN ds' rs' day n
 | 0, _ => rfl
 | n + 1, h => by
  obtain ⟨h1, h2⟩ := h n (by omega)
  rw [riseN, riseN, riseN_ext n (fun i hi => h i (by omega)), h1, h2]
theorem atF_ext {ds rs ds' rs' : Nat → Nat} {d by_ n : Nat} (h : ∀ i, i < n → ds i = ds' i ∧ rs i = rs' i) : ∀ day, atF d by_ n ds rs day = atF d by_ n ds' rs' day
 | 0 => rfl
 | k + 1 => by rw [atF, atF, atF_ext h k, riseN_ext n h]
def Tr.of (d by_ n : Nat) (ds rs : Nat → Nat) : Tr := ⟨d, by_, (List.range n).map ds, (List.range n).map rs⟩
theorem Tr.of_ds {d by_ n : Nat} {ds rs : Nat → Nat} {i : Nat} (h : i < n) : (Tr.of d by_ n ds rs).dsF i = ds i ∧ (Tr.of d by_ n ds rs).rsF i = rs i := by
 unfold Tr.dsF Tr.rsF Tr.of; simp only [List.getD_eq_getElem?_getD, List.getElem?_map, List.getElem?_range h]; exact ⟨rfl, rfl⟩
theorem Tr.of_at {d by_ n : Nat} {ds rs : Nat → Nat} (day : Nat) : (Tr.of d by_ n ds rs).at_ day = atF d by_ n ds rs day := by
 have e : (Tr.of d by_ n ds rs).ds.length = n := by simp [Tr.of]
 unfold Tr.at_; rw [e]
 exact atF_ext (fun i hi => Tr.of_ds hi) day
theorem truth_of {r : Riv} (hl : LkOk r) {set d by_ : Nat} {ds rs : Nat → Nat} (h1 : r.fall.lo ≤ by_) (h2 : by_ ≤ r.fall.hi) (h : TruthF r by_ set d ds rs) : Tr.of d by_ r.fr.length ds rs ∈ truthsP r set := by
 refine (mem_truthsP hl).2 ⟨by simp [Tr.of], by simp [Tr.of], h1, h2, h.lo, h.hi, fun i f hf => ?_, fun day hd => ?_⟩
 ·have hi := (List.getElem?_eq_some_iff.1 hf).1; obtain ⟨e1, e2⟩ := Tr.of_ds (d := d) (by_ := by_) (ds := ds) (rs := rs) hi; rw [e1, e2]; exact h.sp i f hf
 ·rw [show atF (Tr.of d by_ r.fr.length ds rs).d (Tr.of d by_ r.fr.length ds rs).by_ r.fr.length (Tr.of d by_ r.fr.length ds rs).dsF (Tr.of d by_ r.fr.length ds rs).rsF day = atF d by_ r.fr.length ds rs day from atF_ext (fun i hi => Tr.of_ds hi) day]
  exact h.ok day hd
theorem allS_truths {r : Riv} (hr : FrOk r) (hl : LkOk r) {by_ set day : Nat} (hd : day ≤ r.days) (h1 : r.fall.lo ≤ by_) (h2 : by_ ≤ r.fall.hi) {s : St} : AllS r by_ set day s ↔ ∃ t ∈ truthsP r set, t.by_ = by_ ∧ s.1 = t.at_ day ∧ ∀ j, s.2.testBit j = decide (j < r.fr.length ∧ t.dsF j ≤ day) := by
 rw [allS_iff hr hd]; constructor
 ·rintro ⟨d, ds, rs, h3, h4, h5⟩
  refine ⟨_, truth_of hl h1 h2 h3, rfl, by rw [Tr.of_at]; exact h4, fun j => ?_⟩
  rw [h5 j]
  by_cases hj : j < r.fr.length
  ·rw [(Tr.of_ds hj).1]
  ·simp [hj]
 ·rintro ⟨t, ht, rfl, h4, h5⟩; obtain ⟨e1, _, _, _, h6⟩ := (mem_truthsP hl).1 ht; refine ⟨t.d, t.dsF, t.rsF, h6, ?_, h5⟩; rw [h4]; unfold Tr.at_; rw [e1]
def hullP : List Nat → Nat × Nat
 | [] => (0, 0)
 | x :: l => (l.foldl min x, l.foldl max x)
structure IsHull (l : List Nat) (s : Nat × Nat) : Prop where
 lo : s.1 ∈ l
 hi : s.2 ∈ l
 le : ∀ x ∈ l, s.1 ≤ x
 ge : ∀ x ∈ l, x ≤ s.2
theorem foldl_min : ∀ (l : List Nat) (x : Nat), (l.foldl min x ∈ x :: l) ∧ ∀ y ∈ x :: l, l.foldl min x ≤ y
 | [], x => by simp
 | a :: l, x => by
  obtain ⟨h1, h2⟩ := foldl_min l (min x a); simp only [List.foldl_cons]
  refine ⟨?_, fun y hy => ?_⟩
  ·rcases List.mem_cons.1 h1 with h | h
   ·rw [h]; rcases Nat.le_total x a with h | h
    ·rw [Nat.min_eq_left h]; simp
    ·rw [Nat.min_eq_right h]; simp
   ·simp [h]
  ·have h3 := h2 (min x a) (by simp)
   rcases List.mem_cons.1 hy with rfl | hy
   ·omega
   ·rcases List.mem_cons.1 hy with rfl | hy
    ·omega
    ·exact h2 y (by simp [hy])
theorem foldl_max : ∀ (l : List Nat) (x : Nat), (l.foldl max x ∈ x :: l) ∧ ∀ y ∈ x :: l, y ≤ l.foldl max x
 | [], x => by simp
 | a :: l, x => by
  obtain ⟨h1, h2⟩ := foldl_max l (max x a); simp only [List.foldl_cons]
  refine ⟨?_, fun y hy => ?_⟩
  ·rcases List.mem_cons.1 h1 with h | h
   ·rw [h]; rcases Nat.le_total x a with h | h
    ·rw [Nat.max_eq_right h]; simp
    ·rw [Nat.max_eq_left h]; simp
   ·simp [h]
  ·have h3 := h2 (max x a) (by simp)
   rcases List.mem_cons.1 hy with rfl | hy
   ·omega
   ·rcases List.mem_cons.1 hy with rfl | hy
    ·omega
    ·exact h2 y (by simp [hy])
theorem hullP_is {l : List Nat} (h : l ≠ []) : IsHull l (hullP l) := by
 cases l with
 | nil => exact absurd rfl h
 | cons x l => exact ⟨(foldl_min l x).1, (foldl_max l x).1, (foldl_min l x).2, (foldl_max l x).2⟩
theorem IsHull.unique {l m : List Nat} {s t : Nat × Nat} (h : IsHull l s) (g : IsHull m t) (e : ∀ x, x ∈ l ↔ x ∈ m) : s = t := by
 obtain ⟨s1, s2⟩ := s; obtain ⟨t1, t2⟩ := t; have a1 := h.le _ ((e _).2 g.lo); have a2 := g.le _ ((e _).1 h.lo); have a3 := h.ge _ ((e _).2 g.hi); have a4 := g.ge _ ((e _).1 h.hi); simp only at a1 a2 a3 a4
 congr 1 <;> omega
theorem hullP_congr {l m : List Nat} (e : ∀ x, x ∈ l ↔ x ∈ m) : hullP l = hullP m := by
 by_cases h : l = []
 ·subst h
  have : m = [] := List.eq_nil_iff_forall_not_mem.2 fun x hx => by simpa using (e x).2 hx
  rw [this]
 ·have hm : m ≠ [] := fun hm => h (List.eq_nil_iff_forall_not_mem.2 fun x hx => by have := (e x).1 hx; rw [hm] at this; simp at this)
  exact (hullP_is h).unique (hullP_is hm) e
end Go.Proofs.YtgmfhngcehkibaaGreat
namespace Go.Proofs.YtgmfhngcehkibaaGreat
structure ISp where
 lo : Int
 hi : Int
structure IFr where
 days : ISp
 rise : ISp
structure ILk where
 day : Int
 dep : ISp
structure IRiv where
 depth : ISp
 fall : ISp
 days : Int
 fr : List IFr
 lk : List ILk
def spB (s : ISp) (low high much : Int) : Bool := decide (low ≤ s.lo) && decide (s.lo ≤ s.hi) && decide (s.hi ≤ high) && decide (s.hi - s.lo ≤ much)
theorem spB_iff {s : ISp} {low high much : Int} : spB s low high much = true ↔ low ≤ s.lo ∧ s.lo ≤ s.hi ∧ s.hi ≤ high ∧ s.hi - s.lo ≤ much := by simp [spB, and_assoc]
def headB (r : IRiv) : Bool := spB r.depth 0 60 4 && spB r.fall 0 5 2 && inB r.days 1 10 && decide (r.fr.length ≤ 3) && decide (r.lk.length ≤ 5)
def frB (days : Int) (f : IFr) : Bool := spB f.days 1 days 3 && spB f.rise 1 20 3
def lkB (days : Int) (l : ILk) : Bool := inB l.day 0 days && spB l.dep 0 200 200
def okR (r : IRiv) : Bool := headB r && r.fr.all (frB r.days) && r.lk.all (lkB r.days)
def ISp.nat (s : ISp) : NSp := ⟨s.lo.toNat, s.hi.toNat⟩
def IFr.nat (f : IFr) : NFr := ⟨f.days.nat, f.rise.nat⟩
def ILk.nat (l : ILk) : NLk := ⟨l.day.toNat, l.dep.nat⟩
def IRiv.nat (r : IRiv) : Riv := ⟨r.depth.nat, r.fall.nat, r.days.toNat, r.fr.map (·.nat), r.lk.map (·.nat)⟩
def truthsA (r : Riv) : List Tr := truthsP r (full r.lk.length)
def depthP (r : Riv) (day : Nat) : Nat × Nat := hullP ((truthsA r).map (·.at_ day))
def bearsP (r : Riv) (draws day : Nat) : Nat := if draws ≤ (depthP r day).1 then 2 else if draws ≤ (depthP r day).2 then 1 else 0
def setN (f : Nat → Bool) : Nat → Nat
 | 0 => 0
 | n + 1 => setN f n + if f n then 2 ^ n else 0
theorem setN_lt (f : Nat → Bool) : ∀ n, setN f n < 2 ^ n
 | 0 => by simp [setN]
 | n + 1 => by
  have := setN_lt f n; rw [setN, Nat.pow_succ]
  split <;> omega
theorem tb_setN (f : Nat → Bool) : ∀ n j, (setN f n).testBit j = (decide (j < n) && f j)
 | 0, j => by simp [setN]
 | n + 1, j => by
  have hlt := setN_lt f n; rw [setN]
  by_cases hj : j = n
  ·subst hj
   cases h : f j
   ·simp only [Bool.false_eq_true, if_false, Nat.add_zero, Bool.and_false]; exact Nat.testBit_lt_two_pow hlt
   ·simp only [if_true]; rw [Nat.add_comm, Nat.testBit_two_pow_add_eq, Nat.testBit_lt_two_pow hlt]
    simp
  ·rw [show decide (j < n + 1) = decide (j < n) from decide_eq_decide.2 (by omega), ← tb_setN f n j]
   split
   ·rcases Nat.lt_or_gt_of_ne hj with h1 | h1
    ·rw [Nat.add_comm, Nat.testBit_two_pow_add_gt h1]
    ·rw [Nat.testBit_lt_two_pow (Nat.lt_of_lt_of_le (show setN f n + 2 ^ n < 2 ^ (n + 1) by rw [Nat.pow_succ]; omega) (Nat.pow_le_pow_right (by omega) (by omega))), Nat.testBit_lt_two_pow (Nat.lt_of_lt_of_le hlt (Nat.pow_le_pow_right (by omega) (by omega)))]
   ·rw [Nat.add_zero]
def surelyP (r : Riv) (draws : Nat) : Nat := setN (fun d => bearsP r draws d == 2) (r.days + 1)
def perhapsP (r : Riv) (draws : Nat) : Nat := setN (fun d => bearsP r draws d != 0) (r.days + 1)
def sizeN (s : Nat) : Nat → Nat
 | 0 => 0
 | n + 1 => sizeN s n + if s.testBit n then 1 else 0
def sizeP (s : Nat) : Nat := sizeN s 5
def clashB (r : Riv) (s : Nat) : Bool := (truthsP r s).isEmpty
def clashN (r : Riv) (best : Nat) : Nat → Nat
 | 0 => best
 | n + 1 => if clashB r n = true ∧ sizeP n < sizeP (clashN r best n) then n else clashN r best n
def clashP (r : Riv) : Nat := clashN r (full r.lk.length) (full r.lk.length + 1)
def toldE (r : IRiv) (is : Bool) : Nat := if okR r = false then 1 else if is = false then 2 else if truthsA r.nat = [] then 10 else 0
def isDayB (r : IRiv) (n : Int) : Bool := inB n 0 r.days
def isDrB (n : Int) : Bool := inB n 0 200
def daysE (r : IRiv) (draws : Int) : Nat := toldE r (isDrB draws)
def surelyV (r : IRiv) (draws : Int) : Nat := if daysE r draws = 0 then surelyP r.nat draws.toNat else 0
def perhapsV (r : IRiv) (draws : Int) : Nat := if daysE r draws = 0 then perhapsP r.nat draws.toNat else 0
def clashE (r : IRiv) : Nat := if okR r = false then 1 else if truthsA r.nat = [] then 0 else 4
def clashV (r : IRiv) : Nat := if clashE r = 0 then clashP r.nat else 0
end Go.Proofs.YtgmfhngcehkibaaGreat
namespace Go.Proofs.YtgmfhngcehkibaaGreat
def atN (l : List Nat) (i : Nat) : Nat := (l[i]?).getD 0
def lessN (x y : Nat) : Bool := decide (sizeP x < sizeP y)
def swapN (l : List Nat) (i j : Nat) : List Nat := (l.set i (atN l j)).set j (atN l i)
def sinkF (a : Nat) : Nat → List Nat → List Nat
 | 0, l => l
 | j + 1, l => if a < j + 1 ∧ lessN (atN l (j + 1)) (atN l j) = true then sinkF a j (swapN l (j + 1) j) else l
def insF (a : Nat) : Nat → Nat → List Nat → List Nat
 | 0, _, l => l
 | n + 1, i, l => insF a n (i + 1) (sinkF a i l)
def swapR (a b : Nat) : Nat → Nat → List Nat → List Nat
 | 0, _, l => l
 | n + 1, i, l => swapR a b n (i + 1) (swapN l (a + i) (b + i))
def rotF (m : Nat) : Nat → Nat → Nat → List Nat → List Nat
 | 0, _, _, l => l
 | f + 1, i, j, l => if i = j then swapR (m - i) m i 0 l else if j < i then rotF m f (i - j) j (swapR (m - i) m j 0 l) else rotF m f i (j - i) (swapR (m - i) (m + j - i) i 0 l)
def halfF (p : Nat → Bool) : Nat → Nat → Nat → Nat
 | 0, i, _ => i
 | f + 1, i, j => if i < j then (if p ((i + j) / 2) = true then halfF p f ((i + j) / 2 + 1) j else halfF p f i ((i + j) / 2)) else i
def upF : Nat → Nat → List Nat → List Nat
 | 0, _, l => l
 | n + 1, k, l => upF n (k + 1) (swapN l k (k + 1))
def downF : Nat → Nat → List Nat → List Nat
 | 0, _, l => l
 | n + 1, k, l => downF n (k - 1) (swapN l k (k - 1))
def symF : Nat → Nat → Nat → Nat → List Nat → List Nat
 | 0, _, _, _, l => l
 | f + 1, a, m, b, l =>
  if m - a = 1 then let i := halfF (fun h => lessN (atN l h) (atN l a)) 40 m b; upF (i - 1 - a) a l
  else if b - m = 1 then let i := halfF (fun h => !lessN (atN l m) (atN l h)) 40 a m; downF (m - i) m l
  else
   let mid := (a + b) / 2
   let n := mid + m
   let start := if mid < m then n - b else a
   let r := if mid < m then mid else m
   let s := halfF (fun c => !lessN (atN l (n - 1 - c)) (atN l c)) 40 start r
   let e := n - s
   let l1 := if s < m ∧ m < e then rotF m 40 (m - s) (e - m) l else l
   let l2 := if a < s ∧ s < mid then symF f a s mid l1 else l1
   if mid < e ∧ e < b then symF f mid e b l2 else l2
def stableF (n : Nat) (l : List Nat) : List Nat :=
 if n < 20 then insF 0 (n - 1) 1 l
 else
  let l1 := insF 20 (n - 21) 21 (insF 0 19 1 l)
  if 20 < n then symF 10 0 20 n l1 else l1
def bySize (n : Nat) : List Nat := ((List.range 6).map fun k => (List.range (2 ^ n)).filter fun s => sizeP s == k).flatten
theorem stable_sets : ∀ n, n < 6 → stableF (2 ^ n) (List.range (2 ^ n)) = bySize n := by decide +kernel
end Go.Proofs.YtgmfhngcehkibaaGreat
namespace Go.Proofs.YtgmfhngcehkibaaGreat
theorem bySize_facts : ∀ n, n < 6 → (bySize n).length = 2 ^ n ∧ (∀ s, s < 2 ^ n → s ∈ bySize n) ∧ (∀ x ∈ bySize n, x < 2 ^ n) ∧ (bySize n).Pairwise (fun a b => sizeP a < sizeP b ∨ (sizeP a = sizeP b ∧ a < b)) ∧ (∀ s, s < 2 ^ n → sizeP (2 ^ n - 1) ≤ sizeP s → s = 2 ^ n - 1) := by decide +kernel
theorem clashN_is {r : Riv} {b : Nat} (hb : ∀ s, s ≤ b → sizeP b ≤ sizeP s → s = b) (hc : clashB r b = true) : ∀ n, n ≤ b + 1 → (clashN r b n ≤ b ∧ clashB r (clashN r b n) = true ∧ (clashN r b n < n ∨ clashN r b n = b)) ∧ ∀ u, u < n → clashB r u = true → sizeP (clashN r b n) < sizeP u ∨ (sizeP (clashN r b n) = sizeP u ∧ clashN r b n ≤ u)
 | 0, _ => ⟨⟨Nat.le_refl _, hc, .inr rfl⟩, fun u h => by omega⟩
 | n + 1, hn => by
  obtain ⟨⟨h1, h2, h3⟩, h4⟩ := clashN_is hb hc n (by omega)
  obtain ⟨c, hcc⟩ : ∃ c, clashN r b n = c := ⟨_, rfl⟩; rw [hcc] at h1 h2 h3 h4; rw [clashN, hcc]
  split
  ·rename_i h
   refine ⟨⟨by omega, h.1, .inl (by omega)⟩, fun u hu hcu => ?_⟩
   by_cases e : u = n
   ·subst e; exact .inr ⟨rfl, Nat.le_refl _⟩
   ·rcases h4 u (by omega) hcu with h5 | h5
    ·exact .inl (by omega)
    ·exact .inl (by omega)
  ·rename_i h
   refine ⟨⟨h1, h2, by omega⟩, fun u hu hcu => ?_⟩
   by_cases e : u = n
   ·subst e
    have h5 : ¬ sizeP u < sizeP c := fun h6 => h ⟨hcu, h6⟩
    by_cases h6 : sizeP c < sizeP u
    ·exact .inl h6
    ·refine .inr ⟨by omega, ?_⟩
     rcases h3 with h3 | h3
     ·omega
     ·subst h3; have := hb u (by omega) (by omega)
      omega
   ·exact h4 u (by omega) hcu
theorem first_clash {r : Riv} {n : Nat} (hn : r.lk.length = n) (h5 : n ≤ 5) (hf : full n = 2 ^ n - 1) (hc : clashB r (full n) = true) :
  ∃ j, j < 2 ^ n ∧ (bySize n)[j]? = some (clashP r) ∧ clashB r (clashP r) = true ∧ ∀ i x, i < j → (bySize n)[i]? = some x → clashB r x = false := by
 obtain ⟨b1, b2, b3, b4, b5⟩ := bySize_facts n (by omega)
 have hp : 0 < 2 ^ n := Nat.two_pow_pos n
 have hk := clashN_is (r := r) (b := full n) (fun s hs => by rw [hf] at hs ⊢; exact b5 s (by omega)) hc (full n + 1) (Nat.le_refl _)
 have e : clashN r (full n) (full n + 1) = clashP r := by unfold clashP; rw [hn]
 rw [e] at hk; obtain ⟨⟨k1, k2, _⟩, k3⟩ := hk; obtain ⟨i, hi⟩ := List.getElem?_of_mem (b2 (clashP r) (by rw [hf] at k1; omega))
 have hil := (List.getElem?_eq_some_iff.1 hi).1
 refine ⟨i, by rw [← b1]; exact hil, hi, k2, fun j x hj hx => ?_⟩
 cases hcx : clashB r x with
 | false => rfl
 | true =>
  have hxl := (List.getElem?_eq_some_iff.1 hx).1; have h6 := List.pairwise_iff_getElem.1 b4 j i hxl hil hj; rw [(List.getElem?_eq_some_iff.1 hx).2, (List.getElem?_eq_some_iff.1 hi).2] at h6; have h7 := k3 x (by have := b3 x (List.mem_of_getElem? hx); rw [hf]; omega) hcx
  omega
end Go.Proofs.YtgmfhngcehkibaaGreat
namespace Go.Hav
open Go.RowKit
def Grow (w w' : World) : Prop := Below w.heap.size w w'
theorem Grow.refl (w : World) : Grow w w := Below.refl _ _
theorem Grow.trans {a b c : World} (h : Grow a b) (k : Grow b c) : Grow a c := Below.trans h (Below.mono k h.size)
def RelW : HavG.Rel where
 G := Grow
 refl := Grow.refl
 trans := Grow.trans
 drew w := Below.drew (Below.refl _ w)
theorem ho {α : Type} {l : List α} {i : Nat} {o : α} (h : l[i]? = some o) : l.toArray[i]? = some o := by simpa using h
theorem cvB {B : Nat} {w w' : World} (h : Below B w w') : ∀ b o, b < B → w'.cell? ⟨b, o, none⟩ = w.cell? ⟨b, o, none⟩ := fun b o hb => h.cell (p := ⟨b, o, none⟩) hb
abbrev Qh := @HavG.Qh
abbrev stepOf := @HavG.stepOf
abbrev wpHav := @HavG.wpHav RelW
abbrev havOk := @HavG.havOk
abbrev Agree := @HavG.Agree
section
variable {P : Program} {ops : Array Oper}
theorem wp_region_havoc {Q : Exit → Act → World → Prop} (π : List (Nat × Bool)) (τ : List Nat) (Qp : List PanicEntry → World → Prop) {id : Nat} {a : Act} {w : World} (hm : P.follows .mixedOrders = true) (hok : havOk ops π τ = true)
  (hQ : ∀ ch a' w', Agree ops (π.map (·.1)) a a' → Qp ch w' → Q (.panic ch) a' w')
  (h : wpHav P ops Qp w (fun a F => ∀ w', Grow w w' → F w' → wpList P ops Q (τ.filterMap (ops[·]?)) a w') π a (fun _ => True)) : (Code.region id ops true).wp P Q a w :=
 HavG.wp_region_havoc (R := RelW) π τ Qp hm hok hQ h
theorem hav_ghost {Qp : List PanicEntry → World → Prop} {w0 : World} {Cont : Act → (World → Prop) → Prop} {i : Nat} {rest : List (Nat × Bool)} {a : Act} {F : World → Prop} {o : Oper} (Φ : Value → World → Prop) (ho : ops[i]? = some o)
  (hst : ∀ v w w', Φ v w → Grow w w' → Φ v w')
  (h1 : ∀ w, Grow w0 w → F w → ∀ K : Act → World → Prop, (∀ v w', Grow w w' → Φ v w' → K (a.put o.dst v) w') → stepOf P ops o a w K (Qh Qp))
  (h2 : ∀ v, wpHav P ops Qp w0 Cont rest (a.put o.dst v) (fun w => F w ∧ Φ v w)) : wpHav P ops Qp w0 Cont ((i, true) :: rest) a F :=
 HavG.hav_ghost (R := RelW) Φ ho hst h1 h2
theorem hav_skip {Qp : List PanicEntry → World → Prop} {w0 : World} {Cont : Act → (World → Prop) → Prop} {i : Nat} {rest : List (Nat × Bool)} {a : Act} {F : World → Prop} {o : Oper} (ho : ops[i]? = some o)
  (hw : Region.wanted o (yielded ops a.tmps) = false)
  (h2 : wpHav P ops Qp w0 Cont rest (a.put o.dst undef) F) : wpHav P ops Qp w0 Cont ((i, false) :: rest) a F :=
 HavG.hav_skip (R := RelW) ho hw h2
theorem hav_same {Qp : List PanicEntry → World → Prop} {w0 : World} {Cont : Act → (World → Prop) → Prop} {i : Nat} {rest : List (Nat × Bool)} {a : Act} {F : World → Prop} {o : Oper} {V : Value} (ho : ops[i]? = some o)
  (hw : Region.wanted o (yielded ops a.tmps) = true) (h1 : ∀ w, Grow w0 w → F w → (execOp a.eval o).run P w = .ok (.value V) w)
  (h2 : wpHav P ops Qp w0 Cont rest (a.put o.dst V) F) : wpHav P ops Qp w0 Cont ((i, false) :: rest) a F :=
 HavG.hav_same (R := RelW) ho hw h1 h2
theorem hav_call {Qp : List PanicEntry → World → Prop} {w0 : World} {Cont : Act → (World → Prop) → Prop} {i : Nat} {rest : List (Nat × Bool)} {a : Act} {F : World → Prop} {o : Oper} {V : Value} {f : FuncId} {args : Array Value} (ho : ops[i]? = some o)
  (hw : Region.wanted o (yielded ops a.tmps) = true) (h0 : ∀ w, (execOp a.eval o).run P w = .ok (.enter f args) w)
  (h1 : ∀ w, Grow w0 w → F w → Calls P f args w fun e w' => e = .returned V ∧ Below w.heap.size w w')
  (h2 : wpHav P ops Qp w0 Cont rest (a.put o.dst V) F) : wpHav P ops Qp w0 Cont ((i, false) :: rest) a F :=
 HavG.hav_call (R := RelW) ho hw h0 h1 h2
theorem hav_end {Qp : List PanicEntry → World → Prop} {w0 : World} {Cont : Act → (World → Prop) → Prop} {a : Act} {F : World → Prop} (h : Cont a F) : wpHav P ops Qp w0 Cont [] a F :=
 HavG.hav_end (R := RelW) h
end
end Go.Hav
namespace Go.Proofs.YtgmfhngcehkibaaGreat
open Go.RowKit Go.Hav

theorem hmf0 : ∀ (fn : Fn) (first cap : Array Value) (w : World), (Instr.makeFunc fn first cap).run Tryz.prog w = .ok (.func fn first cap) w := fun _ _ _ _ => rfl
theorem ret_int {k : IntKind} {a b : Int} (h : a = b) : Ending.returned (.int k a) = .returned (.int k b) := by rw [h]
theorem ret_bool {a b : Bool} (h : a = b) : Ending.returned (.bool a) = .returned (.bool b) := by rw [h]

def Blk (w : World) (g : Nat) (t : TypeId) (cs : Array Value) : Prop := w.heap[g]? = some (.cells cs t (0, 0))
section
variable {w w' : World} {g : Nat} {t : TypeId} {cs : Array Value}
theorem Blk.lt (h : Blk w g t cs) : g < w.heap.size := by
 rcases Nat.lt_or_ge g w.heap.size with hlt | hge
 ·exact hlt
 ·unfold Blk at h; rw [Array.getElem?_eq_none hge] at h; cases h
theorem Blk.cell (h : Blk w g t cs) (i : Nat) : w.cell? ⟨g, i, none⟩ = cs[i]? := cell_of_row w g i cs t (0, 0) h
theorem Blk.frozen (h : Blk w g t cs) (i : Nat) : w.frozen? ⟨g, i, none⟩ = false := by
 unfold Blk at h
 simp [World.frozen?, h]
theorem Blk.new (w : World) (t : TypeId) (cs : Array Value) : Blk (w.alloc (.cells cs t)) w.heap.size t cs := heap_alloc_new w _
theorem Blk.new_ {w : World} {g : Nat} (h : w.heap.size = g) (t : TypeId) (cs : Array Value) : Blk (w.alloc (.cells cs t)) g t cs := h ▸ Blk.new w t cs
theorem Blk.drew (h : Blk w g t cs) : Blk w.drew g t cs := h
theorem Blk.alloc (h : Blk w g t cs) (o : Obj) : Blk (w.alloc o) g t cs := (Below.heap_alloc w o g h.lt).trans h
theorem Blk.set_ (h : Blk w g t cs) (i : Nat) (u : Value) : Blk (w.setCell ⟨g, i, none⟩ u) g t (cs.setIfInBounds i u) := by
 unfold Blk at h ⊢
 simp [World.setCell, Array.getElem?_modify, h]
theorem Blk.far (h : Blk w g t cs) {p : Addr} (hp : g ≠ p.block) (u : Value) : Blk (w.setCell p u) g t cs := (Below.heap_setCell w p u g hp).trans h
theorem Blk.below {B : Nat} (h : Blk w g t cs) (hb : Below B w w') (hg : g < B) : Blk w' g t cs := (hb.block g hg).trans h
theorem Blk.grown {row : Option Nat} (h : Blk w g t cs) (hb : w.grownBy w' row) (hg : some g ≠ row) : Blk w' g t cs := (hb.block g h.lt hg).trans h
end

theorem flat_get {α β : Type} (f : α → List β) (sz : Nat) (hsz : ∀ x, (f x).length = sz) : ∀ (l : List α) (k i : Nat), i < sz → (l.flatMap f)[k * sz + i]? = (l[k]?).bind fun x => (f x)[i]? := by
 intro l
 induction l with
 | nil => intro k i _; simp
 | cons x l ih =>
  intro k i hi; rw [List.flatMap_cons]
  cases k with
  | zero => rw [Nat.zero_mul, Nat.zero_add, List.getElem?_append_left (by rw [hsz]; exact hi)]; simp
  | succ k =>
   rw [List.getElem?_append_right (by rw [hsz, Nat.succ_mul]; omega), hsz, show (k + 1) * sz + i - sz = k * sz + i by rw [Nat.succ_mul]; omega, ih k i hi]
   simp
theorem flat_len {α β : Type} (f : α → List β) (sz : Nat) (hsz : ∀ x, (f x).length = sz) : ∀ l : List α, (l.flatMap f).length = l.length * sz := by
 intro l
 induction l with
 | nil => simp
 | cons x l ih => rw [List.flatMap_cons, List.length_append, hsz, ih, List.length_cons, Nat.succ_mul]; omega

def RdG {α : Type} (f : α → List Value) (sz : Nat) (w : World) (B : Nat) (A : Option Addr) (l : List α) : Prop :=
 ∀ (k : Nat) (x : α), l[k]? = some x → ∃ b off, A = some ⟨b, off, none⟩ ∧ b < B ∧ ∀ i u, (f x)[i]? = some u → w.cell? ⟨b, off + (k * sz + i), none⟩ = some u
section
variable {α : Type} {f : α → List Value} {sz : Nat} {w w' : World} {B B' : Nat} {A : Option Addr} {l : List α}
theorem RdG.below (h : RdG f sz w B A l) (hb : Below B w w') : RdG f sz w' B A l := fun k x hx => by
 obtain ⟨b, off, e, hl, hc⟩ := h k x hx
 exact ⟨b, off, e, hl, fun i u hu => (hb.cell (p := ⟨b, _, none⟩) hl).trans (hc i u hu)⟩
theorem RdG.more (h : RdG f sz w B A l) (hB : B ≤ B') : RdG f sz w B' A l := fun k x hx => by
 obtain ⟨b, off, e, hl, hc⟩ := h k x hx; exact ⟨b, off, e, by omega, hc⟩
theorem RdG.grow (h : RdG f sz w w.heap.size A l) (hb : Below w.heap.size w w') : RdG f sz w' w'.heap.size A l := (h.below hb).more hb.size
theorem RdG.nil (f : α → List Value) (sz : Nat) (w : World) (B : Nat) (A : Option Addr) : RdG f sz w B A [] := fun k x hx => by simp at hx
theorem RdG.of_own (hsz : ∀ x, (f x).length = sz) (h0 : 0 < sz) {base : Nat} {e : TypeId} {v : Value} {n : Nat} (h : w.ownsRow base e sz v n (l.flatMap f)) (hB : w.heap.size ≤ B) {len cap : Nat} (hv : v = .slice A len cap) :
  RdG f sz w B A l := by
 intro k x hx; have hk : k < l.length := (List.getElem?_eq_some_iff.1 hx).1; rcases h.2 with ⟨rfl, hn⟩ | ⟨g, c, cur, rfl, hg, hh, _⟩
 ·have := h.1; rw [flat_len f sz hsz, hn, Nat.zero_mul] at this; rcases Nat.mul_eq_zero.1 this with h1 | h1 <;> omega
 ·injection hv with e1 e2 e3
  have hlt : g < w.heap.size := (Array.getElem?_eq_some_iff.1 hh).1
  refine ⟨g, 0, e1.symm, by omega, fun i u hu => ?_⟩
  have hi : i < sz := by rw [← hsz x]; exact (List.getElem?_eq_some_iff.1 hu).1
  have := h.cells (g := g) rfl (k * sz + i) u (by rw [flat_get f sz hsz l k i hi, hx]; exact hu)
  rw [Nat.zero_add]; have ha : (⟨g, 0, none⟩ : Addr).add (k * sz + i) = ⟨g, k * sz + i, none⟩ := by unfold Addr.add; split <;> simp_all
  rwa [ha] at this
theorem own_rd (hsz : ∀ x, (f x).length = sz) (h0 : 0 < sz) {base : Nat} {e : TypeId} {v : Value} (h : w.ownsRow base e sz v l.length (l.flatMap f)) :
  ∃ A cp, v = .slice A l.length cp ∧ RdG f sz w w.heap.size A l ∧ l.length ≤ cp := by
 rcases h.2 with ⟨rfl, hn⟩ | ⟨g, cap, cur, rfl, hg, hh, hle, _⟩
 ·obtain rfl := List.length_eq_zero_iff.1 hn; exact ⟨none, 0, rfl, RdG.nil _ _ _ _ _, by simp⟩
 ·exact ⟨_, cap, rfl, RdG.of_own hsz h0 h (Nat.le_refl _) rfl, hle⟩
end
theorem own_below {w w' : World} {B e size n : Nat} {v : Value} {xs : List Value} (h : w.ownsRow B e size v n xs) (hb : Below w.heap.size w w') : w'.ownsRow B e size v n xs := by
 refine ⟨h.1, ?_⟩; rcases h.2 with h0 | ⟨g, cap, cur, rfl, hg, hh, rest⟩
 ·exact .inl h0
 ·exact .inr ⟨g, cap, cur, rfl, hg, (hb.block g (Array.getElem?_eq_some_iff.1 hh).1).trans hh, rest⟩
theorem news_block {w : World} {g : Nat} {t : TypeId} {l : List Value} (h : Blk w g t l.toArray) : ∀ j u, l[j]? = some u → w.cell? ((⟨g, 0, none⟩ : Addr).add j) = some u := by
 intro j u hu; have h0 := h.cell j; have ha : (⟨g, 0, none⟩ : Addr).add j = ⟨g, j, none⟩ := by unfold Addr.add; split <;> simp_all
 rw [ha, h0]
 simpa using hu
theorem setCell_below {B b : Nat} {w w' : World} (h : Below B w w') (hb : B ≤ b) (o : Nat) (u : Value) : Below B w (w'.setCell ⟨b, o, none⟩ u) := h.setCell (p := ⟨b, o, none⟩) hb u
theorem Tryz.laidOut : laidOutB Tryz.prog = true := by kernel_rfl
end Go.Proofs.YtgmfhngcehkibaaGreat
namespace Go.HavG
open Go.RowKit
section
variable {R : Rel} {P : Program} {ops : Array Oper}
def valS (a : Act) : Option Nat → Value
 | some d => slot a d
 | none => undef
def fvalS (f : Nat → Value) : Option Nat → Value
 | some d => f d
 | none => undef
def tabSOk (ops : Array Oper) (sl : List (Option Nat)) : Bool :=
 genOk ops (List.range sl.length) [] && ((List.range sl.length).all (fun i => match ops[i]? with | some o => sl[i]? == some o.dst | none => false) && (List.range sl.length).all fun i => (List.range sl.length).all fun k => i == k || (sl[i]? != sl[k]? || sl[i]? == some none))
end
end Go.HavG
namespace Go.HavG
open Go.RowKit
section
variable {R : Rel} {P : Program} {ops : Array Oper}
def valV (sl : List (Option Nat)) (f : Nat → Value) (j : Nat) : Value := fvalS f ((sl[j]?).getD none)
def bkV : Value → Nat
 | .pointer (some a) => a.block
 | .slice (some a) _ _ => a.block
 | _ => 0
end
end Go.HavG
