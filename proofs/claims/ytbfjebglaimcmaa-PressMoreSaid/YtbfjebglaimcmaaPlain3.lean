/- The document's answer for press in plain numbers: all weights of a bale that was weighed, and what a part of it weighs; nothing of the program. -/
import Derived.Test.YtbfjebglaimcmaaPlain2
namespace Go.Proofs.Ytbfjebglaimcmaa
/-- The integers from lo to hi. -/
def spanL (lo hi : Int) : List Int := (List.range (hi + 1 - lo).toNat).map fun k : Nat => lo + k
theorem mem_spanL {lo hi x : Int} : x ∈ spanL lo hi ↔ lo ≤ x ∧ x ≤ hi := by
  unfold spanL
  rw [List.mem_map]
  constructor
  · rintro ⟨k, hk, rfl⟩
    have := List.mem_range.1 hk
    omega
  · rintro ⟨h1, h2⟩
    exact ⟨(x - lo).toNat, List.mem_range.2 (by omega), by omega⟩
/-- A sum over a set, of the numbers of a list. -/
def li (l : List Int) (i : Nat) : Int := (l[i]?).getD 0
theorem li_app_lt {l m : List Int} {i : Nat} (h : i < l.length) : li (l ++ m) i = li l i := by unfold li; rw [List.getElem?_append_left h]
theorem sum_li : ∀ (l : List Int) (m : Nat), m ≤ l.length → (l.take m).sum = sb (li l) (full l.length) m := by
  intro l m
  induction m with
  | zero => intro _; simp [sb]
  | succ m ih =>
    intro h
    rw [List.take_succ_eq_append_getElem (by omega), List.sum_append, ih (by omega), sb, tb_full]
    simp [li, show m < l.length by omega]
section
variable {lo hi : Nat → Int}
/-- Between both ends of a sum there are all numbers. -/
theorem sb_any (s : Nat) : ∀ (n : Nat), (∀ i, i < n → lo i ≤ hi i) → ∀ v, sb lo s n ≤ v → v ≤ sb hi s n → ∃ t : Nat → Int, (∀ i, i < n → lo i ≤ t i ∧ t i ≤ hi i) ∧ sb t s n = v := by
  intro n
  induction n with
  | zero => intro _ v h1 h2; exact ⟨lo, by simp, by simp only [sb] at h1 h2 ⊢; omega⟩
  | succ n ih =>
    intro hle v h1 h2
    have hn := hle n (by omega)
    rw [sb] at h1 h2
    by_cases hb : s.testBit n = true
    · rw [if_pos hb] at h1 h2
      have hs : sb lo s n ≤ sb hi s n := sb_le n fun i hi _ => hle i (by omega)
      obtain ⟨x, hx1, hx2, hx3, hx4⟩ : ∃ x, lo n ≤ x ∧ x ≤ hi n ∧ sb lo s n ≤ v - x ∧ v - x ≤ sb hi s n := ⟨max (lo n) (v - sb hi s n), by omega, by omega, by omega, by omega⟩
      obtain ⟨t, ht, hv⟩ := ih (fun i hi => hle i (by omega)) (v - x) hx3 hx4
      refine ⟨fun i => if i = n then x else t i, fun i hi => ?_, ?_⟩
      · by_cases e : i = n
        · subst e; simp [hx1, hx2]
        · simp only [if_neg e]; exact ht i (by omega)
      · rw [sb, if_pos hb]
        simp only [if_true]
        rw [sb_congr (g := t) (t := s) n (fun i hi => ⟨rfl, fun _ => by rw [if_neg (by omega)]⟩), hv]
        omega
    · rw [if_neg hb] at h1 h2
      obtain ⟨t, ht, hv⟩ := ih (fun i hi => hle i (by omega)) v (by omega) (by omega)
      refine ⟨fun i => if i = n then lo n else t i, fun i hi => ?_, ?_⟩
      · by_cases e : i = n
        · subst e; simp [hn]
        · simp only [if_neg e]; exact ht i (by omega)
      · rw [sb, if_neg hb, sb_congr (g := t) (t := s) n (fun i hi => ⟨rfl, fun _ => by rw [if_neg (by omega)]⟩), hv]
        omega
end
namespace PressD
/-- What the fleece i of a set can weigh; 0 if it is none of it. -/
def ofB (p : PressD) (b i : Nat) : Sp := if b.testBit i = true then p.fw i else ⟨0, 0⟩
/-- All weights of the fleeces of the set b that weigh together what 'all' has, that begin so; k fleeces are left. -/
def listsF (p : PressD) (b : Nat) (all : Sp) : Nat → List Int → List (List Int)
  | 0, beg => if inB beg.sum all.lo all.hi = true then [beg] else []
  | k + 1, beg => (spanL (p.ofB b beg.length).lo (p.ofB b beg.length).hi).flatMap fun x => p.listsF b all k (beg ++ [x])
theorem mem_listsF (p : PressD) (b : Nat) (all : Sp) : ∀ (k : Nat) (beg L : List Int), L ∈ p.listsF b all k beg ↔ ∃ m : List Int, L = beg ++ m ∧ m.length = k ∧ (∀ i, i < k → (p.ofB b (beg.length + i)).lo ≤ li m i ∧ li m i ≤ (p.ofB b (beg.length + i)).hi) ∧ all.lo ≤ L.sum ∧ L.sum ≤ all.hi := by
  intro k
  induction k with
  | zero =>
    intro beg L
    rw [listsF]
    constructor
    · intro h
      split at h
      · rename_i hb
        simp only [List.mem_singleton] at h
        subst h
        exact ⟨[], by simp, rfl, by simp, inB_iff.1 hb⟩
      · simp at h
    · rintro ⟨m, rfl, hm, _, h1, h2⟩
      obtain rfl := List.length_eq_zero_iff.1 hm
      simp only [List.append_nil] at h1 h2 ⊢
      rw [if_pos (inB_iff.2 ⟨h1, h2⟩)]
      simp
  | succ k ih =>
    intro beg L
    rw [listsF, List.mem_flatMap]
    constructor
    · rintro ⟨x, hx, hL⟩
      rw [ih] at hL
      obtain ⟨m, rfl, hm, hr, hs⟩ := hL
      refine ⟨x :: m, by simp, by simp [hm], fun i hi => ?_, hs⟩
      cases i with
      | zero => simpa [li] using mem_spanL.1 hx
      | succ i =>
        have := hr i (by omega)
        simp only [List.length_append, List.length_singleton] at this
        rw [show beg.length + 1 + i = beg.length + (i + 1) by omega] at this
        simpa [li] using this
    · rintro ⟨m, rfl, hm, hr, hs⟩
      cases m with
      | nil => simp at hm
      | cons x m =>
        have h0 := hr 0 (by omega)
        simp only [Nat.add_zero] at h0
        refine ⟨x, mem_spanL.2 (by simpa [li] using h0), ?_⟩
        rw [ih]
        refine ⟨m, by simp, by simpa using hm, fun i hi => ?_, hs⟩
        have := hr (i + 1) (by omega)
        simp only [List.length_append, List.length_singleton]
        rw [show beg.length + 1 + i = beg.length + (i + 1) by omega]
        simpa [li] using this
/-- All truths of the k-th bale. -/
def lists (p : PressD) (k : Nat) : List (List Int) := p.listsF (p.bs k) (p.ba k).w p.n []
/-- What the fleeces of a set weigh in such a list. -/
def inL (p : PressD) (s : Nat) (L : List Int) : Int := sb (li L) s p.n
/-- The span of what they weigh, of some lists. -/
def foldP (p : PressD) (s : Nat) (Ls : List (List Int)) : Sp := Ls.foldl (fun o L => ⟨min o.lo (p.inL s L), max o.hi (p.inL s L)⟩) ⟨201, 0⟩
def partR (p : PressD) (s k : Nat) : Sp := if p.lists k = [] then ⟨0, 0⟩ else p.foldP s (p.lists k)
section
variable {p : PressD}
theorem mem_lists {k : Nat} {L : List Int} : L ∈ p.lists k ↔ L.length = p.n ∧ (∀ i, i < p.n → (p.ofB (p.bs k) i).lo ≤ li L i ∧ li L i ≤ (p.ofB (p.bs k) i).hi) ∧ (p.ba k).w.lo ≤ L.sum ∧ L.sum ≤ (p.ba k).w.hi := by
  unfold lists
  rw [mem_listsF]
  constructor
  · rintro ⟨m, rfl, hm, hr, hs⟩
    simp only [List.length_nil, Nat.zero_add] at hr hs ⊢
    exact ⟨hm, hr, hs⟩
  · rintro ⟨hl, hr, hs⟩
    exact ⟨L, by simp, hl, by simpa using hr, hs⟩
theorem lists_sums {k : Nat} {L : List Int} (h : L ∈ p.lists k) (s : Nat) : p.inL s L = sb (li L) (s &&& p.bs k) p.n ∧ L.sum = sb (li L) (p.bs k) p.n := by
  obtain ⟨h1, h2, h3⟩ := mem_lists.1 h
  have h0 : ∀ i, i < p.n → (p.bs k).testBit i = false → li L i = 0 := fun i hi hb => by
    have := h2 i hi
    rw [ofB, if_neg (by rw [hb]; simp)] at this
    simp only at this
    omega
  have hz : ∀ t : Nat, sb (li L) (dif t (p.bs k)) p.n = 0 := fun t => by
    have : sb (li L) (dif t (p.bs k)) p.n = sb (fun _ => 0) (dif t (p.bs k)) p.n := sb_congr _ fun i hi => ⟨rfl, fun hb => by
      rw [tb_dif] at hb
      refine h0 i hi ?_
      cases h : (p.bs k).testBit i
      · rfl
      · rw [h] at hb; simp at hb⟩
    rw [this]
    have := sb_bd (f := fun _ => 0) (s := dif t (p.bs k)) (l := 0) (h := 0) (by omega) (by omega) p.n (fun _ _ _ => by omega)
    omega
  constructor
  · rw [inL, sb_cut _ s (p.bs k), hz]; omega
  · have h4 := sum_li L L.length (Nat.le_refl _)
    rw [List.take_length, h1] at h4
    rw [h4, sb_cut _ (full p.n) (p.bs k), hz, Int.add_zero]
    refine sb_congr _ fun i hi => ⟨?_, fun _ => rfl⟩
    rw [Nat.testBit_and, tb_full]
    simp [hi]
theorem lists_in (h : p.ok = true) {k : Nat} (hk : k < p.weighed.length) {L : List Int} (hL : L ∈ p.lists k) (s : Nat) : (p.part s k).lo ≤ p.inL s L ∧ p.inL s L ≤ (p.part s k).hi ∧ p.wrongB k = false := by
  obtain ⟨e1, e2⟩ := lists_sums hL s
  obtain ⟨h1, h2, h3⟩ := mem_lists.1 hL
  have hb : ∀ t, (p.bare (t &&& p.bs k)).lo ≤ sb (li L) (t &&& p.bs k) p.n ∧ sb (li L) (t &&& p.bs k) p.n ≤ (p.bare (t &&& p.bs k)).hi := fun t => by
    have hh : ∀ i, i < p.n → (t &&& p.bs k).testBit i = true → (p.fw i).lo ≤ li L i ∧ li L i ≤ (p.fw i).hi := fun i hi hb => by
      rw [Nat.testBit_and, Bool.and_eq_true] at hb
      have := h2 i hi
      rwa [ofB, if_pos hb.2] at this
    exact ⟨sb_le _ fun i hi hb => (hh i hi hb).1, sb_le _ fun i hi hb => (hh i hi hb).2⟩
  have b1 := hb s
  have b2 := hb (dif (p.bs k) s)
  have e3 : dif (p.bs k) s &&& p.bs k = dif (p.bs k) s := by
    refine Nat.eq_of_testBit_eq fun i => ?_
    rw [Nat.testBit_and, tb_dif]
    cases (p.bs k).testBit i <;> cases s.testBit i <;> rfl
  rw [e3] at b2
  have b3 := hb (p.bs k)
  rw [Nat.and_self] at b3
  have e4 := sb_cut (li L) (p.bs k) s p.n
  rw [Nat.and_comm] at e4
  rw [right_iff h hk]
  simp only [part, knownS]
  omega
/-- A list of weights of the bale, if its part and the rest of it weigh what they can. -/
theorem lists_mk (h : p.ok = true) {k : Nat} (s : Nat) {x y : Int} (hx1 : (p.bare (s &&& p.bs k)).lo ≤ x) (hx2 : x ≤ (p.bare (s &&& p.bs k)).hi) (hy1 : (p.bare (dif (p.bs k) s)).lo ≤ y) (hy2 : y ≤ (p.bare (dif (p.bs k) s)).hi)
    (h1 : (p.ba k).w.lo ≤ x + y) (h2 : x + y ≤ (p.ba k).w.hi) : ∃ L, L ∈ p.lists k ∧ p.inL s L = x := by
  obtain ⟨t, ht, hs⟩ := sb_any (s &&& p.bs k) p.n (fun i hi => (ok_fl h hi).2.1) x hx1 hx2
  obtain ⟨u, hu, hv⟩ := sb_any (dif (p.bs k) s) p.n (fun i hi => (ok_fl h hi).2.1) y hy1 hy2
  let g : Nat → Int := fun i => if (p.bs k).testBit i = true then (if s.testBit i = true then t i else u i) else 0
  have hli : ∀ i, i < p.n → li ((List.range p.n).map g) i = g i := fun i hi => by simp [li, hi]
  have e1 : sb (li ((List.range p.n).map g)) (s &&& p.bs k) p.n = x := by
    rw [← hs]
    refine sb_congr _ fun i hi => ⟨rfl, fun hb => ?_⟩
    rw [Nat.testBit_and, Bool.and_eq_true] at hb
    rw [hli i hi]
    simp only [g]
    rw [if_pos hb.2, if_pos hb.1]
  have e2 : sb (li ((List.range p.n).map g)) (dif (p.bs k) s) p.n = y := by
    rw [← hv]
    refine sb_congr _ fun i hi => ⟨rfl, fun hb => ?_⟩
    rw [tb_dif, Bool.and_eq_true] at hb
    rw [hli i hi]
    simp only [g]
    rw [if_pos hb.1, if_neg (by have := hb.2; simp at this; simp [this])]
  have e3 : sb (li ((List.range p.n).map g)) (p.bs k) p.n = x + y := by rw [sb_cut _ (p.bs k) s, Nat.and_comm, e1, e2]
  have e4 : ((List.range p.n).map g).sum = x + y := by
    rw [← e3]
    have h4 := sum_li ((List.range p.n).map g) p.n (by simp)
    rw [List.take_of_length_le (by simp)] at h4
    rw [h4, sb_cut _ (full ((List.range p.n).map g).length) (p.bs k)]
    have hz : sb (li ((List.range p.n).map g)) (dif (full ((List.range p.n).map g).length) (p.bs k)) p.n = 0 := by
      rw [sb_congr (g := fun _ => 0) (t := dif (full ((List.range p.n).map g).length) (p.bs k)) p.n (fun i hi => ⟨rfl, fun hb => by
        rw [tb_dif, Bool.and_eq_true] at hb
        rw [hli i hi]
        simp only [g]
        rw [if_neg (by have := hb.2; simp at this; simp [this])]⟩)]
      have := sb_bd (f := fun _ => 0) (s := dif (full ((List.range p.n).map g).length) (p.bs k)) (l := 0) (h := 0) (by omega) (by omega) p.n (fun _ _ _ => by omega)
      omega
    rw [hz, Int.add_zero]
    refine sb_congr _ fun i hi => ⟨?_, fun _ => rfl⟩
    rw [Nat.testBit_and, tb_full]
    simp [hi]
  have hm : (List.range p.n).map g ∈ p.lists k := by
    rw [mem_lists, e4]
    refine ⟨by simp, fun i hi => ?_, h1, h2⟩
    rw [hli i hi]
    simp only [g, ofB]
    by_cases hb : (p.bs k).testBit i = true
    · rw [if_pos hb, if_pos hb]
      split
      · exact ht i hi
      · exact hu i hi
    · rw [if_neg hb, if_neg hb]; simp
  exact ⟨_, hm, by rw [(lists_sums hm s).1, e1]⟩
theorem lists_ends (h : p.ok = true) {k : Nat} (hk : k < p.weighed.length) (hw : p.wrongB k = false) (s : Nat) : (∃ L, L ∈ p.lists k ∧ p.inL s L = (p.part s k).lo) ∧ (∃ L, L ∈ p.lists k ∧ p.inL s L = (p.part s k).hi) := by
  have h0 := part_le h s hk hw
  have h1 := bare_bd h (s &&& p.bs k)
  have h2 := bare_bd h (dif (p.bs k) s)
  have h3 := ok_ba h hk
  have h4 := (right_iff h hk).1 hw
  have h5 := bare_cut (p := p) (p.bs k) s
  rw [Nat.and_comm] at h5
  simp only [part, knownS] at h0 ⊢
  constructor
  · exact lists_mk h s (x := max (p.bare (s &&& p.bs k)).lo ((p.ba k).w.lo - (p.bare (dif (p.bs k) s)).hi)) (y := max (p.bare (dif (p.bs k) s)).lo ((p.ba k).w.lo - max (p.bare (s &&& p.bs k)).lo ((p.ba k).w.lo - (p.bare (dif (p.bs k) s)).hi))) (by omega) (by omega) (by omega) (by omega) (by omega) (by omega)
  · exact lists_mk h s (x := min (p.bare (s &&& p.bs k)).hi ((p.ba k).w.hi - (p.bare (dif (p.bs k) s)).lo)) (y := min (p.bare (dif (p.bs k) s)).hi ((p.ba k).w.hi - min (p.bare (s &&& p.bs k)).hi ((p.ba k).w.hi - (p.bare (dif (p.bs k) s)).lo))) (by omega) (by omega) (by omega) (by omega) (by omega) (by omega)
theorem lists_nil (h : p.ok = true) {k : Nat} (hk : k < p.weighed.length) : p.lists k = [] ↔ p.wrongB k = true := by
  constructor
  · intro e
    cases hw : p.wrongB k
    · obtain ⟨⟨L, hL, _⟩, _⟩ := lists_ends h hk hw 0
      rw [e] at hL; cases hL
    · rfl
  · intro hw
    cases hL : p.lists k with
    | nil => rfl
    | cons L Ls =>
      have := (lists_in h hk (by rw [hL]; exact List.mem_cons_self) 0).2.2
      rw [hw] at this; cases this
theorem foldP_spec (s : Nat) (Ls : List (List Int)) : ∀ (o : Sp), let r := Ls.foldl (fun o L => (⟨min o.lo (p.inL s L), max o.hi (p.inL s L)⟩ : Sp)) o
    (r.lo = o.lo ∨ ∃ L ∈ Ls, p.inL s L = r.lo) ∧ (r.hi = o.hi ∨ ∃ L ∈ Ls, p.inL s L = r.hi) ∧ r.lo ≤ o.lo ∧ o.hi ≤ r.hi ∧ ∀ L ∈ Ls, r.lo ≤ p.inL s L ∧ p.inL s L ≤ r.hi := by
  induction Ls with
  | nil => intro o; exact ⟨.inl rfl, .inl rfl, Int.le_refl _, Int.le_refl _, by simp⟩
  | cons L Ls ih =>
    intro o
    obtain ⟨h1, h2, h3, h4, h5⟩ := ih ⟨min o.lo (p.inL s L), max o.hi (p.inL s L)⟩
    simp only [List.foldl_cons] at *
    refine ⟨?_, ?_, by omega, by omega, fun M hM => ?_⟩
    · rcases h1 with h1 | ⟨M, hM, h1⟩
      · by_cases hc : o.lo ≤ p.inL s L
        · left; rw [h1]; omega
        · right; exact ⟨L, by simp, by rw [h1]; omega⟩
      · exact .inr ⟨M, List.mem_cons_of_mem _ hM, h1⟩
    · rcases h2 with h2 | ⟨M, hM, h2⟩
      · by_cases hc : p.inL s L ≤ o.hi
        · left; rw [h2]; omega
        · right; exact ⟨L, by simp, by rw [h2]; omega⟩
      · exact .inr ⟨M, List.mem_cons_of_mem _ hM, h2⟩
    · rcases List.mem_cons.1 hM with rfl | hM
      · omega
      · exact h5 M hM
theorem partR_eq (h : p.ok = true) {k : Nat} (hk : k < p.weighed.length) (s : Nat) : p.partR s k = if p.wrongB k = true then ⟨0, 0⟩ else p.part s k := by
  unfold partR
  by_cases hw : p.wrongB k = true
  · rw [if_pos ((lists_nil h hk).2 hw), if_pos hw]
  · have hw' : p.wrongB k = false := by simpa using hw
    rw [if_neg (fun e => hw ((lists_nil h hk).1 e)), if_neg hw]
    obtain ⟨⟨L1, m1, e1⟩, ⟨L2, m2, e2⟩⟩ := lists_ends h hk hw' s
    obtain ⟨f1, f2, f3, f4, f5⟩ := foldP_spec (p := p) s (p.lists k) ⟨201, 0⟩
    have hb := part_bd h s hk
    have hb0 : 0 ≤ (p.part s k).lo ∧ (p.part s k).hi ≤ 200 := by
      have := bare_bd h (s &&& p.bs k)
      simp only [part, knownS]
      omega
    have hp := part_le h s hk hw'
    have g1 := f5 _ m1
    have g2 := f5 _ m2
    simp only at f1 f2 f3 f4
    have elo : (p.foldP s (p.lists k)).lo = (p.part s k).lo := by
      unfold foldP
      rcases f1 with f1 | ⟨M, hM, f1⟩
      · omega
      · have := lists_in h hk hM s; omega
    have ehi : (p.foldP s (p.lists k)).hi = (p.part s k).hi := by
      unfold foldP
      rcases f2 with f2 | ⟨M, hM, f2⟩
      · omega
      · have := lists_in h hk hM s; omega
    cases hx : p.foldP s (p.lists k)
    cases hy : p.part s k
    rw [hx, hy] at elo ehi
    simp_all
end
end PressD
end Go.Proofs.Ytbfjebglaimcmaa
