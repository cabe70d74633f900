/- Plain laws of pressings: the most fleeces that some sets press, and the pressing that comes first; nothing of the program. -/
import Derived.Test.YtbfjebglaimcmaaSpec
namespace Go.Proofs.Ytbfjebglaimcmaa
theorem foldl_max_le {l : List Int} {a m : Int} (h0 : a ≤ m) (h : ∀ x ∈ l, x ≤ m) : l.foldl max a ≤ m := by
  induction l generalizing a with
  | nil => exact h0
  | cons x l ih => exact ih (by have := h x (by simp); omega) (fun y hy => h y (List.mem_cons_of_mem _ hy))
theorem le_foldl_max {l : List Int} {a : Int} : a ≤ l.foldl max a ∧ ∀ x ∈ l, x ≤ l.foldl max a := by
  induction l generalizing a with
  | nil => exact ⟨Int.le_refl _, by simp⟩
  | cons x l ih =>
    obtain ⟨h1, h2⟩ := ih (a := max a x)
    refine ⟨by simp only [List.foldl_cons]; omega, fun y hy => ?_⟩
    rcases List.mem_cons.1 hy with rfl | hy
    · simp only [List.foldl_cons]; omega
    · exact h2 y hy
theorem foldl_max_at {l : List Int} {a : Int} : l.foldl max a = a ∨ l.foldl max a ∈ l := by
  induction l generalizing a with
  | nil => exact .inl rfl
  | cons x l ih =>
    simp only [List.foldl_cons]
    rcases ih (a := max a x) with h | h
    · rw [h]
      by_cases hx : a ≤ x
      · right; rw [Int.max_eq_right hx]; simp
      · left; rw [Int.max_eq_left (by omega)]
    · exact .inr (List.mem_cons_of_mem _ h)
theorem sub_iff {s f : Nat} : sub s f = true ↔ ∀ i, s.testBit i = true → f.testBit i = true := by
  unfold sub
  rw [beq_iff_eq]
  constructor
  · intro h i hi
    have h1 := tb_dif s f i
    rw [h, Nat.zero_testBit, hi] at h1
    simpa using h1.symm
  · intro h
    refine Nat.eq_of_testBit_eq fun i => ?_
    rw [tb_dif, Nat.zero_testBit]
    have := h i
    cases h1 : s.testBit i <;> cases h2 : f.testBit i <;> simp_all
/-- A list of sets that are pressed one after the other. -/
def Fam (l : List Nat) : Nat → Nat → Nat → List Nat → Prop
  | _, _, _, [] => True
  | 0, _, _, _ :: _ => False
  | b + 1, f, h, s :: L => s ∈ l ∧ h < s ∧ sub s f = true ∧ Fam l b (dif f s) s L
def pops (L : List Nat) : Int := (L.map (pop · 10)).sum
theorem pops_cons (s : Nat) (L : List Nat) : pops (s :: L) = pop s 10 + pops L := by simp [pops]
theorem pops_nonneg (L : List Nat) : 0 ≤ pops L := by
  induction L with
  | nil => simp [pops]
  | cons s L ih => rw [pops_cons]; have := (pop_bd s 10).1; omega
theorem pops_perm {L M : List Nat} (h : L.Perm M) : pops L = pops M := by
  induction h with
  | nil => rfl
  | cons x _ ih => rw [pops_cons, pops_cons, ih]
  | swap x y l => simp only [pops_cons]; omega
  | trans _ _ h1 h2 => exact h1.trans h2
section
variable {l : List Nat}
theorem bestF_nonneg (b f h : Nat) : 0 ≤ bestF l b f h := by
  cases b with
  | zero => simp [bestF]
  | succ b => rw [bestF]; exact le_foldl_max.1
theorem bestF_term {b f h s : Nat} (hs : s ∈ l) (h1 : h < s) (h2 : sub s f = true) : pop s 10 + bestF l b (dif f s) s ≤ bestF l (b + 1) f h := by
  rw [bestF]
  refine le_foldl_max.2 _ (List.mem_map.2 ⟨s, hs, ?_⟩)
  rw [if_pos (by simp [h1, h2])]
theorem Fam.le : ∀ {b f h : Nat} {L : List Nat}, Fam l b f h L → pops L ≤ bestF l b f h := by
  intro b
  induction b with
  | zero =>
    intro f h L hF
    cases L with
    | nil => simp [pops, bestF]
    | cons s L => exact hF.elim
  | succ b ih =>
    intro f h L hF
    cases L with
    | nil => exact bestF_nonneg _ _ _
    | cons s L =>
      obtain ⟨h1, h2, h3, h4⟩ := hF
      have := ih h4
      have := bestF_term (b := b) h1 h2 h3
      rw [pops_cons]; omega
theorem Fam.ex : ∀ (b f h : Nat), ∃ L, Fam l b f h L ∧ pops L = bestF l b f h := by
  intro b
  induction b with
  | zero => intro f h; exact ⟨[], trivial, by simp [pops, bestF]⟩
  | succ b ih =>
    intro f h
    have := foldl_max_at (l := l.map fun s => if decide (h < s) && sub s f then pop s 10 + bestF l b (dif f s) s else 0) (a := 0)
    rw [bestF]
    rcases this with h0 | h0
    · exact ⟨[], trivial, by rw [h0]; simp [pops]⟩
    · obtain ⟨s, hs, he⟩ := List.mem_map.1 h0
      by_cases hc : (decide (h < s) && sub s f) = true
      · rw [if_pos hc] at he
        obtain ⟨L, h1, h2⟩ := ih (dif f s) s
        simp only [Bool.and_eq_true, decide_eq_true_eq] at hc
        exact ⟨s :: L, ⟨hs, hc.1, hc.2, h1⟩, by rw [pops_cons, h2]; exact he⟩
      · rw [if_neg hc] at he
        exact ⟨[], trivial, by rw [← he]; simp [pops]⟩
theorem Fam.mono_b : ∀ {b b' f h : Nat} {L : List Nat}, Fam l b f h L → L.length ≤ b' → Fam l b' f h L := by
  intro b
  induction b with
  | zero =>
    intro b' f h L hF _
    cases L with
    | nil => cases b' <;> trivial
    | cons s L => exact hF.elim
  | succ b ih =>
    intro b' f h L hF hl
    cases L with
    | nil => cases b' <;> trivial
    | cons s L =>
      obtain ⟨h1, h2, h3, h4⟩ := hF
      cases b' with
      | zero => simp at hl
      | succ b' => exact ⟨h1, h2, h3, ih h4 (by simpa using hl)⟩
theorem Fam.length : ∀ {b f h : Nat} {L : List Nat}, Fam l b f h L → L.length ≤ b := by
  intro b
  induction b with
  | zero =>
    intro f h L hF
    cases L with
    | nil => simp
    | cons s L => exact hF.elim
  | succ b ih =>
    intro f h L hF
    cases L with
    | nil => simp
    | cons s L => have := ih hF.2.2.2; simp; omega
theorem bestF_mono {b b' : Nat} (hb : b ≤ b') (f h : Nat) : bestF l b f h ≤ bestF l b' f h := by
  obtain ⟨L, h1, h2⟩ := Fam.ex (l := l) b f h
  rw [← h2]
  exact (h1.mono_b (by have := h1.length; omega)).le
theorem sub_pop {s f : Nat} (h : sub s f = true) : pop f 10 = pop s 10 + pop (dif f s) 10 := by
  have h1 := sb_cut (fun _ => (1 : Int)) f s 10
  have e : f &&& s = s := by
    refine Nat.eq_of_testBit_eq fun i => ?_
    have := sub_iff.1 h i
    rw [Nat.testBit_and]
    cases h1 : s.testBit i <;> cases h2 : f.testBit i <;> simp_all
  rw [e] at h1
  exact h1
theorem Fam.pops_le : ∀ {b f h : Nat} {L : List Nat}, Fam l b f h L → pops L ≤ pop f 10 := by
  intro b
  induction b with
  | zero =>
    intro f h L hF
    cases L with
    | nil => simp [pops]; exact (pop_bd _ _).1
    | cons s L => exact hF.elim
  | succ b ih =>
    intro f h L hF
    cases L with
    | nil => simp [pops]; exact (pop_bd _ _).1
    | cons s L =>
      obtain ⟨_, _, h3, h4⟩ := hF
      have := ih h4
      rw [pops_cons, sub_pop h3]; omega
theorem bestF_le (b f h : Nat) : bestF l b f h ≤ pop f 10 := by
  obtain ⟨L, h1, h2⟩ := Fam.ex (l := l) b f h
  rw [← h2]; exact h1.pops_le
/-- The pressing that comes first, of those that press so many. -/
def planF (l : List Nat) : Nat → Nat → Nat → Int → List Nat
  | 0, _, _, _ => []
  | b + 1, f, h, want => if want = 0 then [] else match l.find? (fun s => decide (h < s) && sub s f && decide (pop s 10 + bestF l b (dif f s) s = want)) with
    | some s => s :: planF l b (dif f s) s (want - pop s 10)
    | none => []
theorem find_some {b f h : Nat} {want : Int} (hw : want = bestF l (b + 1) f h) (h0 : want ≠ 0) :
    ∃ s, l.find? (fun s => decide (h < s) && sub s f && decide (pop s 10 + bestF l b (dif f s) s = want)) = some s ∧ s ∈ l ∧ h < s ∧ sub s f = true ∧ pop s 10 + bestF l b (dif f s) s = want := by
  have h1 : (l.find? (fun s => decide (h < s) && sub s f && decide (pop s 10 + bestF l b (dif f s) s = want))).isSome = true := by
    rw [List.find?_isSome]
    obtain ⟨L, hF, hp⟩ := Fam.ex (l := l) (b + 1) f h
    cases L with
    | nil => simp [pops] at hp; omega
    | cons s L =>
      obtain ⟨a1, a2, a3, a4⟩ := hF
      refine ⟨s, a1, ?_⟩
      have e1 := a4.le
      have e2 := bestF_term (b := b) a1 a2 a3
      rw [pops_cons] at hp
      simp [a2, a3]
      omega
  obtain ⟨s, hs⟩ := Option.isSome_iff_exists.1 h1
  have h2 := List.find?_some hs
  simp only [Bool.and_eq_true, decide_eq_true_eq] at h2
  exact ⟨s, hs, List.mem_of_find?_eq_some hs, h2.1.1, h2.1.2, h2.2⟩
theorem planF_fam : ∀ {b f h : Nat} {want : Int}, want = bestF l b f h → Fam l b f h (planF l b f h want) ∧ pops (planF l b f h want) = want := by
  intro b
  induction b with
  | zero => intro f h want hw; rw [hw]; exact ⟨trivial, by simp [planF, pops, bestF]⟩
  | succ b ih =>
    intro f h want hw
    by_cases h0 : want = 0
    · rw [planF, if_pos h0]; exact ⟨trivial, by rw [h0]; simp [pops]⟩
    · obtain ⟨s, h1, h2, h3, h4, h5⟩ := find_some hw h0
      rw [planF, if_neg h0, h1]
      obtain ⟨a1, a2⟩ := ih (f := dif f s) (h := s) (want := want - pop s 10) (by omega)
      exact ⟨⟨h2, h3, h4, a1⟩, by rw [pops_cons, a2]; omega⟩
/-- Does a list of numbers come before another one, or is it the same? -/
def lexLe : List Nat → List Nat → Prop
  | [], _ => True
  | _ :: _, [] => False
  | a :: L, b :: M => a < b ∨ a = b ∧ lexLe L M
theorem pop_pos_of {s f : Nat} (hf : f < 2 ^ 10) (h : sub s f = true) (h0 : 0 < s) : 1 ≤ pop s 10 := by
  obtain ⟨i, hi⟩ := Nat.exists_testBit_of_ne_zero (x := s) (by omega)
  have h2 := sub_iff.1 h i hi
  have h3 : i < 10 := by
    rcases Nat.lt_or_ge i 10 with h | h
    · exact h
    · rw [tb_lt hf h] at h2; cases h2
  exact pop_pos h3 hi
/-- No pressing that presses so many comes before. -/
theorem planF_first (hl : l.Pairwise (· < ·)) : ∀ {b f h : Nat} {want : Int} {L : List Nat}, f < 2 ^ 10 → want = bestF l b f h → Fam l b f h L → pops L = want → lexLe (planF l b f h want) L := by
  intro b
  induction b with
  | zero => intro f h want L _ _ _ _; exact trivial
  | succ b ih =>
    intro f h want L hf hw hF hp
    by_cases h0 : want = 0
    · rw [planF, if_pos h0]; exact trivial
    · obtain ⟨s, h1, h2, h3, h4, h5⟩ := find_some hw h0
      rw [planF, if_neg h0, h1]
      cases L with
      | nil => simp [pops] at hp; omega
      | cons t L =>
        obtain ⟨a1, a2, a3, a4⟩ := hF
        rw [pops_cons] at hp
        have e1 := a4.le
        have e2 := bestF_term (b := b) a1 a2 a3
        have e3 : pop t 10 + bestF l b (dif f t) t = want := by omega
        have hst : s ≤ t := by
          obtain ⟨h6, as, bs, rfl, h7⟩ := List.find?_eq_some_iff_append.1 h1
          rcases List.mem_append.1 a1 with ht | ht
          · have := h7 t ht
            simp [a2, a3, e3] at this
          · rcases List.mem_cons.1 ht with rfl | ht
            · omega
            · have := (List.pairwise_cons.1 (List.pairwise_append.1 hl).2.1).1 t ht
              omega
        rcases Nat.lt_or_ge s t with hlt | hge
        · exact .inl hlt
        · obtain rfl : s = t := by omega
          exact .inr ⟨rfl, ih (Nat.lt_of_le_of_lt (dif_le _ _) hf) (by omega) a4 (by omega)⟩
/-- How few bales press the most. -/
def fewF (l : List Nat) (f : Nat) (most : Int) : Nat → Nat → Nat
  | 0, b => b
  | k + 1, b => if bestF l b f 0 < most then fewF l f most k (b + 1) else b
theorem fewF_spec {f B : Nat} : ∀ (k b : Nat), b + k = B → (∀ c, c < b → bestF l c f 0 < bestF l B f 0) → let r := fewF l f (bestF l B f 0) k b
    r ≤ B ∧ bestF l r f 0 = bestF l B f 0 ∧ ∀ c, c < r → bestF l c f 0 < bestF l B f 0 := by
  intro k
  induction k with
  | zero =>
    intro b h hb
    obtain rfl : b = B := by omega
    exact ⟨Nat.le_refl _, rfl, hb⟩
  | succ k ih =>
    intro b h hb
    simp only [fewF]
    split
    · rename_i hlt
      exact ih (b + 1) (by omega) (fun c hc => by (by_cases e : c = b); (subst e; exact hlt); exact hb c (by omega))
    · rename_i hge
      exact ⟨by omega, by have := bestF_mono (l := l) (show b ≤ B by omega) f 0; omega, hb⟩
def few (l : List Nat) (f B : Nat) : Nat := fewF l f (bestF l B f 0) B 0
def plan (l : List Nat) (f B : Nat) : List Nat := planF l (few l f B) f 0 (bestF l B f 0)
theorem few_spec (f B : Nat) : few l f B ≤ B ∧ bestF l (few l f B) f 0 = bestF l B f 0 ∧ ∀ c, c < few l f B → bestF l c f 0 < bestF l B f 0 := fewF_spec B 0 (by omega) (fun c hc => by omega)
theorem plan_fam (f B : Nat) : Fam l (few l f B) f 0 (plan l f B) ∧ pops (plan l f B) = bestF l B f 0 := planF_fam (few_spec f B).2.1.symm
theorem plan_length (f B : Nat) : (plan l f B).length = few l f B := by
  obtain ⟨h1, h2⟩ := plan_fam (l := l) f B
  obtain ⟨a1, a2, a3⟩ := few_spec (l := l) f B
  have h3 := h1.length
  rcases Nat.lt_or_ge (plan l f B).length (few l f B) with h | h
  · have h4 := (h1.mono_b (Nat.le_refl _)).le
    have := a3 _ h
    omega
  · omega
/-- No other one presses more, nor as many into fewer. -/
theorem plan_best {f B : Nat} {L : List Nat} (hL : Fam l B f 0 L) : pops L ≤ bestF l B f 0 ∧ (pops L = bestF l B f 0 → few l f B ≤ L.length) := by
  refine ⟨hL.le, fun h => ?_⟩
  obtain ⟨a1, a2, a3⟩ := few_spec (l := l) f B
  rcases Nat.lt_or_ge L.length (few l f B) with h1 | h1
  · have := a3 _ h1
    have := (hL.mono_b (Nat.le_refl _)).le
    omega
  · exact h1
theorem plan_first (hl : l.Pairwise (· < ·)) {f B : Nat} (hf : f < 2 ^ 10) {L : List Nat} (hL : Fam l B f 0 L) (hp : pops L = bestF l B f 0) (hn : L.length = few l f B) : lexLe (plan l f B) L :=
  planF_first hl hf (few_spec f B).2.1.symm (hL.mono_b (by omega)) hp
/-! Sets in any order. -/
theorem Fam.of_sorted : ∀ {b f h : Nat} {L : List Nat}, L.length ≤ b → (∀ s ∈ L, s ∈ l ∧ h < s ∧ sub s f = true) → L.Pairwise (· < ·) → L.Pairwise (fun s t => s &&& t = 0) → Fam l b f h L := by
  intro b
  induction b with
  | zero =>
    intro f h L hb _ _ _
    cases L with
    | nil => trivial
    | cons s L => simp at hb
  | succ b ih =>
    intro f h L hb hm hs hd
    cases L with
    | nil => trivial
    | cons s L =>
      obtain ⟨h1, h2, h3⟩ := hm s (by simp)
      have hs' := List.pairwise_cons.1 hs
      have hd' := List.pairwise_cons.1 hd
      refine ⟨h1, h2, h3, ih (by simpa using hb) (fun t ht => ?_) hs'.2 hd'.2⟩
      obtain ⟨k1, k2, k3⟩ := hm t (List.mem_cons_of_mem _ ht)
      refine ⟨k1, hs'.1 t ht, sub_iff.2 fun i hi => ?_⟩
      rw [tb_dif, sub_iff.1 k3 i hi]
      have := and_zero_iff.1 (hd'.1 t ht) i
      cases h1 : s.testBit i <;> simp_all
theorem Fam.parts : ∀ {b f h : Nat} {L : List Nat}, Fam l b f h L → (∀ s ∈ L, s ∈ l ∧ h < s ∧ sub s f = true) ∧ L.Pairwise (· < ·) ∧ L.Pairwise (fun s t => s &&& t = 0) := by
  intro b
  induction b with
  | zero =>
    intro f h L hF
    cases L with
    | nil => exact ⟨by simp, .nil, .nil⟩
    | cons s L => exact hF.elim
  | succ b ih =>
    intro f h L hF
    cases L with
    | nil => exact ⟨by simp, .nil, .nil⟩
    | cons s L =>
      obtain ⟨h1, h2, h3, h4⟩ := hF
      obtain ⟨k1, k2, k3⟩ := ih h4
      refine ⟨fun t ht => ?_, List.pairwise_cons.2 ⟨fun t ht => (k1 t ht).2.1, k2⟩, List.pairwise_cons.2 ⟨fun t ht => ?_, k3⟩⟩
      · rcases List.mem_cons.1 ht with rfl | ht
        · exact ⟨h1, h2, h3⟩
        · obtain ⟨m1, m2, m3⟩ := k1 t ht
          refine ⟨m1, by omega, sub_iff.2 fun i hi => ?_⟩
          have := sub_iff.1 m3 i hi
          rw [tb_dif] at this
          revert this
          cases f.testBit i <;> simp
      · refine and_zero_iff.2 fun i ⟨h5, h6⟩ => ?_
        have := sub_iff.1 (k1 t ht).2.2 i h6
        rw [tb_dif, h5] at this
        simp at this
theorem Fam.of_any {b f : Nat} {L : List Nat} (hb : L.length ≤ b) (hm : ∀ s ∈ L, s ∈ l ∧ 0 < s ∧ sub s f = true) (hd : L.Pairwise (fun s t => s &&& t = 0)) : ∃ M, Fam l b f 0 M ∧ pops M = pops L ∧ M.length = L.length := by
  have hp := List.mergeSort_perm L (fun a b => decide (a ≤ b))
  have hs := List.pairwise_mergeSort (le := fun a b : Nat => decide (a ≤ b)) (by simp; intros; omega) (by simp; intros; omega) L
  refine ⟨L.mergeSort (fun a b => decide (a ≤ b)), Fam.of_sorted ?_ ?_ ?_ ?_, ?_, hp.length_eq⟩
  · rw [hp.length_eq]; exact hb
  · intro s h; exact hm s (hp.mem_iff.1 h)
  · have hd2 : (L.mergeSort (fun a b => decide (a ≤ b))).Pairwise (fun s t => s &&& t = 0) := hp.symm.pairwise hd (fun {s t} h => by rw [Nat.and_comm]; exact h)
    refine (hs.and hd2).imp_of_mem fun {a b} ha hb' ⟨h1, h2⟩ => ?_
    have h3 : a ≤ b := by simpa using h1
    rcases Nat.lt_or_ge a b with h | h
    · exact h
    · obtain rfl : a = b := by omega
      rw [Nat.and_self] at h2
      have := (hm a (hp.mem_iff.1 ha)).2.1
      omega
  · exact hp.symm.pairwise hd (fun {s t} h => by rw [Nat.and_comm]; exact h)
  · exact pops_perm hp
end
end Go.Proofs.Ytbfjebglaimcmaa
