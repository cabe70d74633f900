/- The document's pressings in plain numbers: all of them one after the other; the best one is the plan; nothing of the program. -/
import Derived.Test.YtbfjebglaimcmaaPlain2
namespace Go.Proofs.Ytbfjebglaimcmaa
/-- All pressings of some sets, from one on, that go on from one. -/
def pressF (l : List Nat) : Nat → Nat → Nat → List Nat → List (List Nat)
  | 0, _, _, beg => [beg]
  | b + 1, k, used, beg => beg :: (List.range' k (l.length - k)).flatMap fun i => match l[i]? with
    | some s => if s &&& used = 0 then pressF l b (i + 1) (used ||| s) (beg ++ [s]) else []
    | none => []
/-- What a set brings. -/
def pressAt (l : List Nat) (b used : Nat) (beg : List Nat) (i : Nat) : List (List Nat) := match l[i]? with
  | some s => if s &&& used = 0 then pressF l b (i + 1) (used ||| s) (beg ++ [s]) else []
  | none => []
theorem pressF_succ (l : List Nat) (b k used : Nat) (beg : List Nat) : pressF l (b + 1) k used beg = beg :: (List.range' k (l.length - k)).flatMap (pressAt l b used beg) := rfl
theorem pressF_len {l : List Nat} {m : Nat} (hl : l.length ≤ m) : ∀ (b k used : Nat) (beg : List Nat), (pressF l b k used beg).length ≤ (m + 1) ^ b := by
  intro b
  induction b with
  | zero => intro k used beg; simp [pressF]
  | succ b ih =>
    intro k used beg
    have key : ∀ is : List Nat, (is.flatMap (pressAt l b used beg)).length ≤ is.length * (m + 1) ^ b := by
      intro is
      induction is with
      | nil => simp
      | cons i is ihl =>
        rw [List.flatMap_cons, List.length_append, List.length_cons, Nat.succ_mul]
        have : (pressAt l b used beg i).length ≤ (m + 1) ^ b := by
          unfold pressAt
          split
          · split
            · exact ih _ _ _
            · simp
          · simp
        omega
    rw [pressF_succ, List.length_cons]
    have h1 := key (List.range' k (l.length - k))
    rw [List.length_range'] at h1
    have h2 : (l.length - k) * (m + 1) ^ b ≤ m * (m + 1) ^ b := Nat.mul_le_mul (by omega) (Nat.le_refl _)
    have h3 : (m + 1) ^ (b + 1) = m * (m + 1) ^ b + (m + 1) ^ b := by rw [Nat.pow_succ, Nat.mul_comm, Nat.succ_mul]
    have h4 : 1 ≤ (m + 1) ^ b := Nat.pow_pos (by omega)
    omega
theorem dif_dif (F a s : Nat) : dif (dif F a) s = dif F (a ||| s) := by
  refine Nat.eq_of_testBit_eq fun i => ?_
  rw [tb_dif, tb_dif, tb_dif, Nat.testBit_or]
  cases F.testBit i <;> cases a.testBit i <;> cases s.testBit i <;> rfl
theorem sub_dif {s F a : Nat} (h : sub s F = true) : sub s (dif F a) = true ↔ s &&& a = 0 := by
  rw [sub_iff, and_zero_iff]
  constructor
  · rintro h2 i ⟨h3, h4⟩
    have := h2 i h3
    rw [tb_dif, h4] at this
    simp at this
  · intro h2 i h3
    have h4 := sub_iff.1 h i h3
    rw [tb_dif, h4]
    cases ha : a.testBit i
    · rfl
    · exact absurd ⟨h3, ha⟩ (h2 i)
section
variable {l : List Nat}
theorem sorted_at (hl : l.Pairwise (· < ·)) {i j s t : Nat} (hi : l[i]? = some s) (hj : l[j]? = some t) : i + 1 ≤ j ↔ s < t := by
  obtain ⟨a, ha⟩ := List.getElem?_eq_some_iff.1 hi
  obtain ⟨b, hb⟩ := List.getElem?_eq_some_iff.1 hj
  rw [List.pairwise_iff_getElem] at hl
  constructor
  · intro h
    have := hl i j a b (by omega)
    omega
  · intro h
    rcases Nat.lt_trichotomy i j with h1 | h1 | h1
    · exact h1
    · subst h1; omega
    · have := hl j i b a h1; omega
theorem mem_pressF (hl : l.Pairwise (· < ·)) {F : Nat} (hF : ∀ s ∈ l, sub s F = true) : ∀ (b k used h : Nat) (beg M : List Nat), (∀ i s, l[i]? = some s → (k ≤ i ↔ h < s)) →
    (M ∈ pressF l b k used beg ↔ ∃ K, M = beg ++ K ∧ Fam l b (dif F used) h K) := by
  intro b
  induction b with
  | zero =>
    intro k used h beg M _
    rw [pressF, List.mem_singleton]
    constructor
    · rintro rfl
      exact ⟨[], by simp, trivial⟩
    · rintro ⟨K, rfl, hK⟩
      cases K with
      | nil => simp
      | cons s K => exact hK.elim
  | succ b ih =>
    intro k used h beg M hk
    rw [pressF_succ, List.mem_cons, List.mem_flatMap]
    constructor
    · rintro (rfl | ⟨i, hi, hM⟩)
      · exact ⟨[], by simp, trivial⟩
      · rw [List.mem_range'_1] at hi
        unfold pressAt at hM
        split at hM
        · rename_i s hs
          split at hM
          · rename_i hd
            have hsl := List.mem_of_getElem? hs
            obtain ⟨K, rfl, hK⟩ := (ih (i + 1) (used ||| s) s (beg ++ [s]) M (fun j t hj => sorted_at hl hs hj)).1 hM
            refine ⟨s :: K, by simp, hsl, (hk i s hs).1 hi.1, (sub_dif (hF s hsl)).2 hd, ?_⟩
            rw [dif_dif]
            exact hK
          · cases hM
        · cases hM
    · rintro ⟨K, rfl, hK⟩
      cases K with
      | nil => exact .inl (by simp)
      | cons s K =>
        obtain ⟨h1, h2, h3, h4⟩ := hK
        obtain ⟨i, hi⟩ := List.getElem?_of_mem h1
        have hlt := (List.getElem?_eq_some_iff.1 hi).1
        have hki := (hk i s hi).2 h2
        refine .inr ⟨i, List.mem_range'_1.2 ⟨hki, by omega⟩, ?_⟩
        unfold pressAt
        rw [hi]
        simp only
        rw [if_pos ((sub_dif (hF s h1)).1 h3)]
        rw [dif_dif] at h4
        exact (ih (i + 1) (used ||| s) s (beg ++ [s]) _ (fun j t hj => sorted_at hl hi hj)).2 ⟨K, by simp, h4⟩
end
/-- Does a list of numbers come before another one? -/
def befB : List Nat → List Nat → Bool
  | [], b => !b.isEmpty
  | _ :: _, [] => false
  | a :: L, b :: M => if a = b then befB L M else decide (a < b)
def better (a b : List Nat) : Bool := decide (pops b < pops a) || (pops a == pops b && (decide (a.length < b.length) || (a.length == b.length && befB a b)))
theorem befB_asym : ∀ a b : List Nat, befB a b = true → befB b a = false := by
  intro a
  induction a with
  | nil =>
    intro b h
    cases b with
    | nil => simp [befB] at h
    | cons b M => rfl
  | cons a L ih =>
    intro b h
    cases b with
    | nil => simp [befB] at h
    | cons b M =>
      rw [befB] at h ⊢
      by_cases e : a = b
      · rw [if_pos e] at h
        rw [if_pos e.symm]
        exact ih M h
      · rw [if_neg e] at h
        rw [if_neg (Ne.symm e)]
        simp at h ⊢
        omega
theorem befB_trans : ∀ a b c : List Nat, befB a b = false → befB b c = false → befB a c = false := by
  intro a
  induction a with
  | nil =>
    intro b c h1 h2
    cases b with
    | nil => exact h2
    | cons b M => simp [befB] at h1
  | cons a L ih =>
    intro b c h1 h2
    cases c with
    | nil => rfl
    | cons c N =>
      cases b with
      | nil => simp [befB] at h2
      | cons b M =>
        rw [befB] at h1 h2 ⊢
        by_cases e1 : a = b
        · by_cases e2 : b = c
          · rw [if_pos e1] at h1
            rw [if_pos e2] at h2
            rw [if_pos (e1.trans e2)]
            exact ih M N h1 h2
          · rw [if_neg e2] at h2
            subst e1
            rw [if_neg e2]
            exact h2
        · rw [if_neg e1] at h1
          by_cases e2 : b = c
          · subst e2
            rw [if_neg e1]
            exact h1
          · rw [if_neg e2] at h2
            simp at h1 h2
            rw [if_neg (by omega)]
            simp
            omega
theorem befB_lex : ∀ a b : List Nat, a.length = b.length → lexLe a b → befB a b = false → a = b := by
  intro a
  induction a with
  | nil =>
    intro b h _ _
    exact (List.eq_nil_of_length_eq_zero (by simpa using h.symm)).symm
  | cons a L ih =>
    intro b h1 h2 h3
    cases b with
    | nil => simp at h1
    | cons b M =>
      rw [befB] at h3
      rcases h2 with h | ⟨rfl, h⟩
      · rw [if_neg (by omega)] at h3
        simp at h3
        omega
      · rw [if_pos rfl] at h3
        rw [ih M (by simpa using h1) h h3]
theorem better_iff (a b : List Nat) : better a b = true ↔ pops b < pops a ∨ (pops a = pops b ∧ (a.length < b.length ∨ (a.length = b.length ∧ befB a b = true))) := by simp [better]
theorem better_no (a b : List Nat) : better a b = false ↔ pops a ≤ pops b ∧ (pops a = pops b → b.length ≤ a.length ∧ (a.length = b.length → befB a b = false)) := by
  rw [← Bool.not_eq_true, better_iff]
  constructor
  · intro h
    refine ⟨by omega, fun e => ⟨?_, fun e2 => ?_⟩⟩
    · rcases Nat.lt_or_ge a.length b.length with h2 | h2
      · exact absurd (.inr ⟨e, .inl h2⟩) h
      · exact h2
    · cases hb : befB a b
      · rfl
      · exact absurd (.inr ⟨e, .inr ⟨e2, hb⟩⟩) h
  · rintro ⟨h1, h2⟩ (h3 | ⟨h3, h4⟩)
    · omega
    · obtain ⟨h5, h6⟩ := h2 h3
      rcases h4 with h4 | ⟨h4, h7⟩
      · omega
      · rw [h6 h4] at h7; cases h7
theorem better_asym {a b : List Nat} (h : better a b = true) : better b a = false := by
  rw [better_iff] at h
  rw [better_no]
  rcases h with h | ⟨h1, h2⟩
  · exact ⟨by omega, fun e => by omega⟩
  · refine ⟨by omega, fun _ => ?_⟩
    rcases h2 with h2 | ⟨h2, h3⟩
    · exact ⟨by omega, fun e => by omega⟩
    · exact ⟨by omega, fun _ => befB_asym _ _ h3⟩
theorem worse_trans {a b c : List Nat} (h1 : better a b = false) (h2 : better b c = false) : better a c = false := by
  rw [better_no] at h1 h2 ⊢
  obtain ⟨a1, a2⟩ := h1
  obtain ⟨b1, b2⟩ := h2
  refine ⟨by omega, fun e => ?_⟩
  obtain ⟨a3, a4⟩ := a2 (by omega)
  obtain ⟨b3, b4⟩ := b2 (by omega)
  exact ⟨by omega, fun e2 => befB_trans _ _ _ (a4 (by omega)) (b4 (by omega))⟩
theorem befB_irr (a : List Nat) : befB a a = false := by
  cases h : befB a a
  · rfl
  · have := befB_asym a a h
    rw [h] at this; cases this
def foldB (Ls : List (List Nat)) (o : List Nat) : List Nat := Ls.foldl (fun o x => if better x o = true then x else o) o
theorem foldB_spec : ∀ (Ls : List (List Nat)) (o : List Nat), (foldB Ls o = o ∨ foldB Ls o ∈ Ls) ∧ better o (foldB Ls o) = false ∧ ∀ x ∈ Ls, better x (foldB Ls o) = false := by
  intro Ls
  induction Ls with
  | nil =>
    intro o
    exact ⟨.inl rfl, (better_no _ _).2 ⟨Int.le_refl _, fun _ => ⟨Nat.le_refl _, fun _ => befB_irr _⟩⟩, by simp⟩
  | cons x Ls ih =>
    intro o
    have e : foldB (x :: Ls) o = foldB Ls (if better x o = true then x else o) := rfl
    rw [e]
    by_cases h : better x o = true
    · rw [if_pos h]
      obtain ⟨h1, h2, h3⟩ := ih x
      refine ⟨?_, worse_trans (better_asym h) h2, fun y hy => ?_⟩
      · rcases h1 with h1 | h1
        · exact .inr (by rw [h1]; simp)
        · exact .inr (List.mem_cons_of_mem _ h1)
      · rcases List.mem_cons.1 hy with rfl | hy
        · exact h2
        · exact h3 y hy
    · rw [if_neg h]
      obtain ⟨h1, h2, h3⟩ := ih o
      refine ⟨?_, h2, fun y hy => ?_⟩
      · rcases h1 with h1 | h1
        · exact .inl h1
        · exact .inr (List.mem_cons_of_mem _ h1)
      · rcases List.mem_cons.1 hy with rfl | hy
        · exact worse_trans (by simpa using h) h2
        · exact h3 y hy
theorem foldB_next (Ls : List (List Nat)) {k : Nat} {x : List Nat} (h : Ls[k]? = some x) (o : List Nat) : foldB (Ls.take (k + 1)) o = if better x (foldB (Ls.take k) o) = true then x else foldB (Ls.take k) o := by
  unfold foldB
  rw [List.take_add_one, h, List.foldl_append]
  rfl
/-- The best pressing is the plan. -/
theorem best_plan {l : List Nat} (hl : l.Pairwise (· < ·)) {F B : Nat} (hf : F < 2 ^ 10) (hF : ∀ s ∈ l, sub s F = true) (h0 : ∀ s ∈ l, 0 < s) : foldB (pressF l B 0 0 []) [] = plan l F B := by
  have hm : ∀ M, M ∈ pressF l B 0 0 [] ↔ Fam l B F 0 M := fun M => by
    rw [mem_pressF hl hF B 0 0 0 [] M (fun i s hs => ⟨fun _ => h0 s (List.mem_of_getElem? hs), fun _ => Nat.zero_le _⟩)]
    have e : dif F 0 = F := by
      refine Nat.eq_of_testBit_eq fun i => ?_
      rw [tb_dif, Nat.zero_testBit]; simp
    rw [e]
    constructor
    · rintro ⟨K, rfl, h⟩; simpa using h
    · intro h; exact ⟨M, by simp, h⟩
  obtain ⟨h1, h2, h3⟩ := foldB_spec (pressF l B 0 0 []) []
  obtain ⟨p1, p2⟩ := plan_fam (l := l) F B
  have p3 := plan_length (l := l) F B
  have pm : plan l F B ∈ pressF l B 0 0 [] := (hm _).2 (p1.mono_b (by rw [p3]; exact (few_spec (l := l) F B).1))
  obtain ⟨r, hr⟩ : ∃ r, foldB (pressF l B 0 0 []) [] = r := ⟨_, rfl⟩
  rw [hr] at h1 h2 h3 ⊢
  have hrF : Fam l B F 0 r := by
    rcases h1 with h1 | h1
    · rw [h1]; cases B <;> trivial
    · exact (hm r).1 h1
  have hw := h3 _ pm
  rw [better_no] at hw
  obtain ⟨q1, q2⟩ := plan_best hrF
  have e1 : pops (plan l F B) = pops r := by omega
  obtain ⟨w1, w2⟩ := hw.2 e1
  have e2 : r.length = few l F B := by have := q2 (by omega); omega
  have hx := plan_first hl hf hrF (by omega) e2
  exact (befB_lex _ _ (by omega) hx (w2 (by omega))).symm
end Go.Proofs.Ytbfjebglaimcmaa
